/- Texts of this proof and of the kit's print for this seat, gathered by wip/shake.py: only what the proof reaches. -/
import Derived.Test.YtlopfkkegjajlaaZd4
import Derived.Carry
import Derived.Deep.Cut
namespace Go.Proofs.Ytlopfkkegjajlaa
open Go.RowKit Go.Maps Go.Proofs.YtlopfkkegjajlaaW.PrintWords PHistoryTouched
theorem Boxed2.map {w : World} {o1 o2 : Obj} {W W' : World} {b : Nat} (h : Boxed2 w o1 o2 W) (hg : W.grownBy W' (some b)) (hb : w.heap.size + 2 ≤ b) : Boxed2 w o1 o2 W' :=
  h.grown hg (Below.grown h.b hg h.b.size (fun k e => by injection e with e; omega)) (fun e => by injection e with e; omega) (fun e => by injection e with e; omega)
theorem int_R_kept {w w' : World} {base : Nat} {ok : Nat → Prop} {v : Value} {xs : List Int} (h : (Kd.int .i64).R 3 w base ok v xs) (hk : ∀ k, v.ownBlock = some k → w'.heap[k]? = w.heap[k]?) : (Kd.int .i64).R 3 w' base (fun _ => True) v xs :=
  ints_R (own_move (inner_ints h) hk)
theorem own_lt_R {w : World} {base : Nat} {ok : Nat → Prop} {v : Value} {xs : List Int} (h : (Kd.int .i64).R 3 w base ok v xs) : ∀ k, v.ownBlock = some k → k < w.heap.size := fun k hk => own_lt (inner_ints h) k hk
theorem int_R_map {w w' : World} {base : Nat} {ok : Nat → Prop} {v : Value} {xs : List Int} {b n : Nat} {D : DataW Value} (h : (Kd.int .i64).R 3 w base ok v xs) (hm : w.ownsMap Try.prog 3 RV b n D) (hg : w.grownBy w' (some b)) : (Kd.int .i64).R 3 w' base (fun _ => True) v xs :=
  int_R_kept h (fun k hk => hg.block k (own_lt_R h k hk) (fun e => map_apart h hm (e.symm.trans hk.symm)))
theorem iter_apart {w : World} {base : Nat} {ok : Nat → Prop} {v : Value} {xs : List Int} {b r n : Nat} {D : DataW Value} {left : Lit → Bool} {cnt : Nat} (h : (Kd.int .i64).R 3 w base ok v xs) (hm : w.ranges Try.prog 3 RV b r n D left cnt) : some r ≠ v.ownBlock := fun e => by
  obtain ⟨cells, hc⟩ := own_typed (inner_ints h) r e.symm
  obtain ⟨es, clock, since, seen, c0, _, _, _, _, hr, _⟩ := hm
  rw [hr] at hc
  cases hc
theorem MapIs.congr {w : World} {D : DataW Value} {xs ys : List S76} (h : MapIs w D xs) (he : ∀ n, n ∈ xs ↔ n ∈ ys) : MapIs w D ys :=
  ⟨h.im, fun x => (h.has x).trans ⟨fun ⟨n, h1, h2⟩ => ⟨n, (he n).1 h1, h2⟩, fun ⟨n, h1, h2⟩ => ⟨n, (he n).2 h1, h2⟩⟩, fun n hn => h.at_ n ((he n).2 hn)⟩
theorem histNode_any (a b : S76) (hid : a.f0 = b.f0) (A4 A5 A6 B4 B5 B6 : Option Addr) (c4 c5 c6 d4 d5 d6 : Nat) (w : World) (ha : NodeR w a A4 c4 A5 c5 A6 c6) (hb : NodeR w b B4 d4 B5 d5 B6 d6) :
    Calls Try.prog 43 #[nodeV a A4 c4 A5 c5 A6 c6, nodeV b B4 d4 B5 d5 B6 d6] w fun e w' => e = .returned (.bool (tv (a = b))) ∧ Below w.heap.size w w' := by
  obtain ⟨k, h⟩ := (histSame_ev a b ha.len hid).rounds
  exact history_same.calls k a.f0 a.f1 a.f2 a.f3 A4 c4 a.f4 A5 c5 a.f5 A6 c6 a.f6 b.f0 b.f1 b.f2 b.f3 B4 d4 b.f4 B5 d5 b.f5 B6 d6 b.f6 _ w ha.r4 ha.l4 ha.r5 ha.l5 ha.r6 ha.l6 hb.r4 hb.l4 hb.r5 hb.l5 hb.r6 hb.l6 h
theorem size2 (w : World) (o p : Obj) : Hid (w.heap.size < ((w.alloc o).alloc p).heap.size ∧ w.heap.size + 1 < ((w.alloc o).alloc p).heap.size) := by
  have e1 : (w.alloc o).heap.size = w.heap.size + 1 := by simp
  have e2 : ((w.alloc o).alloc p).heap.size = (w.alloc o).heap.size + 1 := by simp
  unfold Hid
  omega
theorem blk_new2 (w : World) (o : Obj) (p : Obj) : ((w.alloc o).alloc p).heap[w.heap.size + 1]? = some p := by
  have := blk_new (w.alloc o) p
  have e : (w.alloc o).heap.size = w.heap.size + 1 := by simp
  rw [e] at this
  exact this
theorem take_rd {l : List S76} {j : Nat} (h : j < l.length) : l.take (j + 1) = l.take j ++ [rd_T76 l j] := by
  rw [List.take_succ_eq_append_getElem h]
  simp [rd_T76, List.getD_eq_getElem?_getD, List.getElem?_eq_getElem h]
theorem up_take {l : List S76} (h : Up l) {j : Nat} (hj : j < l.length) : ∀ n ∈ l.take j, n.f0 ≠ (rd_T76 l j).f0 := fun n hn e => by
  have h1 := List.Pairwise.sublist (List.take_sublist (j + 1) l) h
  rw [take_rd hj] at h1
  have := (List.pairwise_append.1 h1).2.2 n hn _ (List.mem_singleton.2 rfl)
  omega
theorem id_I64 {nx : Int} {l : List S76} (h : CheckP nx l) {j : Nat} (hj : j < l.length) : I64 (rd_T76 l j).f0 := by
  have hu := ids_up h.hi h.ids
  have h1 := hu.lo j hj
  have h2 := hu.hi j hj
  exact ⟨by omega, by omega⟩
noncomputable def restL (l m : List S76) (k : Nat) : List S76 := l.filter fun n => tv (∀ y ∈ m.take k, y.f0 ≠ n.f0)
theorem mem_rest {l m : List S76} {k : Nat} {n : S76} : n ∈ restL l m k ↔ n ∈ l ∧ ∀ y ∈ m.take k, y.f0 ≠ n.f0 := by
  unfold restL
  rw [List.mem_filter]
  simp [tv_iff]
theorem MapIs.start {w : World} {D : DataW Value} {l m : List S76} (h : MapIs w D (l.take l.length)) : MapIs w D (restL l m 0) :=
  h.congr fun n => by rw [mem_rest]; simp
theorem MapIs.gone {w : World} {D : DataW Value} {l m : List S76} {k : Nat} (hk : k < m.length) (h : MapIs w D (restL l m k)) : MapIs w (D.del (.int .i64 (rd_T76 m k).f0)) (restL l m (k + 1)) :=
  (h.del _).congr fun n => by
    rw [List.mem_filter, mem_rest, mem_rest, take_rd hk]
    constructor
    · rintro ⟨⟨h1, h2⟩, h3⟩
      have h3' : n.f0 ≠ (rd_T76 m k).f0 := by simpa using h3
      exact ⟨h1, fun y hy => by
        rcases List.mem_append.1 hy with hy | hy
        · exact h2 y hy
        · rw [List.mem_singleton.1 hy]; exact fun e => h3' e.symm⟩
    · rintro ⟨h1, h2⟩
      exact ⟨⟨h1, fun y hy => h2 y (List.mem_append_left _ hy)⟩, by
        have := h2 (rd_T76 m k) (by simp)
        simp; exact fun e => this e.symm⟩
theorem outB_take {l m : List S76} {k : Nat} (hk : k < m.length) : outB l (m.take (k + 1)) = outB l (m.take k) ++ (if tv (rd_T76 m k ∈ l) then [] else [(rd_T76 m k).f0]) := by
  rw [take_rd hk, outB_snoc]
def GotI (D : DataW Value) (left : Lit → Bool) (got : List Int) : Prop :=
  got.Nodup ∧ (∀ x, x ∈ got ↔ (Maps.has D (.int .i64 x) = true ∧ left (.int .i64 x) = false)) ∧ ∀ x, left (.int .i64 x) = true → Maps.has D (.int .i64 x) = true
theorem GotI.start (D : DataW Value) : GotI D (Maps.has D) [] := ⟨List.nodup_nil, fun x => by cases Maps.has D (.int .i64 x) <;> simp, fun _ h => h⟩
theorem GotI.step {D : DataW Value} {left : Lit → Bool} {got : List Int} (h : GotI D left got) {x : Int} (hl : left (.int .i64 x) = true) : GotI D (fun z => left z && !z.sameKey (.int .i64 x)) (got ++ [x]) := by
  obtain ⟨h1, h2, h3⟩ := h
  have hx : x ∉ got := fun hx => by have := (h2 x).1 hx; rw [hl] at this; cases this.2
  refine ⟨List.nodup_append.2 ⟨h1, List.nodup_cons.2 ⟨by simp, List.nodup_nil⟩, fun a ha b hb e => by rw [List.mem_singleton.1 hb] at e; rw [e] at ha; exact hx ha⟩, fun z => ?_, fun z hz => ?_⟩
  · rw [List.mem_append, h2 z]
    by_cases hz : z = x
    · subst hz
      have : (Lit.int .i64 z).sameKey (.int .i64 z) = true := by simp [Lit.sameKey]
      simp [this, h3 z hl]
    · have : (Lit.int .i64 z).sameKey (.int .i64 x) = false := by simp [Lit.sameKey]; exact hz
      simp [this, hz]
  · simp only [Bool.and_eq_true] at hz
    exact h3 z hz.1
theorem GotI.done {w : World} {D : DataW Value} {left : Lit → Bool} {got : List Int} {l m : List S76} (h : GotI D left got) (hl : ∀ kl, left kl = false) (hm : MapIs w D (restL l m m.length)) : got.Nodup ∧ ∀ x, x ∈ got ↔ ∃ a ∈ l, a.f0 = x ∧ ∀ b ∈ m, b.f0 ≠ x := by
  refine ⟨h.1, fun x => ?_⟩
  rw [h.2.1 x, hl, hm.has x]
  constructor
  · rintro ⟨⟨n, hn, rfl⟩, _⟩
    have := mem_rest.1 hn
    rw [List.take_length] at this
    exact ⟨n, this.1, rfl, this.2⟩
  · rintro ⟨n, hn, rfl, h2⟩
    exact ⟨⟨n, mem_rest.2 ⟨hn, by rw [List.take_length]; exact h2⟩, rfl⟩, rfl⟩
set_option maxRecDepth 100000 in
set_option maxHeartbeats 8000000 in
theorem touched_no1 (na nb : Int) (A B : Option Addr) (l m : List S76) (c d : Nat) (w : World) (hra : Kd.C k76 w A l.length l) (hwa : WfL l) (hrb : Kd.C k76 w B m.length m) (hwb : WfL m) (hk : ¬ CheckP na l) :
    Calls Try.prog 25 #[.agg #[.int .i64 na, .slice A l.length c], .agg #[.int .i64 nb, .slice B m.length d]] w (TouchPost 29 [] w) := by
  have HRA : Hid (Kd.C k76 w A l.length l) := hra
  have HRB : Hid (Kd.C k76 w B m.length m) := hrb
  have HWA : Hid (WfL l) := hwa
  have HWB : Hid (WfL m) := hwb
  have HBX : Hid (Boxed2 w (.cells #[.int .i64 na, .slice A l.length c] 27) (.cells #[.int .i64 nb, .slice B m.length d] 27) (((w.alloc (.cells #[.int .i64 na, .slice A l.length c] 27)).alloc (.cells #[.int .i64 nb, .slice B m.length d] 27)).alloc (.cells #[.int .i64 na, .slice A l.length c, .int .i64 nb, .slice B m.length d] 27))) := (boxed2 w (.cells #[.int .i64 na, .slice A l.length c] 27) (.cells #[.int .i64 nb, .slice B m.length d] 27)).below (below_alloc (Below.refl _ _) _)
  have K3 : Hid ((((w.alloc (.cells #[.int .i64 na, .slice A l.length c] 27)).alloc (.cells #[.int .i64 nb, .slice B m.length d] 27)).alloc (.cells #[.int .i64 na, .slice A l.length c, .int .i64 nb, .slice B m.length d] 27)).heap[w.heap.size + 2]? = some (.cells #[.int .i64 na, .slice A l.length c, .int .i64 nb, .slice B m.length d] 27 (0, 0))) := by
    have := blk_new ((w.alloc (.cells #[.int .i64 na, .slice A l.length c] 27)).alloc (.cells #[.int .i64 nb, .slice B m.length d] 27)) (.cells #[.int .i64 na, .slice A l.length c, .int .i64 nb, .slice B m.length d] 27)
    have e : ((w.alloc (.cells #[.int .i64 na, .slice A l.length c] 27)).alloc (.cells #[.int .i64 nb, .slice B m.length d] 27)).heap.size = w.heap.size + 2 := by simp
    rw [e] at this
    exact this
  clear hra hrb hwa hwb
  go_enter Try.func25, Try.ntmps25
  go_wp2_with fail
  generalize (((w.alloc (.cells #[.int .i64 na, .slice A l.length c] 27)).alloc (.cells #[.int .i64 nb, .slice B m.length d] 27)).alloc (.cells #[.int .i64 na, .slice A l.length c, .int .i64 nb, .slice B m.length d] 27)) = W at HBX K3 ⊢
  have q0 : W.cell? ⟨w.heap.size + 2, 0, none⟩ = some (.int .i64 na) := blk_cell K3.out 0
  have q1 : W.cell? ⟨w.heap.size + 2, 1, none⟩ = some (.slice A l.length c) := blk_cell K3.out 1
  have HBX4 : Hid (Boxed2 w (.cells #[.int .i64 na, .slice A l.length c] 27) (.cells #[.int .i64 nb, .slice B m.length d] 27) (W.alloc (.cells #[.int .i64 na, .slice A l.length c] 27))) := HBX.out.below (below_alloc (Below.refl _ _) _)
  have K4 := hidm (blk_alloc K3.out (.cells #[.int .i64 na, .slice A l.length c] 27))
  refine wp_loop_rounds 3 ?_
  rw [rounds_succ]
  go_wp2_with fail
  generalize (W.alloc (.cells #[.int .i64 na, .slice A l.length c] 27)) = w4 at HBX4 K4 ⊢
  clear HBX K3 q0 q1
  refine (check_any na l A c w4 (Kd.C_below HRA.out HBX4.out.b) HWA.out).mono ?_
  rintro e w5 ⟨rfl, hb⟩
  rw [errI_no hk]
  replace HBX4 := hidm (HBX4.out.below hb)
  replace K4 := hidm (blk_below K4.out hb)
  clear hb
  have HO : Hid (TouchPost 29 [] w (.returned (.tuple #[.slice none 0 0, .int .i64 29])) w5) := ⟨_, rfl, Kd.R_nil _ _ _ _ _, HBX4.out.b⟩
  go_wp2_with fail
  simp [bodyPost, results, Try.results25, go_sem]
  exact HO.out
set_option maxRecDepth 100000 in
set_option maxHeartbeats 8000000 in
theorem touched_no2 (na nb : Int) (A B : Option Addr) (l m : List S76) (c d : Nat) (w : World) (hra : Kd.C k76 w A l.length l) (hwa : WfL l) (hrb : Kd.C k76 w B m.length m) (hwb : WfL m) (hk1 : CheckP na l) (hk : ¬ CheckP nb m) :
    Calls Try.prog 25 #[.agg #[.int .i64 na, .slice A l.length c], .agg #[.int .i64 nb, .slice B m.length d]] w (TouchPost 29 [] w) := by
  have HRA : Hid (Kd.C k76 w A l.length l) := hra
  have HRB : Hid (Kd.C k76 w B m.length m) := hrb
  have HWA : Hid (WfL l) := hwa
  have HWB : Hid (WfL m) := hwb
  have HBX : Hid (Boxed2 w (.cells #[.int .i64 na, .slice A l.length c] 27) (.cells #[.int .i64 nb, .slice B m.length d] 27) (((w.alloc (.cells #[.int .i64 na, .slice A l.length c] 27)).alloc (.cells #[.int .i64 nb, .slice B m.length d] 27)).alloc (.cells #[.int .i64 na, .slice A l.length c, .int .i64 nb, .slice B m.length d] 27))) := (boxed2 w (.cells #[.int .i64 na, .slice A l.length c] 27) (.cells #[.int .i64 nb, .slice B m.length d] 27)).below (below_alloc (Below.refl _ _) _)
  have K3 : Hid ((((w.alloc (.cells #[.int .i64 na, .slice A l.length c] 27)).alloc (.cells #[.int .i64 nb, .slice B m.length d] 27)).alloc (.cells #[.int .i64 na, .slice A l.length c, .int .i64 nb, .slice B m.length d] 27)).heap[w.heap.size + 2]? = some (.cells #[.int .i64 na, .slice A l.length c, .int .i64 nb, .slice B m.length d] 27 (0, 0))) := by
    have := blk_new ((w.alloc (.cells #[.int .i64 na, .slice A l.length c] 27)).alloc (.cells #[.int .i64 nb, .slice B m.length d] 27)) (.cells #[.int .i64 na, .slice A l.length c, .int .i64 nb, .slice B m.length d] 27)
    have e : ((w.alloc (.cells #[.int .i64 na, .slice A l.length c] 27)).alloc (.cells #[.int .i64 nb, .slice B m.length d] 27)).heap.size = w.heap.size + 2 := by simp
    rw [e] at this
    exact this
  clear hra hrb hwa hwb
  go_enter Try.func25, Try.ntmps25
  go_wp2_with fail
  generalize (((w.alloc (.cells #[.int .i64 na, .slice A l.length c] 27)).alloc (.cells #[.int .i64 nb, .slice B m.length d] 27)).alloc (.cells #[.int .i64 na, .slice A l.length c, .int .i64 nb, .slice B m.length d] 27)) = W at HBX K3 ⊢
  have q0 : W.cell? ⟨w.heap.size + 2, 0, none⟩ = some (.int .i64 na) := blk_cell K3.out 0
  have q1 : W.cell? ⟨w.heap.size + 2, 1, none⟩ = some (.slice A l.length c) := blk_cell K3.out 1
  have HBX4 : Hid (Boxed2 w (.cells #[.int .i64 na, .slice A l.length c] 27) (.cells #[.int .i64 nb, .slice B m.length d] 27) (W.alloc (.cells #[.int .i64 na, .slice A l.length c] 27))) := HBX.out.below (below_alloc (Below.refl _ _) _)
  have K4 := hidm (blk_alloc K3.out (.cells #[.int .i64 na, .slice A l.length c] 27))
  refine wp_loop_rounds 3 ?_
  rw [rounds_succ]
  go_wp2_with fail
  generalize (W.alloc (.cells #[.int .i64 na, .slice A l.length c] 27)) = w4 at HBX4 K4 ⊢
  clear HBX K3 q0 q1
  refine (check_any na l A c w4 (Kd.C_below HRA.out HBX4.out.b) HWA.out).mono ?_
  rintro e w5 ⟨rfl, hb⟩
  rw [errI_yes hk1]
  replace HBX4 := hidm (HBX4.out.below hb)
  replace K4 := hidm (blk_below K4.out hb)
  clear hb
  have q0 : w5.cell? ⟨w.heap.size + 2, 2, none⟩ = some (.int .i64 nb) := blk_cell K4.out 2
  have q1 : w5.cell? ⟨w.heap.size + 2, 3, none⟩ = some (.slice B m.length d) := blk_cell K4.out 3
  have HBX5 : Hid (Boxed2 w (.cells #[.int .i64 na, .slice A l.length c] 27) (.cells #[.int .i64 nb, .slice B m.length d] 27) (w5.alloc (.cells #[.int .i64 nb, .slice B m.length d] 27))) := HBX4.out.below (below_alloc (Below.refl _ _) _)
  have K5 := hidm (blk_alloc K4.out (.cells #[.int .i64 nb, .slice B m.length d] 27))
  go_wp2_with fail
  rw [rounds_succ]
  go_wp2_with fail
  generalize (w5.alloc (.cells #[.int .i64 nb, .slice B m.length d] 27)) = w6 at HBX5 K5 ⊢
  clear HBX4 K4 q0 q1
  have HBX4 := HBX5
  have K4 := K5
  clear HBX5 K5
  refine (check_any nb m B d w6 (Kd.C_below HRB.out HBX4.out.b) HWB.out).mono ?_
  rintro e w7 ⟨rfl, hb⟩
  rw [errI_no hk]
  replace HBX4 := hidm (HBX4.out.below hb)
  replace K4 := hidm (blk_below K4.out hb)
  clear hb
  have HO : Hid (TouchPost 29 [] w (.returned (.tuple #[.slice none 0 0, .int .i64 29])) w7) := ⟨_, rfl, Kd.R_nil _ _ _ _ _, HBX4.out.b⟩
  go_wp2_with fail
  simp [bodyPost, results, Try.results25, go_sem]
  exact HO.out
set_option maxRecDepth 100000 in
set_option maxHeartbeats 8000000 in
theorem touched_yes (na nb : Int) (A B : Option Addr) (l m : List S76) (c d : Nat) (w : World) (hra : Kd.C k76 w A l.length l) (hwa : WfL l) (hrb : Kd.C k76 w B m.length m) (hwb : WfL m) (hk1 : CheckP na l) (hk2 : CheckP nb m) (hl : l.length ≤ 1048576) (hm : m.length ≤ 1048576) :
    Calls Try.prog 25 #[.agg #[.int .i64 na, .slice A l.length c], .agg #[.int .i64 nb, .slice B m.length d]] w (TouchPost 0 (refT l m) w) := by
  have HK1 := hidm hk1
  have HK2 := hidm hk2
  have HLL := hidm hl
  have HML := hidm hm
  have HUL := hidm (up_of_check hk1)
  have HUM := hidm (up_of_check hk2)
  have HRA : Hid (Kd.C k76 w A l.length l) := hra
  have HRB : Hid (Kd.C k76 w B m.length m) := hrb
  have HWA : Hid (WfL l) := hwa
  have HWB : Hid (WfL m) := hwb
  have HBX : Hid (Boxed2 w (.cells #[.int .i64 na, .slice A l.length c] 27) (.cells #[.int .i64 nb, .slice B m.length d] 27) (((w.alloc (.cells #[.int .i64 na, .slice A l.length c] 27)).alloc (.cells #[.int .i64 nb, .slice B m.length d] 27)).alloc (.cells #[.int .i64 na, .slice A l.length c, .int .i64 nb, .slice B m.length d] 27))) := (boxed2 w (.cells #[.int .i64 na, .slice A l.length c] 27) (.cells #[.int .i64 nb, .slice B m.length d] 27)).below (below_alloc (Below.refl _ _) _)
  have K3 : Hid ((((w.alloc (.cells #[.int .i64 na, .slice A l.length c] 27)).alloc (.cells #[.int .i64 nb, .slice B m.length d] 27)).alloc (.cells #[.int .i64 na, .slice A l.length c, .int .i64 nb, .slice B m.length d] 27)).heap[w.heap.size + 2]? = some (.cells #[.int .i64 na, .slice A l.length c, .int .i64 nb, .slice B m.length d] 27 (0, 0))) := by
    have := blk_new ((w.alloc (.cells #[.int .i64 na, .slice A l.length c] 27)).alloc (.cells #[.int .i64 nb, .slice B m.length d] 27)) (.cells #[.int .i64 na, .slice A l.length c, .int .i64 nb, .slice B m.length d] 27)
    have e : ((w.alloc (.cells #[.int .i64 na, .slice A l.length c] 27)).alloc (.cells #[.int .i64 nb, .slice B m.length d] 27)).heap.size = w.heap.size + 2 := by simp
    rw [e] at this
    exact this
  clear hra hrb hwa hwb
  go_enter Try.func25, Try.ntmps25
  go_wp2_with fail
  generalize (((w.alloc (.cells #[.int .i64 na, .slice A l.length c] 27)).alloc (.cells #[.int .i64 nb, .slice B m.length d] 27)).alloc (.cells #[.int .i64 na, .slice A l.length c, .int .i64 nb, .slice B m.length d] 27)) = W at HBX K3 ⊢
  have q0 : W.cell? ⟨w.heap.size + 2, 0, none⟩ = some (.int .i64 na) := blk_cell K3.out 0
  have q1 : W.cell? ⟨w.heap.size + 2, 1, none⟩ = some (.slice A l.length c) := blk_cell K3.out 1
  have HBX4 : Hid (Boxed2 w (.cells #[.int .i64 na, .slice A l.length c] 27) (.cells #[.int .i64 nb, .slice B m.length d] 27) (W.alloc (.cells #[.int .i64 na, .slice A l.length c] 27))) := HBX.out.below (below_alloc (Below.refl _ _) _)
  have K4 := hidm (blk_alloc K3.out (.cells #[.int .i64 na, .slice A l.length c] 27))
  refine wp_loop_rounds 3 ?_
  rw [rounds_succ]
  go_wp2_with fail
  generalize (W.alloc (.cells #[.int .i64 na, .slice A l.length c] 27)) = w4 at HBX4 K4 ⊢
  clear HBX K3 q0 q1
  refine (check_any na l A c w4 (Kd.C_below HRA.out HBX4.out.b) HWA.out).mono ?_
  rintro e w5 ⟨rfl, hb⟩
  rw [errI_yes hk1]
  replace HBX4 := hidm (HBX4.out.below hb)
  replace K4 := hidm (blk_below K4.out hb)
  clear hb
  have q0 : w5.cell? ⟨w.heap.size + 2, 2, none⟩ = some (.int .i64 nb) := blk_cell K4.out 2
  have q1 : w5.cell? ⟨w.heap.size + 2, 3, none⟩ = some (.slice B m.length d) := blk_cell K4.out 3
  have HBX5 : Hid (Boxed2 w (.cells #[.int .i64 na, .slice A l.length c] 27) (.cells #[.int .i64 nb, .slice B m.length d] 27) (w5.alloc (.cells #[.int .i64 nb, .slice B m.length d] 27))) := HBX4.out.below (below_alloc (Below.refl _ _) _)
  have K5 := hidm (blk_alloc K4.out (.cells #[.int .i64 nb, .slice B m.length d] 27))
  go_wp2_with fail
  rw [rounds_succ]
  go_wp2_with fail
  generalize (w5.alloc (.cells #[.int .i64 nb, .slice B m.length d] 27)) = w6 at HBX5 K5 ⊢
  clear HBX4 K4 q0 q1
  have HBX4 := HBX5
  have K4 := K5
  clear HBX5 K5
  refine (check_any nb m B d w6 (Kd.C_below HRB.out HBX4.out.b) HWB.out).mono ?_
  rintro e w7 ⟨rfl, hb⟩
  rw [errI_yes hk2]
  replace HBX4 := hidm (HBX4.out.below hb)
  replace K4 := hidm (blk_below K4.out hb)
  clear hb
  clear hk1 hk2
  have hmm := @run_makeMap Try.prog
  have q0 : (w7.alloc (.map #[] 0)).cell? ⟨w.heap.size, 1, none⟩ = some (.slice A l.length c) := blk_cell (blk_alloc HBX4.out.k1 _) 1
  have HM0 : Hid ((w7.alloc (.map #[] 0)).ownsMap Try.prog 3 RV w7.heap.size 0 (.map [])) := World.ownsMap_made w7 Try.prog 3 RV
  have HB0 : Hid (Boxed2 w (.cells #[.int .i64 na, .slice A l.length c] 27) (.cells #[.int .i64 nb, .slice B m.length d] 27) (w7.alloc (.map #[] 0))) := HBX4.out.below (below_alloc (Below.refl _ _) _)
  have HMB : Hid (w.heap.size + 2 ≤ w7.heap.size) := Nat.le_of_lt (Array.getElem?_eq_some_iff.1 K4.out).1
  go_wp2_with fail
  rw [rounds_succ]
  go_wp2_with fail
  clear hmm q0 HBX4 K4
  generalize (w7.alloc (.map #[] 0)) = w8 at HM0 HB0 ⊢
  generalize w7.heap.size = mb at HM0 HMB ⊢
  go_loopw [36] (fun v W => ∃ (j : Nat) (D : DataW Value), j ≤ l.length ∧ v = .int .i64 j ∧ Hid (MapIs w D (l.take j)) ∧ Hid (W.ownsMap Try.prog 3 RV mb j D) ∧ Hid (Boxed2 w (.cells #[.int .i64 na, .slice A l.length c] 27) (.cells #[.int .i64 nb, .slice B m.length d] 27) W)) (fun v _ => l.length - (intOf v).toNat)
  case atStart => exact ⟨0, .map [], Nat.zero_le _, rfl, hidm (MapIs.nil w), HM0, HB0⟩
  case round =>
    clear HM0 HB0
    obtain ⟨j, D, hjl, rfl, HMI, HOW, HB⟩ := hrel
    by_cases hj : j < l.length
    · obtain ⟨ad, A4, c4, A5, c5, A6, c6, hA, hna⟩ := nodeAt HRA.out j hj
      subst hA
      have HNR := hidm hna.r
      have HNA := hidm (hna.below HB.out.b)
      clear hna
      have hj0 : (0 : Int) ≤ (j : Int) := by omega
      have hj1 : (j : Int) < (l.length : Int) := by omega
      have HN : Hid (j < maxLen) := by have := HLL.out; unfold Hid maxLen; omega
      have HID : Hid (I64 (rd_T76 l j).f0) := id_I64 HK1.out hj
      have x0 : wr.cell? (ad.add (j * 7)) = some (.int .i64 (rd_T76 l j).f0) := HNA.out.y0
      have x1 : wr.cell? ⟨(ad.add (j * 7)).block, (ad.add (j * 7)).off + 1, none⟩ = some (.string (rd_T76 l j).f1) := HNA.out.y1
      have x2 : wr.cell? ⟨(ad.add (j * 7)).block, (ad.add (j * 7)).off + 2, none⟩ = some (.int .i64 (rd_T76 l j).f2) := HNA.out.y2
      have x3 : wr.cell? ⟨(ad.add (j * 7)).block, (ad.add (j * 7)).off + 3, none⟩ = some (.string (rd_T76 l j).f3) := HNA.out.y3
      have x4 : wr.cell? ⟨(ad.add (j * 7)).block, (ad.add (j * 7)).off + 4, none⟩ = some (.slice A4 (rd_T76 l j).f4.length c4) := HNA.out.y4
      have x5 : wr.cell? ⟨(ad.add (j * 7)).block, (ad.add (j * 7)).off + 5, none⟩ = some (.slice A5 (rd_T76 l j).f5.length c5) := HNA.out.y5
      have x6 : wr.cell? ⟨(ad.add (j * 7)).block, (ad.add (j * 7)).off + 6, none⟩ = some (.slice A6 (rd_T76 l j).f6.length c6) := HNA.out.y6
      go_wp2_with (at_mapUpdate; refine wpList_mapUpdate_own _ rfl _ _ _ 87 rfl 3 76 KI Try.underlying87 RV mb j D rfl (HOW.out.alloc _) HN.out _ _ (.int .i64 (rd_T76 l j).f0) rfl rfl (keyI HID.out) (.held (nodeV (rd_T76 l j) A4 c4 A5 c5 A6 c6)) [] rfl ?_
                   intro w9 hown hgrow
                   have HB9 := hidm ((HB.out.below (below_alloc (Below.refl _ _) _)).map hgrow HMB.out)
                   have HO9 := hidm hown
                   clear hown hgrow)
      have HMI9 : Hid (MapIs w (D.put (.int .i64 (rd_T76 l j).f0) (.held (nodeV (rd_T76 l j) A4 c4 A5 c5 A6 c6))) (l.take (j + 1))) := by
        rw [take_rd hj]
        exact HMI.out.put (up_take HUL.out hj) HNR.out
      go_roundw
      case rel => exact ⟨j + 1, _, by omega, by go_num, HMI9, HO9, HB9⟩
      case measure => simp [intOf]; omega
    · have hje : j = l.length := by omega
      subst hje
      have hj1 : ¬ (l.length : Int) < (l.length : Int) := by omega
      have HMS : Hid (MapIs w D (restL l m 0)) := MapIs.start HMI.out
      have q1 : wr.cell? ⟨w.heap.size + 1, 1, none⟩ = some (.slice B m.length d) := blk_cell HB.out.k2 1
      have HOW0 := HOW
      have HB0 := HB
      clear HMI HOW HB hjl
      go_wp2_with fail
      clear q1
      obtain ⟨wo, rfl⟩ : ∃ wo : World, wo = wr := ⟨_, rfl⟩
      clear hj hj1
      go_loopw [12, 48] (fun u v W => ∃ (k : Nat) (D : DataW Value), k ≤ m.length ∧ v = .int .i64 k ∧ Hid (MapIs w D (restL l m k)) ∧ Hid (W.ownsMap Try.prog 3 RV mb l.length D) ∧ Hid (Boxed2 w (.cells #[.int .i64 na, .slice A l.length c] 27) (.cells #[.int .i64 nb, .slice B m.length d] 27) W) ∧ Hid ((Kd.int .i64).R 3 W w.heap.size (fun _ => True) u (outB l (m.take k))) ∧ Hid ((outB l (m.take k)).length ≤ k)) (fun _ v _ => m.length - (intOf v).toNat)
      case atStart => exact ⟨0, D, Nat.zero_le _, rfl, HMS, HOW0, HB0, hidm (by rw [List.take_zero]; exact Kd.R_nil _ _ _ _ _), hidm (by rw [List.take_zero]; exact Nat.le_refl _)⟩
      case round =>
        clear HMS HOW0 HB0
        clear D
        obtain ⟨k, D, hkl, rfl, HMI, HOW, HBX, HO, HLN⟩ := hrel
        by_cases hk : k < m.length
        · obtain ⟨bd, B4, d4, B5, d5, B6, d6, hB, hnb⟩ := nodeAt HRB.out k hk
          subst hB
          have HNR := hidm hnb.r
          have HNB := hidm (hnb.below HBX.out.b)
          clear hnb
          have hk0 : (0 : Int) ≤ (k : Int) := by omega
          have hk1 : (k : Int) < (m.length : Int) := by omega
          have HID : Hid (I64 (rd_T76 m k).f0) := id_I64 HK2.out hk
          have x0 : wr.cell? (bd.add (k * 7)) = some (.int .i64 (rd_T76 m k).f0) := HNB.out.y0
          have x1 : wr.cell? ⟨(bd.add (k * 7)).block, (bd.add (k * 7)).off + 1, none⟩ = some (.string (rd_T76 m k).f1) := HNB.out.y1
          have x2 : wr.cell? ⟨(bd.add (k * 7)).block, (bd.add (k * 7)).off + 2, none⟩ = some (.int .i64 (rd_T76 m k).f2) := HNB.out.y2
          have x3 : wr.cell? ⟨(bd.add (k * 7)).block, (bd.add (k * 7)).off + 3, none⟩ = some (.string (rd_T76 m k).f3) := HNB.out.y3
          have x4 : wr.cell? ⟨(bd.add (k * 7)).block, (bd.add (k * 7)).off + 4, none⟩ = some (.slice B4 (rd_T76 m k).f4.length d4) := HNB.out.y4
          have x5 : wr.cell? ⟨(bd.add (k * 7)).block, (bd.add (k * 7)).off + 5, none⟩ = some (.slice B5 (rd_T76 m k).f5.length d5) := HNB.out.y5
          have x6 : wr.cell? ⟨(bd.add (k * 7)).block, (bd.add (k * 7)).off + 6, none⟩ = some (.slice B6 (rd_T76 m k).f6.length d6) := HNB.out.y6
          have HNEXT : Hid (MapIs w (D.del (.int .i64 (rd_T76 m k).f0)) (restL l m (k + 1))) := HMI.out.gone hk
          have HLE : Hid ((outB l (m.take (k + 1))).length ≤ k + 1) := by
            rw [outB_take hk, List.length_append]
            have h1 := HLN.out
            have h2 : (if tv ((rd_T76 m k) ∈ l) = true then ([] : List Int) else [(rd_T76 m k).f0]).length ≤ 1 := by split <;> simp
            exact hidm (by omega)
          by_cases hx : ∃ n ∈ restL l m k, n.f0 = (rd_T76 m k).f0
          · obtain ⟨n, hn, hne⟩ := hx
            obtain ⟨C4, e4, C5, e5, C6, e6, hnr, hat⟩ := HMI.out.at_ n hn
            have HNN := hidm hnr
            have HNE := hidm hne
            have HNM : Hid (n ∈ l) := (mem_rest.1 hn).1
            have HAT : Hid (∀ zd, D.atKey (.int .i64 (rd_T76 m k).f0) zd = .held (nodeV n C4 e4 C5 e5 C6 e6)) := by rw [← hne]; exact hidm hat
            have HHAS : Hid (Maps.has D (.int .i64 (rd_T76 m k).f0) = true) := (HMI.out.has _).2 ⟨n, hn, hne⟩
            clear hn hne hnr hat
            go_wp2_with (first
              | (at_lookup; refine lookup_yes _ rfl _ _ rfl (zero76 _) mb l.length D rfl (HOW.out.alloc _) (rd_T76 m k).f0 rfl HID.out HHAS.out HAT.out ?_)
              | (at_delete; refine wpList_delete_own _ rfl _ _ 87 3 rfl 76 KI Try.underlying87 RV mb l.length D rfl ((HOW.out.alloc _).alloc _) _ (.int .i64 (rd_T76 m k).f0) rfl (keyI HID.out) ?_
                 intro w9 hown hturn
                 have HG := hidm hturn.grown
                 have HOW9 := hidm hown
                 have HSZ : Hid (wr.heap.size < ((wr.alloc (.cells (nodeCs (rd_T76 m k) B4 d4 B5 d5 B6 d6) 76)).alloc (.cells (nodeCs n C4 e4 C5 e5 C6 e6) 76)).heap.size ∧ wr.heap.size + 1 < ((wr.alloc (.cells (nodeCs (rd_T76 m k) B4 d4 B5 d5 B6 d6) 76)).alloc (.cells (nodeCs n C4 e4 C5 e5 C6 e6) 76)).heap.size) := size2 wr _ _
                 have HBX9 := hidm ((HBX.out.below (below_alloc (below_alloc (Below.refl _ _) _) _)).map HG.out HMB.out)
                 have HO9 := hidm (int_R_map (Kd.R_below HO.out (below_alloc (below_alloc (Below.refl _ _) _) _)) ((HOW.out.alloc _).alloc _) HG.out)
                 have K14 : Hid (w9.heap[wr.heap.size]? = some (.cells (nodeCs (rd_T76 m k) B4 d4 B5 d5 B6 d6) 76 (0, 0))) := (HG.out.block _ HSZ.out.1 (fun e => by injection e with e; have := HOW.out.lt; omega)).trans (blk_alloc (blk_new wr (.cells (nodeCs (rd_T76 m k) B4 d4 B5 d5 B6 d6) 76)) (.cells (nodeCs n C4 e4 C5 e5 C6 e6) 76))
                 have K15 : Hid (w9.heap[wr.heap.size + 1]? = some (.cells (nodeCs n C4 e4 C5 e5 C6 e6) 76 (0, 0))) := (HG.out.block _ HSZ.out.2 (fun e => by injection e with e; have := HOW.out.lt; omega)).trans (blk_new2 wr _ _)
                 have p0 : w9.cell? ⟨wr.heap.size, 0, none⟩ = some (.int .i64 (rd_T76 m k).f0) := blk_cell K14.out 0
                 have p1 : w9.cell? ⟨wr.heap.size, 1, none⟩ = some (.string (rd_T76 m k).f1) := blk_cell K14.out 1
                 have p2 : w9.cell? ⟨wr.heap.size, 2, none⟩ = some (.int .i64 (rd_T76 m k).f2) := blk_cell K14.out 2
                 have p3 : w9.cell? ⟨wr.heap.size, 3, none⟩ = some (.string (rd_T76 m k).f3) := blk_cell K14.out 3
                 have p4 : w9.cell? ⟨wr.heap.size, 4, none⟩ = some (.slice B4 (rd_T76 m k).f4.length d4) := blk_cell K14.out 4
                 have p5 : w9.cell? ⟨wr.heap.size, 5, none⟩ = some (.slice B5 (rd_T76 m k).f5.length d5) := blk_cell K14.out 5
                 have p6 : w9.cell? ⟨wr.heap.size, 6, none⟩ = some (.slice B6 (rd_T76 m k).f6.length d6) := blk_cell K14.out 6
                 have r0 : w9.cell? ⟨wr.heap.size + 1, 0, none⟩ = some (.int .i64 n.f0) := blk_cell K15.out 0
                 have r1 : w9.cell? ⟨wr.heap.size + 1, 1, none⟩ = some (.string n.f1) := blk_cell K15.out 1
                 have r2 : w9.cell? ⟨wr.heap.size + 1, 2, none⟩ = some (.int .i64 n.f2) := blk_cell K15.out 2
                 have r3 : w9.cell? ⟨wr.heap.size + 1, 3, none⟩ = some (.string n.f3) := blk_cell K15.out 3
                 have r4 : w9.cell? ⟨wr.heap.size + 1, 4, none⟩ = some (.slice C4 n.f4.length e4) := blk_cell K15.out 4
                 have r5 : w9.cell? ⟨wr.heap.size + 1, 5, none⟩ = some (.slice C5 n.f5.length e5) := blk_cell K15.out 5
                 have r6 : w9.cell? ⟨wr.heap.size + 1, 6, none⟩ = some (.slice C6 n.f6.length e6) := blk_cell K15.out 6
                 clear hown hturn))
            refine (histNode_any n (rd_T76 m k) HNE.out C4 C5 C6 B4 B5 B6 e4 e5 e6 d4 d5 d6 w9 (HNN.out.below HBX9.out.b) (HNR.out.below HBX9.out.b)).mono ?_
            rintro e w10 ⟨rfl, hb10⟩
            replace HOW9 := hidm (HOW9.out.kept ⟨hb10.os, hb10.tape, hb10.output, hb10.size, fun k hk _ => hb10.block k hk⟩ (row := none) (by simp))
            replace HBX9 := hidm (HBX9.out.below hb10)
            replace HO9 := hidm (Kd.R_below HO9.out hb10)
            replace K14 := hidm (blk_below K14.out hb10)
            clear hb10 p0 p1 p2 p3 p4 p5 p6 r0 r1 r2 r3 r4 r5 r6
            have p0 : w10.cell? ⟨wr.heap.size, 0, none⟩ = some (.int .i64 (rd_T76 m k).f0) := blk_cell K14.out 0
            by_cases hs : n = (rd_T76 m k)
            · have HNO : Hid (tv ((rd_T76 m k) ∈ l) = true) := tv_yes (by rw [← hs]; exact HNM.out)
              rw [tv_yes hs]
              clear hs
              go_wp2_with fail
              go_roundw
              case rel => exact ⟨k + 1, _, by omega, by go_num, HNEXT, HOW9, HBX9, hidm (by rw [outB_take hk, HNO.out, if_pos rfl, List.append_nil]; exact HO9.out), HLE⟩
              case measure => simp [intOf]; omega
            · have HNO : Hid ((if tv ((rd_T76 m k) ∈ l) = true then ([] : List Int) else [(rd_T76 m k).f0]) = [(rd_T76 m k).f0]) := by
                rw [tv_no (fun h => hs (HUL.out.inj HNM.out h HNE.out))]
                exact hidm rfl
              rw [tv_no hs]
              clear hs
              go_wp2_with (at_builtin; refine Kd.R_append (Kd.int .i64) (w0 := w) w.heap.size rfl (.tmp 70) (.tmp 73) 54 3 (.int .i64 0) 8 rfl Try.underlying54 info3 rfl (by decide) (by decide) u12 (outB l (m.take k)) (rd_T76 m k).f0 [.int .i64 (rd_T76 m k).f0] (fun _ => True) (fun _ => False) rfl rfl rfl (fun _ h => h.elim) (fun _ _ => trivial) HO9.out HBX9.out.b HBX9.out.b.size (by have := HLN.out; have := HML.out; omega) ?_
                           intro v2 w11 hN hB hg hat
                           have HB11 := hidm (HBX9.out.grown hg hB (Kd.R_ne HO9.out HBX9.out.k1 (by decide)) (Kd.R_ne HO9.out HBX9.out.k2 (by decide)))
                           have HOW11 := hidm (HOW9.out.kept hg (map_apart HO9.out HOW9.out))
                           have HO11 := hidm hN
                           clear hN hB hg hat)
              go_roundw
              case rel => exact ⟨k + 1, _, by omega, by go_num, HNEXT, HOW11, HB11, hidm (by rw [outB_take hk, HNO.out]; exact HO11.out), HLE⟩
              case measure => simp [intOf]; omega
          · have HNO : Hid ((if tv ((rd_T76 m k) ∈ l) = true then ([] : List Int) else [(rd_T76 m k).f0]) = [(rd_T76 m k).f0]) := by
              rw [tv_no (fun h => hx ⟨(rd_T76 m k), mem_rest.2 ⟨h, up_take HUM.out hk⟩, rfl⟩)]
              exact hidm rfl
            have HHAS : Hid (Maps.has D (.int .i64 (rd_T76 m k).f0) = false) := by
              cases hh : Maps.has D (.int .i64 (rd_T76 m k).f0) with
              | false => exact hidm rfl
              | true => exact absurd ((HMI.out.has _).1 hh) hx
            clear hx
            go_wp2_with (first
              | (at_lookup; refine lookup_no _ rfl _ _ rfl (zero76 _) mb l.length D rfl (HOW.out.alloc _) (rd_T76 m k).f0 rfl HID.out HHAS.out ?_)
              | (at_delete; refine wpList_delete_own _ rfl _ _ 87 3 rfl 76 KI Try.underlying87 RV mb l.length D rfl ((HOW.out.alloc _).alloc _) _ (.int .i64 (rd_T76 m k).f0) rfl (keyI HID.out) ?_
                 intro w9 hown hturn
                 have HG := hidm hturn.grown
                 have HOW9 := hidm hown
                 have HSZ : Hid (wr.heap.size < ((wr.alloc (.cells (nodeCs (rd_T76 m k) B4 d4 B5 d5 B6 d6) 76)).alloc (.cells #[.int .i64 0, .string ⟨#[]⟩, .int .i64 0, .string ⟨#[]⟩, .slice none 0 0, .slice none 0 0, .slice none 0 0] 76)).heap.size ∧ wr.heap.size + 1 < ((wr.alloc (.cells (nodeCs (rd_T76 m k) B4 d4 B5 d5 B6 d6) 76)).alloc (.cells #[.int .i64 0, .string ⟨#[]⟩, .int .i64 0, .string ⟨#[]⟩, .slice none 0 0, .slice none 0 0, .slice none 0 0] 76)).heap.size) := size2 wr _ _
                 have HBX9 := hidm ((HBX.out.below (below_alloc (below_alloc (Below.refl _ _) _) _)).map HG.out HMB.out)
                 have HO9 := hidm (int_R_map (Kd.R_below HO.out (below_alloc (below_alloc (Below.refl _ _) _) _)) ((HOW.out.alloc _).alloc _) HG.out)
                 have K14 : Hid (w9.heap[wr.heap.size]? = some (.cells (nodeCs (rd_T76 m k) B4 d4 B5 d5 B6 d6) 76 (0, 0))) := (HG.out.block _ HSZ.out.1 (fun e => by injection e with e; have := HOW.out.lt; omega)).trans (blk_alloc (blk_new wr (.cells (nodeCs (rd_T76 m k) B4 d4 B5 d5 B6 d6) 76)) (.cells #[.int .i64 0, .string ⟨#[]⟩, .int .i64 0, .string ⟨#[]⟩, .slice none 0 0, .slice none 0 0, .slice none 0 0] 76))
                 have p0 : w9.cell? ⟨wr.heap.size, 0, none⟩ = some (.int .i64 (rd_T76 m k).f0) := blk_cell K14.out 0
                 clear hown hturn)
              | (at_builtin; refine Kd.R_append (Kd.int .i64) (w0 := w) w.heap.size rfl (.tmp 70) (.tmp 73) 54 3 (.int .i64 0) 8 rfl Try.underlying54 info3 rfl (by decide) (by decide) u12 (outB l (m.take k)) (rd_T76 m k).f0 [.int .i64 (rd_T76 m k).f0] (fun _ => True) (fun _ => False) rfl rfl rfl (fun _ h => h.elim) (fun _ _ => trivial) HO9.out HBX9.out.b HBX9.out.b.size (by have := HLN.out; have := HML.out; omega) ?_
                 intro v2 w11 hN hB hg hat
                 have HB11 := hidm (HBX9.out.grown hg hB (Kd.R_ne HO9.out HBX9.out.k1 (by decide)) (Kd.R_ne HO9.out HBX9.out.k2 (by decide)))
                 have HOW11 := hidm (HOW9.out.kept hg (map_apart HO9.out HOW9.out))
                 have HO11 := hidm hN
                 clear hN hB hg hat))
            go_roundw
            case rel => exact ⟨k + 1, _, by omega, by go_num, HNEXT, HOW11, HB11, hidm (by rw [outB_take hk, HNO.out]; exact HO11.out), HLE⟩
            case measure => simp [intOf]; omega
        · have hke : k = m.length := by omega
          subst hke
          have hk1 : ¬ (m.length : Int) < (m.length : Int) := by omega
          rw [List.take_length] at HO HLN
          go_wp2_with (at_range; refine wpList_range_own _ rfl _ 87 rfl 3 76 KI Try.underlying87 RV mb l.length D rfl HOW.out ?_
                       intro w9 hrg hg hs
                       have HRG := hidm hrg
                       have HO9 := hidm (int_R_kept HO.out (fun k hk => hg.block k (own_lt_R HO.out k hk) (by simp)))
                       have HB9 : Hid (Below w.heap.size w w9) := Below.grown HBX.out.b hg HBX.out.b.size (fun k e => by cases e)
                       have HSZ : Hid (Maps.size D ≤ l.length) := HOW.out.size_le
                       have HRB9 : Hid (w.heap.size ≤ wr.heap.size) := HBX.out.b.size
                       clear hrg hg hs)
          try go_frame
          clear HOW HBX HO hk1 hkl hk
          obtain ⟨r, hr⟩ : ∃ r, wr.heap.size = r := ⟨_, rfl⟩
          rw [hr] at HRG HRB9 ⊢
          clear hr
          go_loopw [12] (fun u W => ∃ (left : Lit → Bool) (cnt : Nat) (got : List Int), Hid (W.ranges Try.prog 3 RV mb r l.length D left cnt) ∧ Hid (got.length + cnt ≤ l.length) ∧ Hid (GotI D left got) ∧ Hid (Below w.heap.size w W) ∧ Hid ((Kd.int .i64).R 3 W w.heap.size (fun _ => True) u (outB l m ++ got))) (fun _ W => W.rangeLeft mb r)
          case atStart => exact ⟨Maps.has D, Maps.size D, [], HRG, hidm (by have := HSZ.out; simpa using this), hidm (GotI.start D), HB9, hidm (by rw [List.append_nil]; exact HO9.out)⟩
          case round =>
            clear HRG HB9 HO9
            obtain ⟨left, cnt, got, HRG, HCN, HGOT, HB, HO⟩ := hrel
            have HRL : Hid (wr.rangeLeft mb r = cnt) := HRG.out.left_eq
            have HLEN : Hid ((outB l m ++ got).length ≤ m.length + l.length) := by
              have h1 := HLN.out
              have h2 := HCN.out
              unfold Hid
              rw [List.length_append]
              omega
            go_wp2_with (at_next; refine wpList_next_ranges _ rfl _ rfl 3 KI RV (Value.int .i64) (fun v : Value => v) (fun key kl hkey => by obtain ⟨x, rfl, _⟩ := Maps.keyOf_int_inv Try.underlying3 hkey; exact ⟨x, rfl⟩) (fun v y _ => ⟨v, rfl⟩) mb r l.length D left cnt rfl HRG.out ?_ ?_)
            · intro hc0 hl0
              have HD := hidm (HGOT.out.done hl0 HMI.out)
              have HLAW : Hid ((outB l m ++ got).mergeSort leI = refT l m) := touched_law HUL.out HUM.out HD.out.1 HD.out.2
              clear hc0 hl0 HD
              go_wp2_with fail
              refine (sort_any u12 (outB l m ++ got) w.heap.size _ wr HO.out (by have := HLEN.out; have := HML.out; have := HLL.out; omega)).mono ?_
              rintro e w12 ⟨rfl, hs, hg⟩
              rw [HLAW.out] at hs
              have HP : Hid (TouchPost 0 (refT l m) w (.returned (.tuple #[u12, .int .i64 0])) w12) := ⟨_, rfl, hs, Below.grown HB.out hg HB.out.size (fun k hk => own_base (inner_ints HO.out) k hk)⟩
              clear hs hg
              go_wp2_with fail
              simp [bodyPost, results, Try.results25, go_sem]
              exact HP.out
            · intro x cval kl yd yp w9 cnt2 hkey hlk hv hat hrg hlt hg hs hen
              obtain ⟨x', ex, rfl, _⟩ := Maps.keyOf_int_inv Try.underlying3 hkey
              cases ex
              have HRG9 := hidm hrg
              have HGOT9 := hidm (HGOT.out.step hlk)
              have HO9 := hidm (int_R_kept HO.out (fun k hk => hg.block k (own_lt_R HO.out k hk) (fun e => iter_apart HO.out HRG.out (e.symm.trans hk.symm))))
              have HB9 : Hid (Below w.heap.size w w9) := Below.grown HB.out hg HB.out.size (fun k e => by injection e with e; have := HRB9.out; omega)
              have HLT := hidm hlt
              clear hkey hlk hv hat hrg hlt hg hs
              go_wp2_with (at_builtin; refine Kd.R_append (Kd.int .i64) (w0 := w) w.heap.size rfl (.tmp 82) (.tmp 84) 54 3 (.int .i64 0) 8 rfl Try.underlying54 info3 rfl (by decide) (by decide) u12 (outB l m ++ got) x [.int .i64 x] (fun _ => True) (fun _ => False) rfl rfl rfl (fun _ h => h.elim) (fun _ _ => trivial) HO9.out HB9.out HB9.out.size (by have := HLEN.out; have := HML.out; have := HLL.out; omega) ?_
                           intro v2 w11 hN hB hg hat
                           have HRG11 := hidm (HRG9.out.kept hg (map_apart HO9.out HRG9.out.owns) (iter_apart HO9.out HRG9.out))
                           have HB11 := hidm hB
                           have HO11 := hidm hN
                           clear hN hB hg hat hen)
              go_roundw
              case rel => exact ⟨_, cnt2, got ++ [x], HRG11, hidm (by have h1 := HLT.out; have h2 := HCN.out; rw [List.length_append]; simp; omega), HGOT9, HB11, hidm (by rw [← List.append_assoc]; exact HO11.out)⟩
              case measure => rw [HRG11.out.left_eq, HRL.out]; exact HLT.out
end Go.Proofs.Ytlopfkkegjajlaa
namespace Go.Proofs.Ytlopfkkegjajlaa
open Go
def WW (S : Nat → Prop) (w : World) := {W : World // Wr S w W}
instance (S : Nat → Prop) (w : World) : Nonempty (WW S w) := ⟨⟨w, Wr.refl _ _⟩⟩
theorem ww_cell {S : Nat → Prop} {w : World} {a : Addr} {v : Value} (h : w.cell? a = some v) (hS : ¬ S a.block) (x : WW S w) : x.1.cell? a = some v := by
  have hb := x.2.block _ (World.block_lt_of_cell? w a h) hS
  rw [← h]
  unfold World.cell?
  rw [hb]
end Go.Proofs.Ytlopfkkegjajlaa
namespace Go.Proofs.Ytlopfkkegjajlaa
open Go.RowKit Go.Proofs.YtlopfkkegjajlaaW.PrintWords PHistoryTouched
def pairL (k : Int) : List S76 := [⟨1, ⟨#[65]⟩, 0, ⟨#[]⟩, [], [k], []⟩, ⟨k, ⟨#[65]⟩, 1, ⟨#[114]⟩, [], [], []⟩]
theorem pair_small (k : Int) : SmallL (pairL k) := by
  refine ⟨by simp [pairL], fun j hj => ?_, fun j hj => ?_, fun j hj => ?_⟩ <;> (match j, hj with | 0, _ => simp [pairL, rd_T76] | 1, _ => simp [pairL, rd_T76])
theorem pair_wf {k : Int} (h : I64 k) : WfL (pairL k) := fun i hi => by
  match i, hi with
  | 0, _ =>
    refine ⟨⟨by simp [pairL, rd_T76], by simp [pairL, rd_T76]⟩, fun j hj => ?_⟩
    match j, hj with
    | 0, _ => exact h
  | 1, _ => exact ⟨⟨by simp [pairL, rd_T76], by simp [pairL, rd_T76]⟩, fun j hj => absurd hj (Nat.not_lt_zero _)⟩
theorem word_A : wordB ⟨#[65]⟩ = true := by kernel_rfl
theorem word_r : wordB ⟨#[114]⟩ = true := by kernel_rfl
theorem pair_check {k : Int} (h2 : 2 ≤ k) (h3 : k ≤ 3) : CheckP 4 (pairL k) := by
  refine ⟨by omega, by omega, by simp [pairL], fun i hi => ?_, fun i hi => ?_, ⟨fun i hi => ?_, fun i hi he => ?_, fun i hi he => ?_, fun i hi => ?_⟩⟩
  · match i, hi with
    | 0, _ => exact ⟨show (0 : Int) < 1 by omega, show (1 : Int) < 4 by omega⟩
    | 1, _ => exact ⟨show (1 : Int) < k by omega, show k < 4 by omega⟩
  · match i, hi with
    | 0, _ => exact ⟨word_A, by simp [pairL, rd_T76], fun h => absurd (by simp [pairL, rd_T76]) h, by simp [pairL, rd_T76], fun j hj => absurd hj (Nat.not_lt_zero _), fun j hj => absurd hj (Nat.not_lt_zero _)⟩
    | 1, _ => exact ⟨word_A, ⟨fun h => absurd h (by simp [pairL, rd_T76]), fun h => absurd h (by simp [pairL, rd_T76])⟩, fun _ => word_r, by simp [pairL, rd_T76], fun j hj => absurd hj (Nat.not_lt_zero _), fun j hj => absurd hj (Nat.not_lt_zero _)⟩
  · match i, hi with
    | 0, _ =>
      intro j hj
      have hj1 : j < 1 := hj
      have hj0 : j = 0 := by omega
      subst hj0
      exact ⟨1, by simp [pairL], rfl, rfl⟩
    | 1, _ => exact fun j hj => absurd hj (Nat.not_lt_zero _)
  · match i, hi with
    | 0, _ =>
      show ([k] ++ ([] ++ [])).count 1 = 0
      exact List.count_eq_zero.2 (by simp; omega)
    | 1, _ => exact absurd he (by simp [pairL, rd_T76])
  · match i, hi with
    | 0, _ => exact absurd rfl he
    | 1, _ =>
      show ([k] ++ ([] ++ [])).count k = 1
      simp
  · match i, hi with
    | 0, _ => exact .inl rfl
    | 1, _ => exact .inr ⟨0, by simp [pairL], rfl, .inl rfl⟩
def allocs (w : World) : List Obj → World
  | [] => w
  | o :: os => allocs (w.alloc o) os
theorem allocs_below : ∀ (os : List Obj) (w0 w : World), Below w0.heap.size w0 w → Below w0.heap.size w0 (allocs w os)
  | [], _, _, h => h
  | o :: os, w0, w, h => allocs_below os w0 (w.alloc o) (below_alloc h o)
theorem allocs_at : ∀ (os : List Obj) (w : World) (k : Nat) (o : Obj), os[k]? = some o → (allocs w os).heap[w.heap.size + k]? = some o
  | [], _, _, _, h => by simp at h
  | p :: os, w, 0, o, h => by
    obtain rfl : p = o := Option.some.inj h
    have h1 : (w.alloc p).heap[w.heap.size]? = some p := blk_new _ _
    have h2 := (allocs_below os (w.alloc p) (w.alloc p) (Below.refl _ _)).block w.heap.size (by simp)
    exact h2.trans h1
  | p :: os, w, k + 1, o, h => by
    have h1 := allocs_at os (w.alloc p) k o (by simpa using h)
    have e : (w.alloc p).heap.size + k = w.heap.size + (k + 1) := by simp; omega
    rw [e] at h1
    exact h1
abbrev pairO (k : Int) (g : Nat) : Obj := .cells #[.int .i64 1, .string ⟨#[65]⟩, .int .i64 0, .string ⟨#[]⟩, .slice none 0 0, .slice (some ⟨g, 0, none⟩) 1 1, .slice none 0 0, .int .i64 k, .string ⟨#[65]⟩, .int .i64 1, .string ⟨#[114]⟩, .slice none 0 0, .slice none 0 0, .slice none 0 0] 76
theorem nil_C {α : Type} (d : Kd α) (w : World) : Kd.C d w none 0 [] := Kd.F_now (Kd.F_nil d w (fun _ => False))
theorem pair_C {W : World} {k : Int} {g g5 : Nat} (hk : W.heap[g]? = some (pairO k g5)) (h5 : W.heap[g5]? = some (.cells #[.int .i64 k] 3 (0, 0))) : Kd.C k76 W (some ⟨g, 0, none⟩) 2 (pairL k) := by
  refine ⟨rfl, by omega, fun _ => ⟨_, rfl, fun j p hj => ?_⟩⟩
  match j, hj with
  | 0, hj =>
    obtain rfl := Option.some.inj hj
    have hkid : Kd.C (Kd.int .i64) W (some ⟨g5, 0, none⟩) 1 [k] := ⟨rfl, by omega, fun _ => ⟨_, rfl, fun j p hj => by
      match j, hj with
      | 0, hj =>
        obtain rfl := Option.some.inj hj
        refine ⟨[.int .i64 k], rfl, rfl, fun i u hu => ?_⟩
        match i, hu with
        | 0, hu => obtain rfl := Option.some.inj hu; rw [add_plain]; exact blk_cell h5 0⟩⟩
    refine ⟨_, rfl, k76_mk W ⟨1, ⟨#[65]⟩, 0, ⟨#[]⟩, [], [k], []⟩ (c4 := 0) (Nat.le_refl _) (nil_C _ W) (c5 := 1) (Nat.le_refl _) hkid (c6 := 0) (Nat.le_refl _) (nil_C _ W), fun i u hu => ?_⟩
    rw [add_plain, Nat.zero_mul, Nat.zero_add, blk_cell hk]
    match i, hu with
    | 0, hu => exact hu
    | 1, hu => exact hu
    | 2, hu => exact hu
    | 3, hu => exact hu
    | 4, hu => exact hu
    | 5, hu => exact hu
    | 6, hu => exact hu
  | 1, hj =>
    obtain rfl := Option.some.inj hj
    refine ⟨_, rfl, k76_mk W ⟨k, ⟨#[65]⟩, 1, ⟨#[114]⟩, [], [], []⟩ (c4 := 0) (Nat.le_refl _) (nil_C _ W) (c5 := 0) (Nat.le_refl _) (nil_C _ W) (c6 := 0) (Nat.le_refl _) (nil_C _ W), fun i u hu => ?_⟩
    rw [add_plain, blk_cell hk]
    match i, hu with
    | 0, hu => exact hu
    | 1, hu => exact hu
    | 2, hu => exact hu
    | 3, hu => exact hu
    | 4, hu => exact hu
    | 5, hu => exact hu
    | 6, hu => exact hu
def TwoPost (w : World) (e : Ending) (w' : World) : Prop :=
  ∃ g1 g2, e = .returned (.tuple #[.agg #[.int .i64 4, .slice (some ⟨g1, 0, none⟩) 2 2], .agg #[.int .i64 4, .slice (some ⟨g2, 0, none⟩) 2 2]]) ∧ Kd.C k76 w' (some ⟨g1, 0, none⟩) 2 (pairL 2) ∧ Kd.C k76 w' (some ⟨g2, 0, none⟩) 2 (pairL 3) ∧ Below w.heap.size w w'
abbrev Z27 : Obj := .cells #[.int .i64 0, .slice none 0 0] 27
def twoOs (s : Nat) : List Obj := [Z27, Z27, .cells #[.int .i64 2] 3, pairO 2 (s + 1 + 1), .cells #[.int .i64 4, .slice (some ⟨s + 1 + 1 + 1, 0, none⟩) 2 2] 27, .cells #[.int .i64 3] 3, pairO 3 (s + 1 + 1 + 1 + 1 + 1), .cells #[.int .i64 4, .slice (some ⟨s + 1 + 1 + 1 + 1 + 1 + 1, 0, none⟩) 2 2] 27]
theorem twoF_done {w W : World} (hW : Wr (fun k => k = w.heap.size ∨ k = w.heap.size + 1) (allocs w (twoOs w.heap.size)) W) :
    TwoPost w (.returned (.tuple #[.agg #[.int .i64 4, .slice (some ⟨w.heap.size + 1 + 1 + 1, 0, none⟩) 2 2], .agg #[.int .i64 4, .slice (some ⟨w.heap.size + 1 + 1 + 1 + 1 + 1 + 1, 0, none⟩) 2 2]]))
      ((((W.setCell ⟨w.heap.size, 0, none⟩ (.int .i64 4)).setCell ⟨w.heap.size, 1, none⟩ (.slice (some ⟨w.heap.size + 1 + 1 + 1, 0, none⟩) 2 2)).setCell ⟨w.heap.size + 1, 0, none⟩ (.int .i64 4)).setCell ⟨w.heap.size + 1, 1, none⟩ (.slice (some ⟨w.heap.size + 1 + 1 + 1 + 1 + 1 + 1, 0, none⟩) 2 2)) := by
  have hat := fun k o h => allocs_at (twoOs w.heap.size) w k o h
  have hk : ∀ k o, 2 ≤ k → (twoOs w.heap.size)[k]? = some o → ((((W.setCell ⟨w.heap.size, 0, none⟩ (.int .i64 4)).setCell ⟨w.heap.size, 1, none⟩ (.slice (some ⟨w.heap.size + 1 + 1 + 1, 0, none⟩) 2 2)).setCell ⟨w.heap.size + 1, 0, none⟩ (.int .i64 4)).setCell ⟨w.heap.size + 1, 1, none⟩ (.slice (some ⟨w.heap.size + 1 + 1 + 1 + 1 + 1 + 1, 0, none⟩) 2 2)).heap[w.heap.size + k]? = some o := fun k o h2 h => by
    rw [Below.heap_setCell _ _ _ _ (by show w.heap.size + k ≠ w.heap.size + 1; omega), Below.heap_setCell _ _ _ _ (by show w.heap.size + k ≠ w.heap.size + 1; omega), Below.heap_setCell _ _ _ _ (by show w.heap.size + k ≠ w.heap.size; omega), Below.heap_setCell _ _ _ _ (by show w.heap.size + k ≠ w.heap.size; omega)]
    exact (hW.block _ (Array.getElem?_eq_some_iff.1 (hat k o h)).1 (by omega)).trans (hat k o h)
  refine ⟨_, _, rfl, pair_C (hk 3 _ (by omega) rfl) (hk 2 _ (by omega) rfl), pair_C (hk 6 _ (by omega) rfl) (hk 5 _ (by omega) rfl), ?_⟩
  have hb : Below w.heap.size w W := ((Wr.of_below (S := fun k => k = w.heap.size ∨ k = w.heap.size + 1) (allocs_below (twoOs w.heap.size) w w (Below.refl _ _))).trans hW (fun _ _ h => h)).below (Nat.le_refl _) (fun k h => by omega)
  exact (((hb.setCell (Nat.le_refl _) _).setCell (Nat.le_refl _) _).setCell (Nat.le_succ _) _).setCell (Nat.le_succ _) _
def TC (s : Nat) (w : World) := {W : World // Wr (fun k => k = s ∨ k = s + 1) w W ∧ ((w.heap[s]? = some Z27 ∧ w.heap[s + 1]? = some Z27) → ∃ u0 u1 v0 v1, W.heap[s]? = some (.cells #[u0, u1] 27 (0, 0)) ∧ W.heap[s + 1]? = some (.cells #[v0, v1] 27 (0, 0)))}
instance (s : Nat) (w : World) : Nonempty (TC s w) := ⟨⟨w, Wr.refl _ _, fun h => ⟨_, _, _, _, h.1, h.2⟩⟩⟩
theorem tc_cell {s : Nat} {w : World} {a : Addr} {v : Value} (h : w.cell? a = some v) (hS : ¬ (a.block = s ∨ a.block = s + 1)) (x : TC s w) : x.1.cell? a = some v := ww_cell (S := fun k => k = s ∨ k = s + 1) h hS ⟨x.1, x.2.1⟩
set_option maxRecDepth 100000 in
set_option maxHeartbeats 4000000 in
theorem two_any (w : World) : Calls Try.prog 45 #[] w (TwoPost w) := by
  have HD := hidm (fun W => twoF_done (w := w) (W := W))
  have HAT : Hid (∀ k o, (twoOs w.heap.size)[k]? = some o → (allocs w (twoOs w.heap.size)).heap[w.heap.size + k]? = some o) := fun k o h => allocs_at (twoOs w.heap.size) w k o h
  have HE : Hid (allocs w (twoOs w.heap.size) = ((((((((w.alloc Z27).alloc Z27).alloc (.cells #[.int .i64 2] 3)).alloc (pairO 2 (w.heap.size + 1 + 1))).alloc (.cells #[.int .i64 4, .slice (some ⟨w.heap.size + 1 + 1 + 1, 0, none⟩) 2 2] 27)).alloc (.cells #[.int .i64 3] 3)).alloc (pairO 3 (w.heap.size + 1 + 1 + 1 + 1 + 1))).alloc (.cells #[.int .i64 4, .slice (some ⟨w.heap.size + 1 + 1 + 1 + 1 + 1 + 1, 0, none⟩) 2 2] 27))) := rfl
  go_enter Try.func45, Try.ntmps45
  go_wp2_with fail
  generalize ((((((((w.alloc Z27).alloc Z27).alloc (.cells #[.int .i64 2] 3)).alloc (pairO 2 (w.heap.size + 1 + 1))).alloc (.cells #[.int .i64 4, .slice (some ⟨w.heap.size + 1 + 1 + 1, 0, none⟩) 2 2] 27)).alloc (.cells #[.int .i64 3] 3)).alloc (pairO 3 (w.heap.size + 1 + 1 + 1 + 1 + 1))).alloc (.cells #[.int .i64 4, .slice (some ⟨w.heap.size + 1 + 1 + 1 + 1 + 1 + 1, 0, none⟩) 2 2] 27)) = W8 at HE ⊢
  rw [HE.out] at HD HAT
  have H0 : Hid (W8.heap[w.heap.size]? = some (.cells #[.int .i64 0, .slice none 0 0] 27 (0, 0))) := HAT.out 0 _ rfl
  have H1 : Hid (W8.heap[w.heap.size + 1]? = some (.cells #[.int .i64 0, .slice none 0 0] 27 (0, 0))) := HAT.out 1 _ rfl
  have H4 : Hid (W8.heap[w.heap.size + 1 + 1 + 1 + 1]? = some (.cells #[.int .i64 4, .slice (some ⟨w.heap.size + 1 + 1 + 1, 0, none⟩) 2 2] 27 (0, 0))) := HAT.out 4 _ rfl
  have H7 : Hid (W8.heap[w.heap.size + 1 + 1 + 1 + 1 + 1 + 1 + 1]? = some (.cells #[.int .i64 4, .slice (some ⟨w.heap.size + 1 + 1 + 1 + 1 + 1 + 1, 0, none⟩) 2 2] 27 (0, 0))) := HAT.out 7 _ rfl
  clear HE HAT
  have s0 : ∀ y : TC w.heap.size W8, y.1.cell? ⟨w.heap.size + 1 + 1 + 1 + 1, 0, none⟩ = some (.int .i64 4) := tc_cell (blk_cell H4.out 0) (by simp; omega)
  have s1 : ∀ y : TC w.heap.size W8, y.1.cell? ⟨w.heap.size + 1 + 1 + 1 + 1, 1, none⟩ = some (.slice (some ⟨w.heap.size + 1 + 1 + 1, 0, none⟩) 2 2) := tc_cell (blk_cell H4.out 1) (by simp; omega)
  have s2 : ∀ y : TC w.heap.size W8, y.1.cell? ⟨w.heap.size + 1 + 1 + 1 + 1 + 1 + 1 + 1, 0, none⟩ = some (.int .i64 4) := tc_cell (blk_cell H7.out 0) (by simp; omega)
  have s3 : ∀ y : TC w.heap.size W8, y.1.cell? ⟨w.heap.size + 1 + 1 + 1 + 1 + 1 + 1 + 1, 1, none⟩ = some (.slice (some ⟨w.heap.size + 1 + 1 + 1 + 1 + 1 + 1, 0, none⟩) 2 2) := tc_cell (blk_cell H7.out 1) (by simp; omega)
  refine wp_region_noPanic ?_
  refine wp_region_holdX (C := fun w' => ∃ x : TC w.heap.size W8, w' = x.1) 3 [] [] [0, 1] [2] (by kernel_rfl) (by kernel_rfl) (by kernel_rfl) (by kernel_rfl) (fun _ _ _ _ _ h => (h : False).elim) ⟨⟨{ W8 with drawn := W8.drawn + 1 }, ⟨rfl, rfl, rfl, Nat.le_refl _, fun _ _ _ => rfl⟩, fun _ => ⟨_, _, _, _, H0.out, H1.out⟩⟩, rfl⟩ ?_
  simp only [pickOps, Option.elim_some, List.getElem?_cons_succ, List.getElem?_cons_zero, List.drop_succ_cons, List.drop_zero]
  repeat (go_big_quiet_step (fail))
  refine wpQuiet_nil ?_
  rintro _ ⟨y, rfl⟩
  have hwy := y.2.1
  obtain ⟨u0, u1, v0, v1, k0, k1⟩ := y.2.2 ⟨H0.out, H1.out⟩
  clear s0 s1 s2 s3
  generalize y.1 = wy at hwy k0 k1 ⊢
  have HO := hidm (HD.out wy hwy)
  have HBY := hidm hwy
  have K0 := hidm k0
  have K1 := hidm k1
  clear H0 H1 H4 H7 HD hwy k0 k1
  have HNE : Hid (w.heap.size ≠ w.heap.size + 1) := by unfold Hid; omega
  have K2 := hidm (blk_far (p := ⟨w.heap.size, 1, none⟩) (blk_far (p := ⟨w.heap.size, 0, none⟩) K1.out (Ne.symm HNE.out) (.int .i64 4)) (Ne.symm HNE.out) (.slice (some ⟨w.heap.size + 1 + 1 + 1, 0, none⟩) 2 2))
  have q0 : wy.cell? ⟨w.heap.size, 0, none⟩ = some u0 := blk_cell K0.out 0
  have q1 : wy.cell? ⟨w.heap.size, 1, none⟩ = some u1 := blk_cell K0.out 1
  have q2 : ((wy.setCell ⟨w.heap.size, 0, none⟩ (.int .i64 4)).setCell ⟨w.heap.size, 1, none⟩ (.slice (some ⟨w.heap.size + 1 + 1 + 1, 0, none⟩) 2 2)).cell? ⟨w.heap.size + 1, 0, none⟩ = some v0 := blk_cell K2.out 0
  have q3 : ((wy.setCell ⟨w.heap.size, 0, none⟩ (.int .i64 4)).setCell ⟨w.heap.size, 1, none⟩ (.slice (some ⟨w.heap.size + 1 + 1 + 1, 0, none⟩) 2 2)).cell? ⟨w.heap.size + 1, 1, none⟩ = some v1 := blk_cell K2.out 1
  have f0 : ∀ i, wy.frozen? ⟨w.heap.size, i, none⟩ = false := blk_frozen K0.out
  have f1 : ∀ i, ((wy.setCell ⟨w.heap.size, 0, none⟩ (.int .i64 4)).setCell ⟨w.heap.size, 1, none⟩ (.slice (some ⟨w.heap.size + 1 + 1 + 1, 0, none⟩) 2 2)).frozen? ⟨w.heap.size + 1, i, none⟩ = false := blk_frozen K2.out
  have N0 : Hid (((((wy.setCell ⟨w.heap.size, 0, none⟩ (.int .i64 4)).setCell ⟨w.heap.size, 1, none⟩ (.slice (some ⟨w.heap.size + 1 + 1 + 1, 0, none⟩) 2 2)).setCell ⟨w.heap.size + 1, 0, none⟩ (.int .i64 4)).setCell ⟨w.heap.size + 1, 1, none⟩ (.slice (some ⟨w.heap.size + 1 + 1 + 1 + 1 + 1 + 1, 0, none⟩) 2 2)).heap[w.heap.size]? = some (.cells #[.int .i64 4, .slice (some ⟨w.heap.size + 1 + 1 + 1, 0, none⟩) 2 2] 27 (0, 0))) := blk_far (blk_far (blk_put (blk_put K0.out 0 _ rfl) 1 _ rfl) HNE.out _) HNE.out _
  have N1 : Hid (((((wy.setCell ⟨w.heap.size, 0, none⟩ (.int .i64 4)).setCell ⟨w.heap.size, 1, none⟩ (.slice (some ⟨w.heap.size + 1 + 1 + 1, 0, none⟩) 2 2)).setCell ⟨w.heap.size + 1, 0, none⟩ (.int .i64 4)).setCell ⟨w.heap.size + 1, 1, none⟩ (.slice (some ⟨w.heap.size + 1 + 1 + 1 + 1 + 1 + 1, 0, none⟩) 2 2)).heap[w.heap.size + 1]? = some (.cells #[.int .i64 4, .slice (some ⟨w.heap.size + 1 + 1 + 1 + 1 + 1 + 1, 0, none⟩) 2 2] 27 (0, 0))) := blk_put (blk_put K2.out 0 _ rfl) 1 _ rfl
  have r0 : ((((wy.setCell ⟨w.heap.size, 0, none⟩ (.int .i64 4)).setCell ⟨w.heap.size, 1, none⟩ (.slice (some ⟨w.heap.size + 1 + 1 + 1, 0, none⟩) 2 2)).setCell ⟨w.heap.size + 1, 0, none⟩ (.int .i64 4)).setCell ⟨w.heap.size + 1, 1, none⟩ (.slice (some ⟨w.heap.size + 1 + 1 + 1 + 1 + 1 + 1, 0, none⟩) 2 2)).cell? ⟨w.heap.size, 0, none⟩ = some (.int .i64 4) := blk_cell N0.out 0
  have r1 : ((((wy.setCell ⟨w.heap.size, 0, none⟩ (.int .i64 4)).setCell ⟨w.heap.size, 1, none⟩ (.slice (some ⟨w.heap.size + 1 + 1 + 1, 0, none⟩) 2 2)).setCell ⟨w.heap.size + 1, 0, none⟩ (.int .i64 4)).setCell ⟨w.heap.size + 1, 1, none⟩ (.slice (some ⟨w.heap.size + 1 + 1 + 1 + 1 + 1 + 1, 0, none⟩) 2 2)).cell? ⟨w.heap.size, 1, none⟩ = some (.slice (some ⟨w.heap.size + 1 + 1 + 1, 0, none⟩) 2 2) := blk_cell N0.out 1
  have r2 : ((((wy.setCell ⟨w.heap.size, 0, none⟩ (.int .i64 4)).setCell ⟨w.heap.size, 1, none⟩ (.slice (some ⟨w.heap.size + 1 + 1 + 1, 0, none⟩) 2 2)).setCell ⟨w.heap.size + 1, 0, none⟩ (.int .i64 4)).setCell ⟨w.heap.size + 1, 1, none⟩ (.slice (some ⟨w.heap.size + 1 + 1 + 1 + 1 + 1 + 1, 0, none⟩) 2 2)).cell? ⟨w.heap.size + 1, 0, none⟩ = some (.int .i64 4) := blk_cell N1.out 0
  have r3 : ((((wy.setCell ⟨w.heap.size, 0, none⟩ (.int .i64 4)).setCell ⟨w.heap.size, 1, none⟩ (.slice (some ⟨w.heap.size + 1 + 1 + 1, 0, none⟩) 2 2)).setCell ⟨w.heap.size + 1, 0, none⟩ (.int .i64 4)).setCell ⟨w.heap.size + 1, 1, none⟩ (.slice (some ⟨w.heap.size + 1 + 1 + 1 + 1 + 1 + 1, 0, none⟩) 2 2)).cell? ⟨w.heap.size + 1, 1, none⟩ = some (.slice (some ⟨w.heap.size + 1 + 1 + 1 + 1 + 1 + 1, 0, none⟩) 2 2) := blk_cell N1.out 1
  have K0' := K0
  clear K0 K1 N0 N1 HNE
  refine runX_step (crem := [2]) (rs := [2]) (by kernel_rfl) ⟨?_, trivial⟩
  refine ⟨_, rfl, rfl, .inr (.inr ?_)⟩
  unfold Oper.wp
  generalize hr : Sem.run Try.prog _ _ = r
  have hr2 : r = .ok .skip ((wy.setCell ⟨w.heap.size, 0, none⟩ (.int .i64 4)).setCell ⟨w.heap.size, 1, none⟩ (.slice (some ⟨w.heap.size + 1 + 1 + 1, 0, none⟩) 2 2)) := by rw [← hr]; go_simp
  rw [hr2]
  clear hr hr2
  refine ⟨⟨⟨((wy.setCell ⟨w.heap.size, 0, none⟩ (.int .i64 4)).setCell ⟨w.heap.size, 1, none⟩ (.slice (some ⟨w.heap.size + 1 + 1 + 1, 0, none⟩) 2 2)), (HBY.out.set _ _ _ (.inl (.inl rfl))).set _ _ _ (.inl (.inl rfl)), fun _ => ⟨_, _, _, _, blk_put (blk_put K0'.out 0 _ rfl) 1 _ rfl, K2.out⟩⟩, rfl⟩, ?_⟩
  simp only [Act.put]
  clear q0 q1 f0
  show wpList _ _ _ _ _ _
  go_wp2_with fail
  refine NoPanic.normal ?_
  go_wp2_with fail
  simp [bodyPost, results, Try.results45, go_sem, r0, r1, r2, r3]
  exact HO.out
end Go.Proofs.Ytlopfkkegjajlaa
namespace Go.Proofs.Ytlopfkkegjajlaa
open Go.RowKit Go.Proofs.YtlopfkkegjajlaaW.PrintWords PHistoryTouched
theorem pushL_new {W : World} {D : Nat → Prop} {pb : Nat} {ms : List S27} {now : Nat} {nx : Int} {l : List S76} {A : Option Addr} {c : Nat} (hP : PastR W D pb ms now) (hD : ¬ D pb) (hn : now < ms.length) (hm : ms.length ≤ 65) (hr : Kd.C k76 W A l.length l) (hwf : WfL l) (hs : SmallL l) (hk : CheckP nx l) (hne : (⟨nx, l⟩ : S27) ≠ rd_T27 ms now) :
    Calls Try.prog 15 #[.pointer (some ⟨pb, 0, none⟩), .agg #[.int .i64 nx, .slice A l.length c]] W (PastPost pb D 0 (pushed ms now ⟨nx, l⟩) ((pushed ms now ⟨nx, l⟩).length - 1) W) := by
  obtain ⟨ad, cp, hb, hcp, hF⟩ := hP
  refine (push_yes nx pb D ad ms cp now A l c W hb hn hm hcp hF hD hr hwf hs hk).mono ?_
  rintro e w' (⟨he, _⟩ | ⟨_, A', c', rfl, hc', hb', hF', hw'⟩)
  · exact absurd he hne
  · have hpos : 0 < (pushed ms now ⟨nx, l⟩).length := by
      unfold pushed
      split
      · simp at *; omega
      · simp
    obtain ⟨ad', cs, hA, _⟩ := Kd.F_get hF' z27 0 (by omega) (by omega)
    subst hA
    exact ⟨rfl, ⟨ad', c', hb', hc', hF'⟩, hw'⟩
theorem pushL_same {W : World} {D : Nat → Prop} {pb : Nat} {ms : List S27} {now : Nat} {nx : Int} {l : List S76} {A : Option Addr} {c : Nat} (hP : PastR W D pb ms now) (hD : ¬ D pb) (hn : now < ms.length) (hm : ms.length ≤ 65) (hr : Kd.C k76 W A l.length l) (hwf : WfL l) (hs : SmallL l) (hk : CheckP nx l) (he : (⟨nx, l⟩ : S27) = rd_T27 ms now) :
    Calls Try.prog 15 #[.pointer (some ⟨pb, 0, none⟩), .agg #[.int .i64 nx, .slice A l.length c]] W fun e w' => e = .returned (.int .i64 0) ∧ Below W.heap.size W w' := by
  obtain ⟨ad, cp, hb, hcp, hF⟩ := hP
  refine (push_yes nx pb D ad ms cp now A l c W hb hn hm hcp hF hD hr hwf hs hk).mono ?_
  rintro e w' (⟨_, rfl, hb'⟩ | ⟨hne, _⟩)
  · exact ⟨rfl, hb'⟩
  · exact absurd he hne
theorem undoL_yes {W : World} {D : Nat → Prop} {pb : Nat} {ms : List S27} {now : Nat} (hP : PastR W D pb ms (now + 1)) (hD : ¬ D pb) (hn : now + 1 < ms.length) (hm : ms.length ≤ 65) (hs : SmallL (rd_T27 ms now).f1) :
    Calls Try.prog 17 #[.pointer (some ⟨pb, 0, none⟩)] W (MovePost pb D (rd_T27 ms now) 0 ms now W) := by
  have hlt := hP.lt
  obtain ⟨ad, cp, hb, hcp, hF⟩ := hP
  refine (undo_any (m := rd_T27 ms now) (er := 0) (nw := now) hlt (fun W' hW' => ?_)).mono (fun e w' hp => move_of_step hcp hF hD hp)
  exact to_yes (-1) pb D (some ad) ms cp (now + 1) now W' (blk_below hb hW') (Kd.F_below hF hW') hD (by omega) hs (by omega) (by omega)
theorem undoL_no {W : World} {D : Nat → Prop} {pb : Nat} {ms : List S27} (hP : PastR W D pb ms 0) (hD : ¬ D pb) (hn : 0 < ms.length) (hm : ms.length ≤ 65) :
    Calls Try.prog 17 #[.pointer (some ⟨pb, 0, none⟩)] W (MovePost pb D ⟨0, []⟩ 270 ms 0 W) := by
  have hlt := hP.lt
  obtain ⟨ad, cp, hb, hcp, hF⟩ := hP
  exact (undo_any (m := ⟨0, []⟩) (er := 270) hlt (fun W' hW' => to_no (-1) pb (some ad) ms.length cp 0 W' (blk_below hb hW') hn (by omega) (by omega) (.inl (by omega)))).mono (fun e w' hp => move_of_step hcp hF hD hp)
theorem redoL_yes {W : World} {D : Nat → Prop} {pb : Nat} {ms : List S27} {now : Nat} (hP : PastR W D pb ms now) (hD : ¬ D pb) (hn : now + 1 < ms.length) (hm : ms.length ≤ 65) (hs : SmallL (rd_T27 ms (now + 1 : Nat)).f1) :
    Calls Try.prog 20 #[.pointer (some ⟨pb, 0, none⟩)] W (MovePost pb D (rd_T27 ms (now + 1 : Nat)) 0 ms (now + 1) W) := by
  have hlt := hP.lt
  obtain ⟨ad, cp, hb, hcp, hF⟩ := hP
  refine (redo_any (m := rd_T27 ms (now + 1 : Nat)) (er := 0) (nw := now + 1) hlt (fun W' hW' => ?_)).mono (fun e w' hp => move_of_step hcp hF hD hp)
  exact to_yes 1 pb D (some ad) ms cp now (now + 1) W' (blk_below hb hW') (Kd.F_below hF hW') hD (by omega) hs (by omega) (by omega)
theorem depthL {W : World} {D : Nat → Prop} {pb : Nat} {ms : List S27} {now : Nat} (hP : PastR W D pb ms now) (hn : now < ms.length) (hm : ms.length ≤ 65) :
    Calls Try.prog 32 #[.pointer (some ⟨pb, 0, none⟩)] W fun e w' => e = .returned (.tuple #[.int .i64 (now : Int), .int .i64 ((ms.length : Int) - 1 - now)]) ∧ Below W.heap.size W w' := by
  obtain ⟨ad, cp, hb, hcp, hF⟩ := hP
  exact depth_any pb (some ad) ms.length cp now W hb hn (by omega)
theorem pastL_of_new {w w' : World} {pb : Nat} {m : S27} {A : Option Addr} {c : Nat} (hc : 1 ≤ c) (hb : w'.heap[pb]? = some (pastO A 1 c 0)) (hF : Kd.F k27 w' (fun k => w.heap.size ≤ k ∧ k < w'.heap.size ∧ k ≠ pb) A 1 [m]) : PastR w' (fun k => w.heap.size ≤ k ∧ k < w'.heap.size ∧ k ≠ pb) pb [m] 0 := by
  obtain ⟨ad, cs, hA, _⟩ := Kd.F_get hF z27 0 (by omega) (by omega)
  subst hA
  exact ⟨ad, c, hb, hc, hF⟩
structure ModW (pb g : Nat) (A : Option Addr) (c : Nat) (m : S27) (W : World) : Prop where
  k : W.heap[g]? = some (.cells #[.int .i64 m.f0, .slice A m.f1.length c] 27 (0, 0))
  ne : g ≠ pb
  f : Kd.F k76 W (fun k => k ≠ pb) A m.f1.length m.f1
  l : m.f1.length ≤ c
theorem ModW.wr {pb g : Nat} {A : Option Addr} {c : Nat} {m : S27} {W W' : World} (h : ModW pb g A c m W) (hw : Wr (· = pb) W W') : ModW pb g A c m W' :=
  ⟨(hw.block _ (Array.getElem?_eq_some_iff.1 h.k).1 h.ne).trans h.k, h.ne, Kd.F_step h.f (fun k hk hlt => hw.block k hlt hk), h.l⟩
theorem ModW.below {pb g : Nat} {A : Option Addr} {c : Nat} {m : S27} {W W' : World} (h : ModW pb g A c m W) (hb : Below W.heap.size W W') : ModW pb g A c m W' :=
  ⟨blk_below h.k hb, h.ne, Kd.F_below h.f hb, h.l⟩
theorem modW_of_move {W w' : World} {pb : Nat} {m : S27} {v : Value} (hpb : pb < W.heap.size) (hsz : W.heap.size ≤ w'.heap.size) (h : k76.R 76 w' W.heap.size (fun _ => True) v m.f1) : ∃ A c, v = .slice A m.f1.length c ∧ ModW pb w'.heap.size A c m (w'.alloc (.cells #[.int .i64 m.f0, .slice A m.f1.length c] 27)) := by
  obtain ⟨A9, c9, e9, h8, h9⟩ := (Kd.R_V (d := k76) (base' := 0) (Kd.R_mono (Kd.R_bound h) (ok' := fun k => k ≠ pb) (fun k hk => by have := hk.2.1; omega)))
  exact ⟨A9, c9, e9, blk_new _ _, by omega, Kd.F_alloc h9 _, h8⟩
theorem refT_pair : refT (pairL 2) (pairL 3) = [1, 2, 3] := by
  have h1 : refT [(⟨2, ⟨#[65]⟩, 1, ⟨#[114]⟩, [], [], []⟩ : S76)] [⟨3, ⟨#[65]⟩, 1, ⟨#[114]⟩, [], [], []⟩] = [2, 3] := by
    rw [refT, if_pos (by decide), refT_nil]
    rfl
  unfold pairL
  rw [refT, if_neg (by decide), if_neg (by decide), h1, tv_no (by simp)]
  rfl
theorem check_nil : ¬ CheckP 0 [] := fun h => by have := h.lo; omega
end Go.Proofs.Ytlopfkkegjajlaa
namespace Go.Proofs.Ytlopfkkegjajlaa
open Go.RowKit Go.Proofs.YtlopfkkegjajlaaW.PrintWords PHistoryTouched
def mA : S27 := ⟨4, pairL 2⟩
def mB : S27 := ⟨4, pairL 3⟩
theorem mAB : mB ≠ mA := fun h => by
  have := congrArg (fun m : S27 => (rd_T76 m.f1 1).f0) h
  simp [mA, mB, pairL, rd_T76] at this
theorem cA : CheckP 4 (pairL 2) := pair_check (by omega) (by omega)
theorem cB : CheckP 4 (pairL 3) := pair_check (by omega) (by omega)
theorem i64_small {k : Int} (h0 : 0 ≤ k) (h1 : k ≤ 9) : I64 k := ⟨by omega, by omega⟩
theorem modW_of_C {W : World} {pb g g1 : Nat} {m : S27} {c : Nat} (hk : W.heap[g]? = some (.cells #[.int .i64 m.f0, .slice (some ⟨g1, 0, none⟩) m.f1.length c] 27 (0, 0))) (hC : Kd.C k76 W (some ⟨g1, 0, none⟩) m.f1.length m.f1) (hl : m.f1.length ≤ c) (hpb : W.heap.size ≤ pb) : ModW pb g (some ⟨g1, 0, none⟩) c m W :=
  ⟨hk, by have := (Array.getElem?_eq_some_iff.1 hk).1; omega, Kd.F_mono (Kd.C_F heap76 hC) (fun k hk => by have : k < W.heap.size := hk; omega), hl⟩
theorem below_wrT {w0 W W' : World} {T : Nat → Prop} (h : Below w0.heap.size w0 W) (hw : Wr T W W') (hT : ∀ k, T k → k < W.heap.size → w0.heap.size ≤ k) : Below w0.heap.size w0 W' :=
  ((Wr.of_below (S := fun k => w0.heap.size ≤ k) h).trans (hw.mono (S' := fun k => w0.heap.size ≤ k) (fun k hk ht => hT k ht hk)) (fun _ _ h => h)).below (Nat.le_refl _) (fun _ h => h)
theorem int_at {W : World} {A : Option Addr} {n : Nat} {xs : List Int} (h : Kd.C (Kd.int .i64) W A n xs) (i : Nat) (hi : i < n) : ∃ ad, A = some ad ∧ W.cell? (ad.add i) = some (.int .i64 (xs.getD i 0)) := by
  obtain ⟨ad, c, hA, _, hK, hc⟩ := Kd.C_get h 0 (i : Int) (by omega) (by omega)
  have hK' : c = [.int .i64 (xs.getD i 0)] := hK
  have := hc 0 (.int .i64 (xs.getD i 0)) (by rw [hK']; rfl)
  have e : (i : Int).toNat * (Kd.int .i64).sz + 0 = i := by show i * 1 + 0 = i; omega
  rw [e] at this
  exact ⟨ad, hA, this⟩
set_option maxRecDepth 100000 in
set_option maxHeartbeats 8000000 in
theorem awake_any (w : World) : Calls Try.prog 28 #[] w fun e w' => e = .returned (.bool true) ∧ Below w.heap.size w w' := by
  go_enter Try.func28, Try.ntmps28
  go_wp2_with fail
  refine (two_any w).mono ?_
  rintro e w1 ⟨g1, g2, rfl, hc1, hc2, hb1⟩
  have HB := hidm (below_alloc (below_alloc hb1 (.cells #[.int .i64 4, .slice (some ⟨g1, 0, none⟩) 2 2] 27)) (.cells #[.int .i64 4, .slice (some ⟨g2, 0, none⟩) 2 2] 27))
  have KA : Hid (((w1.alloc (.cells #[.int .i64 4, .slice (some ⟨g1, 0, none⟩) 2 2] 27)).alloc (.cells #[.int .i64 4, .slice (some ⟨g2, 0, none⟩) 2 2] 27)).heap[w1.heap.size]? = some (.cells #[.int .i64 mA.f0, .slice (some ⟨g1, 0, none⟩) mA.f1.length 2] 27 (0, 0))) := blk_alloc (blk_new w1 (.cells #[.int .i64 4, .slice (some ⟨g1, 0, none⟩) 2 2] 27)) (.cells #[.int .i64 4, .slice (some ⟨g2, 0, none⟩) 2 2] 27)
  have KB : Hid (((w1.alloc (.cells #[.int .i64 4, .slice (some ⟨g1, 0, none⟩) 2 2] 27)).alloc (.cells #[.int .i64 4, .slice (some ⟨g2, 0, none⟩) 2 2] 27)).heap[w1.heap.size + 1]? = some (.cells #[.int .i64 mB.f0, .slice (some ⟨g2, 0, none⟩) mB.f1.length 2] 27 (0, 0))) := blk_new2 w1 _ _
  have HC1 : Hid (Kd.C k76 ((w1.alloc (.cells #[.int .i64 4, .slice (some ⟨g1, 0, none⟩) 2 2] 27)).alloc (.cells #[.int .i64 4, .slice (some ⟨g2, 0, none⟩) 2 2] 27)) (some ⟨g1, 0, none⟩) mA.f1.length mA.f1) := Kd.C_below hc1 (below_alloc (below_alloc (Below.refl _ _) _) _)
  have HC2 : Hid (Kd.C k76 ((w1.alloc (.cells #[.int .i64 4, .slice (some ⟨g1, 0, none⟩) 2 2] 27)).alloc (.cells #[.int .i64 4, .slice (some ⟨g2, 0, none⟩) 2 2] 27)) (some ⟨g2, 0, none⟩) mB.f1.length mB.f1) := Kd.C_below hc2 (below_alloc (below_alloc (Below.refl _ _) _) _)
  clear hc1 hc2 hb1
  go_wp2_with fail
  generalize ((w1.alloc (.cells #[.int .i64 4, .slice (some ⟨g1, 0, none⟩) 2 2] 27)).alloc (.cells #[.int .i64 4, .slice (some ⟨g2, 0, none⟩) 2 2] 27)) = w2 at HB KA KB HC1 HC2 ⊢
  generalize hga : w1.heap.size = ga at KA ⊢
  rw [hga] at KB
  clear hga
  refine (new_yes 4 (some ⟨g1, 0, none⟩) (pairL 2) 2 w2 HC1.out (pair_wf (i64_small (by omega) (by omega))) (pair_small 2) cA).mono ?_
  rintro e w3 ⟨pb, A3, c3, rfl, hpb, hc3, hblk, hF, hb3⟩
  have HPL : Hid (PastR w3 (fun k => w2.heap.size ≤ k ∧ k < w3.heap.size ∧ k ≠ pb) pb [mA] 0) := pastL_of_new hc3 hblk hF
  have MA := hidm ((modW_of_C (m := mA) KA.out HC1.out (Nat.le_refl _) hpb).below hb3)
  have MB := hidm ((modW_of_C (m := mB) KB.out HC2.out (Nat.le_refl _) hpb).below hb3)
  have HGP : Hid (w.heap.size ≤ pb) := Nat.le_trans HB.out.size hpb
  have HDN : Hid (¬ (w2.heap.size ≤ pb ∧ pb < w3.heap.size ∧ pb ≠ pb)) := fun h => h.2.2 rfl
  have HDL : Hid (∀ k, (w2.heap.size ≤ k ∧ k < w3.heap.size ∧ k ≠ pb) → k < w3.heap.size) := fun k hk => hk.2.1
  replace HB := hidm (below_step HB.out hb3)
  obtain ⟨D, hD⟩ : ∃ D : Nat → Prop, D = fun k => w2.heap.size ≤ k ∧ k < w3.heap.size ∧ k ≠ pb := ⟨_, rfl⟩
  rw [← hD] at HPL
  replace HDN : Hid (¬ D pb) := by rw [hD]; exact HDN
  replace HDL : Hid (∀ k, D k → k < w3.heap.size) := by rw [hD]; exact HDL
  clear hpb hc3 hblk hF hb3 KA KB HC1 HC2 hD
  have q0 : w3.cell? ⟨ga + 1, 0, none⟩ = some (.int .i64 4) := blk_cell MB.out.k 0
  have q1 : w3.cell? ⟨ga + 1, 1, none⟩ = some (.slice (some ⟨g2, 0, none⟩) 2 2) := blk_cell MB.out.k 1
  go_wp2_with fail
  refine (pushL_new (now := 0) (ms := [mA]) (nx := 4) (l := pairL 3) HPL.out HDN.out (by simp) (by simp) (Kd.F_now MB.out.f) (pair_wf (i64_small (by omega) (by omega))) (pair_small 3) cB mAB).mono ?_
  rintro e w4 ⟨rfl, hP4, hw4⟩
  have HPU : Hid (pushed [mA] 0 (⟨4, pairL 3⟩ : S27) = [mA, mB]) := hidm (by unfold pushed; simp [mB])
  rw [HPU.out] at hP4
  obtain ⟨E, hE⟩ : ∃ E : Nat → Prop, E = fun k => D k ∨ (w3.heap.size ≤ k ∧ k < w4.heap.size) := ⟨_, rfl⟩
  rw [← hE] at hP4
  have HPE : Hid (PastR w4 E pb [mA, mB] 1) := hP4
  have HEN : Hid (¬ E pb) := by
    rw [hE]
    exact hidm (fun h => h.elim HDN.out (fun h => by have := HPL.out.lt; omega))
  replace HB := hidm (below_wrT HB.out hw4 (fun k hk _ => by have := HGP.out; omega))
  replace MA := hidm (MA.out.wr hw4)
  replace MB := hidm (MB.out.wr hw4)
  clear hP4 hw4 hE HPL HDN HDL HPU q0 q1
  have q0 : w4.cell? ⟨ga + 1, 0, none⟩ = some (.int .i64 4) := blk_cell MB.out.k 0
  have q1 : w4.cell? ⟨ga + 1, 1, none⟩ = some (.slice (some ⟨g2, 0, none⟩) 2 2) := blk_cell MB.out.k 1
  go_wp2_with fail
  refine (pushL_same (now := 1) (ms := [mA, mB]) (nx := 4) (l := pairL 3) HPE.out HEN.out (by simp) (by simp) (Kd.F_now MB.out.f) (pair_wf (i64_small (by omega) (by omega))) (pair_small 3) cB rfl).mono ?_
  rintro e w5 ⟨rfl, hb5⟩
  replace HPE := hidm (HPE.out.below hb5)
  replace HB := hidm (below_step HB.out hb5)
  replace MA := hidm (MA.out.below hb5)
  replace MB := hidm (MB.out.below hb5)
  clear hb5 q0 q1
  go_wp2_with fail
  refine (undoL_yes (now := 0) (ms := [mA, mB]) HPE.out HEN.out (by simp) (by simp) (pair_small 2)).mono ?_
  rintro e w6 ⟨v6, he, hv6, hP6, hw6⟩
  have he' : e = .returned (.tuple #[.agg #[.int .i64 4, v6], .int .i64 0]) := he
  subst he'
  clear he
  obtain ⟨A7, c7, hv, hM7⟩ := modW_of_move (pb := pb) HPE.out.lt hw6.size hv6
  have hv' : v6 = .slice A7 2 c7 := hv
  subst hv'
  clear hv
  have M7 : Hid (ModW pb w6.heap.size A7 c7 mA (w6.alloc (.cells #[.int .i64 4, .slice A7 2 c7] 27))) := hM7
  have HBA : Hid (Below w6.heap.size w6 (w6.alloc (.cells #[.int .i64 4, .slice A7 2 c7] 27))) := below_alloc (Below.refl _ _) _
  replace HPE := hidm (hP6.below HBA.out)
  replace HB := hidm (below_step (below_wrT HB.out hw6 (fun k hk _ => by have := HGP.out; omega)) HBA.out)
  replace MA := hidm (MA.out.wr hw6)
  replace MB := hidm (MB.out.wr hw6)
  replace MA := hidm (MA.out.below HBA.out)
  replace MB := hidm (MB.out.below HBA.out)
  clear hv6 hP6 hw6 hM7 HBA
  go_wp2_with fail
  generalize (w6.alloc (.cells #[.int .i64 4, .slice A7 2 c7] 27)) = w7 at M7 HPE HB MA MB ⊢
  generalize w6.heap.size = g7 at M7 ⊢
  refine (undoL_no (ms := [mA, mB]) HPE.out HEN.out (by simp) (by simp)).mono ?_
  rintro e w8 ⟨v8, he, hv8, hP8, hw8⟩
  have he' : e = .returned (.tuple #[.agg #[.int .i64 0, v8], .int .i64 270]) := he
  subst he'
  clear he
  obtain ⟨A8, c8, hv, _⟩ := modW_of_move (pb := pb) (m := ⟨0, []⟩) HPE.out.lt hw8.size hv8
  have hv' : v8 = .slice A8 0 c8 := hv
  subst hv'
  clear hv
  have HBA : Hid (Below w8.heap.size w8 (w8.alloc (.cells #[.int .i64 0, .slice A8 0 c8] 27))) := below_alloc (Below.refl _ _) _
  replace HPE := hidm (hP8.below HBA.out)
  replace HB := hidm (below_step (below_wrT HB.out hw8 (fun k hk _ => by have := HGP.out; omega)) HBA.out)
  replace MA := hidm (MA.out.wr hw8)
  replace MB := hidm (MB.out.wr hw8)
  replace M7 := hidm (M7.out.wr hw8)
  replace MA := hidm (MA.out.below HBA.out)
  replace MB := hidm (MB.out.below HBA.out)
  replace M7 := hidm (M7.out.below HBA.out)
  clear hv8 hP8 hw8 HBA
  go_wp2_with fail
  generalize (w8.alloc (.cells #[.int .i64 0, .slice A8 0 c8] 27)) = w9 at HPE HB MA MB M7 ⊢
  refine (redoL_yes (now := 0) (ms := [mA, mB]) HPE.out HEN.out (by simp) (by simp) (pair_small 3)).mono ?_
  rintro e wa ⟨va, he, hva, hPa, hwa⟩
  have he' : e = .returned (.tuple #[.agg #[.int .i64 4, va], .int .i64 0]) := he
  subst he'
  clear he
  obtain ⟨Ab, cb, hv, hMb⟩ := modW_of_move (pb := pb) HPE.out.lt hwa.size hva
  have hv' : va = .slice Ab 2 cb := hv
  subst hv'
  clear hv
  have M9 : Hid (ModW pb wa.heap.size Ab cb mB (wa.alloc (.cells #[.int .i64 4, .slice Ab 2 cb] 27))) := hMb
  have HBA : Hid (Below wa.heap.size wa (wa.alloc (.cells #[.int .i64 4, .slice Ab 2 cb] 27))) := below_alloc (Below.refl _ _) _
  replace HPE := hidm (hPa.below HBA.out)
  replace HB := hidm (below_step (below_wrT HB.out hwa (fun k hk _ => by have := HGP.out; omega)) HBA.out)
  replace MA := hidm (MA.out.wr hwa)
  replace MB := hidm (MB.out.wr hwa)
  replace M7 := hidm (M7.out.wr hwa)
  replace MA := hidm (MA.out.below HBA.out)
  replace MB := hidm (MB.out.below HBA.out)
  replace M7 := hidm (M7.out.below HBA.out)
  clear hva hPa hwa hMb HBA
  go_wp2_with fail
  generalize (wa.alloc (.cells #[.int .i64 4, .slice Ab 2 cb] 27)) = wb at M9 HPE HB MA MB M7 ⊢
  generalize wa.heap.size = g9 at M9 ⊢
  refine (depthL HPE.out (by simp) (by simp)).mono ?_
  rintro e wc ⟨rfl, hbc⟩
  replace HB := hidm (below_step HB.out hbc)
  replace MA := hidm (MA.out.below hbc)
  replace MB := hidm (MB.out.below hbc)
  replace M7 := hidm (M7.out.below hbc)
  replace M9 := hidm (M9.out.below hbc)
  clear hbc HPE HEN HGP
  have q0 : wc.cell? ⟨ga, 0, none⟩ = some (.int .i64 4) := blk_cell MA.out.k 0
  have q1 : wc.cell? ⟨ga, 1, none⟩ = some (.slice (some ⟨g1, 0, none⟩) 2 2) := blk_cell MA.out.k 1
  have q2 : wc.cell? ⟨ga + 1, 0, none⟩ = some (.int .i64 4) := blk_cell MB.out.k 0
  have q3 : wc.cell? ⟨ga + 1, 1, none⟩ = some (.slice (some ⟨g2, 0, none⟩) 2 2) := blk_cell MB.out.k 1
  go_wp2_with fail
  refine (touched_yes 4 4 (some ⟨g1, 0, none⟩) (some ⟨g2, 0, none⟩) (pairL 2) (pairL 3) 2 2 wc (Kd.F_now MA.out.f) (pair_wf (i64_small (by omega) (by omega))) (Kd.F_now MB.out.f) (pair_wf (i64_small (by omega) (by omega))) cA cB (by simp [pairL]) (by simp [pairL])).mono ?_
  rintro e wd ⟨vt, rfl, hrt, hbd⟩
  rw [refT_pair] at hrt
  obtain ⟨At, ct, rfl, hlt, hCt⟩ := Kd.R_reads hrt
  have HCT := hidm hCt
  replace HB := hidm (below_step HB.out hbd)
  replace MA := hidm (MA.out.below hbd)
  replace MB := hidm (MB.out.below hbd)
  replace M7 := hidm (M7.out.below hbd)
  replace M9 := hidm (M9.out.below hbd)
  clear hbd hrt hlt hCt q0 q1 q2 q3
  go_wp2_with fail
  refine (new_no 0 none [] 0 wd (nil_C _ _) (fun i hi => absurd hi (Nat.not_lt_zero _)) check_nil).mono ?_
  rintro e we ⟨rfl, hbe⟩
  replace HB := hidm (below_step HB.out hbe)
  replace HCT := hidm (Kd.C_below HCT.out hbe)
  replace MA := hidm (MA.out.below hbe)
  replace MB := hidm (MB.out.below hbe)
  replace M7 := hidm (M7.out.below hbe)
  replace M9 := hidm (M9.out.below hbe)
  clear hbe
  have q0 : we.cell? ⟨g7, 0, none⟩ = some (.int .i64 4) := blk_cell M7.out.k 0
  have q1 : we.cell? ⟨g7, 1, none⟩ = some (.slice A7 2 c7) := blk_cell M7.out.k 1
  have q2 : we.cell? ⟨ga, 0, none⟩ = some (.int .i64 4) := blk_cell MA.out.k 0
  have q3 : we.cell? ⟨ga, 1, none⟩ = some (.slice (some ⟨g1, 0, none⟩) 2 2) := blk_cell MA.out.k 1
  go_wp2_with fail
  have hcall := same_any 4 4 (pairL 2) (pairL 2) A7 (some ⟨g1, 0, none⟩) c7 2 we (Kd.F_now M7.out.f) (Kd.F_now MA.out.f)
  rw [tv_yes ⟨rfl, rfl⟩] at hcall
  refine hcall.mono ?_
  clear hcall
  rintro e wf ⟨rfl, hbf⟩
  replace HB := hidm (below_step HB.out hbf)
  replace HCT := hidm (Kd.C_below HCT.out hbf)
  replace MB := hidm (MB.out.below hbf)
  replace M9 := hidm (M9.out.below hbf)
  clear hbf q0 q1 q2 q3
  have q0 : wf.cell? ⟨g9, 0, none⟩ = some (.int .i64 4) := blk_cell M9.out.k 0
  have q1 : wf.cell? ⟨g9, 1, none⟩ = some (.slice Ab 2 cb) := blk_cell M9.out.k 1
  have q2 : wf.cell? ⟨ga + 1, 0, none⟩ = some (.int .i64 4) := blk_cell MB.out.k 0
  have q3 : wf.cell? ⟨ga + 1, 1, none⟩ = some (.slice (some ⟨g2, 0, none⟩) 2 2) := blk_cell MB.out.k 1
  go_wp2_with fail
  have hcall := same_any 4 4 (pairL 3) (pairL 3) Ab (some ⟨g2, 0, none⟩) cb 2 wf (Kd.F_now M9.out.f) (Kd.F_now MB.out.f)
  rw [tv_yes ⟨rfl, rfl⟩] at hcall
  refine hcall.mono ?_
  clear hcall
  rintro e wg ⟨rfl, hbg⟩
  replace HB := hidm (below_step HB.out hbg)
  replace HCT := hidm (Kd.C_below HCT.out hbg)
  clear hbg q0 q1 q2 q3 MA MB M7 M9
  obtain ⟨at_, rfl, x0⟩ := int_at HCT.out 0 (by simp)
  obtain ⟨_, e, x2⟩ := int_at HCT.out 2 (by simp)
  injection e with e
  subst e
  have y0 : wg.cell? at_ = some (.int .i64 1) := by simpa [Addr.add] using x0
  have y2 : wg.cell? ⟨at_.block, at_.off + 2, none⟩ = some (.int .i64 3) := by simpa [Addr.add] using x2
  clear x0 x2 HCT
  go_wp2_with fail
  go_ret
  exact ⟨rfl, HB.out⟩
end Go.Proofs.Ytlopfkkegjajlaa
namespace Go.Proofs.Ytlopfkkegjajlaa
open Go.RowKit Go.Proofs.YtlopfkkegjajlaaW.PrintWords PHistoryTouched
structure TwoT (w : World) (na nb : Int) (l m : List S76) (g5 g6 : Nat) (A8 : Option Addr) (c8 : Nat) (B8 : Option Addr) (d8 : Nat) (W : World) : Prop where
  b : Below w.heap.size w W
  k5 : W.heap[g5]? = some (.cells #[.int .i64 na, .slice A8 l.length c8] 27 (0, 0))
  k6 : W.heap[g6]? = some (.cells #[.int .i64 nb, .slice B8 m.length d8] 27 (0, 0))
  rA : Kd.C k76 W A8 l.length l
  lA : l.length ≤ c8
  rB : Kd.C k76 W B8 m.length m
  lB : m.length ≤ d8
theorem TwoT.below {w : World} {na nb : Int} {l m : List S76} {g5 g6 : Nat} {A8 : Option Addr} {c8 : Nat} {B8 : Option Addr} {d8 : Nat} {W W' : World} (h : TwoT w na nb l m g5 g6 A8 c8 B8 d8 W) (hb : Below W.heap.size W W') : TwoT w na nb l m g5 g6 A8 c8 B8 d8 W' :=
  ⟨below_step h.b hb, blk_below h.k5 hb, blk_below h.k6 hb, Kd.C_below h.rA hb, h.lA, Kd.C_below h.rB hb, h.lB⟩
structure FourT (w : World) (na nb : Int) (A : Option Addr) (l : List S76) (c : Nat) (B : Option Addr) (m : List S76) (d : Nat) (g5 g6 : Nat) (A8 : Option Addr) (c8 : Nat) (B8 : Option Addr) (d8 : Nat) (W : World) : Prop where
  t : TwoT w na nb l m g5 g6 A8 c8 B8 d8 W
  o : Boxed2 w (.cells #[.int .i64 na, .slice A l.length c] 27) (.cells #[.int .i64 nb, .slice B m.length d] 27) W
theorem FourT.below {w : World} {na nb : Int} {A : Option Addr} {l : List S76} {c : Nat} {B : Option Addr} {m : List S76} {d : Nat} {g5 g6 : Nat} {A8 : Option Addr} {c8 : Nat} {B8 : Option Addr} {d8 : Nat} {W W' : World} (h : FourT w na nb A l c B m d g5 g6 A8 c8 B8 d8 W) (hb : Below W.heap.size W W') : FourT w na nb A l c B m d g5 g6 A8 c8 B8 d8 W' :=
  ⟨h.t.below hb, h.o.below hb⟩
structure In4 (w : World) (A : Option Addr) (l : List S76) (c : Nat) : Prop where
  r : Kd.C k76 w A l.length l
  cap : l.length ≤ c
  sm : SmallL l
  wf : WfL l
end Go.Proofs.Ytlopfkkegjajlaa
namespace Go.Proofs.Ytlopfkkegjajlaa
open Go.RowKit Go.Proofs.YtlopfkkegjajlaaW.PrintWords PHistoryTouched
theorem refT_eq {l m l' m' : List S76} (hl : Up l) (hm : Up m) (hl' : Up l') (hm' : Up m') (h : ∀ x, x ∈ refT l m ↔ x ∈ refT l' m') : refT l m = refT l' m' := by
  have h1 := (refT_up hl hm).1
  have h2 := (refT_up hl' hm').1
  rw [← sort_up h1, ← sort_up h2]
  exact sort_of_perm ((List.perm_ext_iff_of_nodup (h1.imp fun {a b} h e => by omega) (h2.imp fun {a b} h e => by omega)).2 h)
theorem refT_comm {l m : List S76} (hl : Up l) (hm : Up m) : refT l m = refT m l := refT_eq hl hm hm hl (fun x => by rw [mem_refT hl hm, mem_refT hm hl]; exact Or.comm)
theorem refT_self {l : List S76} (hl : Up l) : refT l l = [] := List.eq_nil_iff_forall_not_mem.2 fun x hx => by
  rcases (mem_refT hl hl x).1 hx with ⟨a, h1, _, h2⟩ | ⟨a, h1, _, h2⟩ <;> exact h2 h1
theorem refT_third {l m r : List S76} (hl : Up l) (hm : Up m) (hr : Up r) {x : Int} (h : x ∈ refT l r) : x ∈ refT l m ∨ x ∈ refT m r := by
  rcases (mem_refT hl hr x).1 h with ⟨a, h1, e, h2⟩ | ⟨a, h1, e, h2⟩
  · by_cases hb : a ∈ m
    · exact .inr ((mem_refT hm hr x).2 (.inl ⟨a, hb, e, h2⟩))
    · exact .inl ((mem_refT hl hm x).2 (.inl ⟨a, h1, e, hb⟩))
  · by_cases hb : a ∈ m
    · exact .inl ((mem_refT hl hm x).2 (.inr ⟨a, hb, e, h2⟩))
    · exact .inr ((mem_refT hm hr x).2 (.inr ⟨a, h1, e, hb⟩))
theorem refT_none {l m r : List S76} (hl : Up l) (hm : Up m) (hr : Up r) (h : refT l m = []) : refT l r = refT m r := by
  have h1 : ∀ a, a ∈ l → a ∈ m := fun a ha => Classical.byContradiction fun hb => by
    have := (mem_refT hl hm a.f0).2 (.inl ⟨a, ha, rfl, hb⟩)
    rw [h] at this; simp at this
  have h2 : ∀ a, a ∈ m → a ∈ l := fun a ha => Classical.byContradiction fun hb => by
    have := (mem_refT hl hm a.f0).2 (.inr ⟨a, ha, rfl, hb⟩)
    rw [h] at this; simp at this
  refine refT_eq hl hr hm hr fun x => ?_
  rw [mem_refT hl hr, mem_refT hm hr]
  constructor
  · rintro (⟨a, q1, e, q2⟩ | ⟨a, q1, e, q2⟩)
    · exact .inl ⟨a, h1 a q1, e, q2⟩
    · exact .inr ⟨a, q1, e, fun q => q2 (h2 a q)⟩
  · rintro (⟨a, q1, e, q2⟩ | ⟨a, q1, e, q2⟩)
    · exact .inl ⟨a, h2 a q1, e, q2⟩
    · exact .inr ⟨a, q1, e, fun q => q2 (h1 a q)⟩
theorem refT_len : ∀ l m : List S76, (refT l m).length ≤ l.length + m.length := fun l m => by
  induction l, m using refT.induct with
  | case1 m => rw [refT_nil]; simp
  | case2 a l => rw [refT_end]; simp
  | case3 a l b m hab ih => rw [refT, if_pos hab]; simp at ih ⊢; omega
  | case4 a l b m hab hba ih => rw [refT, if_neg hab, if_pos hba]; simp at ih ⊢; omega
  | case5 a l b m hab hba ih =>
    rw [refT, if_neg hab, if_neg hba, List.length_append]
    have : (if tv (a = b) = true then ([] : List Int) else [a.f0]).length ≤ 1 := by split <;> simp
    simp; omega
theorem refT_lt {l m : List S76} (hl : Up l) (hm : Up m) {i : Nat} (hi : i + 1 < (refT l m).length) : (refT l m).getD i 0 < (refT l m).getD (i + 1) 0 := by
  have := List.pairwise_iff_getElem.1 (refT_up hl hm).1 i (i + 1) (by omega) hi (by omega)
  simpa [List.getD_eq_getElem?_getD, List.getElem?_eq_getElem hi, List.getElem?_eq_getElem (show i < (refT l m).length by omega)] using this
set_option maxRecDepth 100000 in
set_option maxHeartbeats 1000000 in
theorem in_any (A : Option Addr) (xs : List Int) (c : Nat) (x : Int) (w : World) (hr : Kd.C (Kd.int .i64) w A xs.length xs) (hl : xs.length ≤ 4194304) :
    Calls Try.prog 33 #[.slice A xs.length c, .int .i64 x] w fun e w' => e = .returned (.bool (tv (x ∈ xs))) ∧ Below w.heap.size w w' := by
  have HR := hidm hr
  have HB0 : Hid (Below w.heap.size w w) := Below.refl _ _
  clear hr
  generalize hres : tv (x ∈ xs) = res
  have HRES := hidm hres
  clear hres
  go_enter Try.func33, Try.ntmps33
  go_wp2_with fail
  go_loopw [5] (fun v W => ∃ i : Nat, i ≤ xs.length ∧ v = .int .i64 i ∧ Hid (x ∉ xs.take i) ∧ Hid (Below w.heap.size w W)) (fun v _ => xs.length - (intOf v).toNat)
  case atStart => exact ⟨0, Nat.zero_le _, rfl, hidm (by simp), HB0⟩
  case round =>
    clear HB0
    obtain ⟨i, hil, rfl, HN, HB⟩ := hrel
    by_cases hi : i < xs.length
    · obtain ⟨ad, hA, y0⟩ := int_at HR.out i hi
      subst hA
      have hi0 : (0 : Int) ≤ (i : Int) := by omega
      have hi1 : (i : Int) < (xs.length : Int) := by omega
      have hxe : xs.getD i 0 = xs[i] := by simp [List.getD_eq_getElem?_getD, List.getElem?_eq_getElem hi]
      obtain ⟨z, hz⟩ : ∃ z, z = xs.getD i 0 := ⟨_, rfl⟩
      rw [← hz] at y0
      have y1 := pw_cell_below HB.out y0
      clear y0
      by_cases hx : z = x
      · have HT : Hid (res = true) := by rw [← HRES.out]; exact hidm (tv_yes (by rw [← hx, hz, hxe]; exact List.getElem_mem hi))
        have hb : (z == x) = true := by rw [beq_iff_eq]; exact hx
        clear hx hz hxe
        go_wp2_with fail
        go_ret
        exact ⟨by rw [HT.out]; rfl, HB.out⟩
      · have hb : (z == x) = false := by rw [beq_eq_false_iff_ne]; exact hx
        have HN2 : Hid (x ∉ xs.take (i + 1)) := by
          rw [List.take_succ_eq_append_getElem hi, List.mem_append]
          exact hidm (fun h => h.elim HN.out (fun h => hx (by rw [hz, hxe]; exact (List.mem_singleton.1 h).symm)))
        clear hx hz hxe
        go_wp2_with fail
        go_roundw
        case rel => exact ⟨i + 1, by omega, by go_num, HN2, HB⟩
        case measure => simp [intOf]; omega
    · have hi1 : ¬ (i : Int) < (xs.length : Int) := by omega
      have HT : Hid (res = false) := by
        rw [← HRES.out]
        have := HN.out
        rw [List.take_of_length_le (by omega)] at this
        exact hidm (tv_no this)
      go_wp2_with fail
      go_ret
      exact ⟨by rw [HT.out]; rfl, HB.out⟩
theorem three_C {w : World} {g : Nat} {na nb nc : Int} {A B C : Option Addr} {l m r : List S76} {c d e : Nat} (hk : w.heap[g]? = some (.cells #[.int .i64 na, .slice A l.length c, .int .i64 nb, .slice B m.length d, .int .i64 nc, .slice C r.length e] 27 (0, 0))) (ha : Kd.C k76 w A l.length l) (hc : l.length ≤ c) (hb : Kd.C k76 w B m.length m) (hd : m.length ≤ d) (hr : Kd.C k76 w C r.length r) (he : r.length ≤ e) :
    Kd.C k27 w (some ⟨g, 0, none⟩) 3 [⟨na, l⟩, ⟨nb, m⟩, ⟨nc, r⟩] := by
  refine ⟨rfl, by omega, fun _ => ⟨_, rfl, fun j p hj => ?_⟩⟩
  match j, hj with
  | 0, hj =>
    obtain rfl := Option.some.inj hj
    refine ⟨_, rfl, k27_mk w ⟨na, l⟩ hc ha, fun i u hu => ?_⟩
    rw [add_plain]
    match i, hu with
    | 0, hu => obtain rfl := Option.some.inj hu; exact blk_cell hk 0
    | 1, hu => obtain rfl := Option.some.inj hu; exact blk_cell hk 1
  | 1, hj =>
    obtain rfl := Option.some.inj hj
    refine ⟨_, rfl, k27_mk w ⟨nb, m⟩ hd hb, fun i u hu => ?_⟩
    rw [add_plain]
    match i, hu with
    | 0, hu => obtain rfl := Option.some.inj hu; exact blk_cell hk 2
    | 1, hu => obtain rfl := Option.some.inj hu; exact blk_cell hk 3
  | 2, hj =>
    obtain rfl := Option.some.inj hj
    refine ⟨_, rfl, k27_mk w ⟨nc, r⟩ he hr, fun i u hu => ?_⟩
    rw [add_plain]
    match i, hu with
    | 0, hu => obtain rfl := Option.some.inj hu; exact blk_cell hk 4
    | 1, hu => obtain rfl := Option.some.inj hu; exact blk_cell hk 5
structure Boxed3 (w : World) (o1 o2 o3 : Obj) (W : World) : Prop where
  b : Below w.heap.size w W
  k1 : W.heap[w.heap.size]? = some o1
  k2 : W.heap[w.heap.size + 1]? = some o2
  k3 : W.heap[w.heap.size + 1 + 1]? = some o3
theorem Boxed3.below {w : World} {o1 o2 o3 : Obj} {W W' : World} (h : Boxed3 w o1 o2 o3 W) (hb : Below W.heap.size W W') : Boxed3 w o1 o2 o3 W' :=
  ⟨below_step h.b hb, blk_below h.k1 hb, blk_below h.k2 hb, blk_below h.k3 hb⟩
theorem boxed3 (w : World) (o1 o2 o3 : Obj) : Boxed3 w o1 o2 o3 (((w.alloc o1).alloc o2).alloc o3) :=
  ⟨below_alloc (below_alloc (below_alloc (Below.refl _ _) _) _) _, allocs_at [o1, o2, o3] w 0 o1 rfl, allocs_at [o1, o2, o3] w 1 o2 rfl, allocs_at [o1, o2, o3] w 2 o3 rfl⟩
theorem touch_reads {W W' : World} {v : Value} {xs : List Int} (h : (Kd.int .i64).R 3 W' W.heap.size (fun _ => True) v xs) : ∃ A c, v = .slice A xs.length c ∧ Kd.C (Kd.int .i64) W' A xs.length xs := by
  obtain ⟨A, c, h1, _, h2⟩ := Kd.R_reads h
  exact ⟨A, c, h1, h2⟩
set_option maxRecDepth 100000 in
set_option maxHeartbeats 16000000 in
theorem three_any (na nb nc : Int) (A B C : Option Addr) (l m r : List S76) (c d e : Nat) (w : World) (ha : In4 w A l c) (hb : In4 w B m d) (hc : In4 w C r e) :
    Calls Try.prog 7 #[.agg #[.int .i64 na, .slice A l.length c], .agg #[.int .i64 nb, .slice B m.length d], .agg #[.int .i64 nc, .slice C r.length e]] w fun e w' => e = .returned (.bool true) ∧ Below w.heap.size w w' := by
  have HA := hidm ha
  have HB := hidm hb
  have HC := hidm hc
  clear ha hb hc
  have HX : Hid (Boxed3 w (.cells #[.int .i64 na, .slice A l.length c] 27) (.cells #[.int .i64 nb, .slice B m.length d] 27) (.cells #[.int .i64 nc, .slice C r.length e] 27) (((w.alloc (.cells #[.int .i64 na, .slice A l.length c] 27)).alloc (.cells #[.int .i64 nb, .slice B m.length d] 27)).alloc (.cells #[.int .i64 nc, .slice C r.length e] 27))) := boxed3 w _ _ _
  go_enter Try.func7, Try.ntmps7
  go_wp2_with fail
  generalize (((w.alloc (.cells #[.int .i64 na, .slice A l.length c] 27)).alloc (.cells #[.int .i64 nb, .slice B m.length d] 27)).alloc (.cells #[.int .i64 nc, .slice C r.length e] 27)) = W at HX ⊢
  refine (awake_any W).mono ?_
  rintro e_ w1 ⟨rfl, hb⟩
  replace HX := hidm (HX.out.below hb)
  clear hb
  have q0 : w1.cell? ⟨w.heap.size, 0, none⟩ = some (.int .i64 na) := blk_cell HX.out.k1 0
  have q1 : w1.cell? ⟨w.heap.size, 1, none⟩ = some (.slice A l.length c) := blk_cell HX.out.k1 1
  have q2 : w1.cell? ⟨w.heap.size + 1, 0, none⟩ = some (.int .i64 nb) := blk_cell HX.out.k2 0
  have q3 : w1.cell? ⟨w.heap.size + 1, 1, none⟩ = some (.slice B m.length d) := blk_cell HX.out.k2 1
  have q4 : w1.cell? ⟨w.heap.size + 1 + 1, 0, none⟩ = some (.int .i64 nc) := blk_cell HX.out.k3 0
  have q5 : w1.cell? ⟨w.heap.size + 1 + 1, 1, none⟩ = some (.slice C r.length e) := blk_cell HX.out.k3 1
  have K4 : Hid ((w1.alloc (.cells #[.int .i64 na, .slice A l.length c, .int .i64 nb, .slice B m.length d, .int .i64 nc, .slice C r.length e] 27)).heap[w1.heap.size]? = some (.cells #[.int .i64 na, .slice A l.length c, .int .i64 nb, .slice B m.length d, .int .i64 nc, .slice C r.length e] 27 (0, 0))) := blk_new _ _
  have HB4 : Hid (Below w1.heap.size w1 (w1.alloc (.cells #[.int .i64 na, .slice A l.length c, .int .i64 nb, .slice B m.length d, .int .i64 nc, .slice C r.length e] 27))) := below_alloc (Below.refl _ _) _
  go_wp2_with fail
  generalize (w1.alloc (.cells #[.int .i64 na, .slice A l.length c, .int .i64 nb, .slice B m.length d, .int .i64 nc, .slice C r.length e] 27)) = w2 at K4 HB4 ⊢
  replace HX := hidm (HX.out.below HB4.out)
  obtain ⟨r_, hg⟩ := great_any (some ⟨w1.heap.size, 0, none⟩) [⟨na, l⟩, ⟨nb, m⟩, ⟨nc, r⟩] 3 w2 (three_C K4.out (Kd.C_below HA.out.r HX.out.b) HA.out.cap (Kd.C_below HB.out.r HX.out.b) HB.out.cap (Kd.C_below HC.out.r HX.out.b) HC.out.cap) (Nat.le_refl _)
  refine hg.mono ?_
  clear hg q0 q1 q2 q3 q4 q5
  rintro e_ w5 ⟨rfl, hb⟩
  replace HX := hidm (HX.out.below hb)
  clear hb K4 HB4
  cases r_ with
  | true =>
    go_wp2_with fail
    go_ret
    exact ⟨rfl, HX.out.b⟩
  | false =>
  by_cases hka : CheckP na l
  · have HKa := hidm hka
    clear hka
    by_cases hkb : CheckP nb m
    · have HKb := hidm hkb
      clear hkb
      by_cases hkc : CheckP nc r
      · have HKc := hidm hkc
        clear hkc
        have q0 : w5.cell? ⟨w.heap.size, 0, none⟩ = some (.int .i64 na) := blk_cell HX.out.k1 0
        have q1 : w5.cell? ⟨w.heap.size, 1, none⟩ = some (.slice A l.length c) := blk_cell HX.out.k1 1
        have q2 : w5.cell? ⟨w.heap.size + 1, 0, none⟩ = some (.int .i64 nb) := blk_cell HX.out.k2 0
        have q3 : w5.cell? ⟨w.heap.size + 1, 1, none⟩ = some (.slice B m.length d) := blk_cell HX.out.k2 1
        have q4 : w5.cell? ⟨w.heap.size + 1 + 1, 0, none⟩ = some (.int .i64 nc) := blk_cell HX.out.k3 0
        have q5 : w5.cell? ⟨w.heap.size + 1 + 1, 1, none⟩ = some (.slice C r.length e) := blk_cell HX.out.k3 1
        go_wp2_with fail
        refine (touched_yes na nb A B l m c d w5 (Kd.C_below HA.out.r HX.out.b) HA.out.wf (Kd.C_below HB.out.r HX.out.b) HB.out.wf HKa.out HKb.out HA.out.sm.n HB.out.sm.n).mono ?_
        rintro e_ w6 ⟨v, rfl, hr, hb⟩
        obtain ⟨Xab, cab, rfl, hC⟩ := touch_reads hr
        have HCab := hidm hC
        replace HX := hidm (HX.out.below hb)
        clear hr hb hC q0 q1 q2 q3 q4 q5
        have q0 : w6.cell? ⟨w.heap.size, 0, none⟩ = some (.int .i64 na) := blk_cell HX.out.k1 0
        have q1 : w6.cell? ⟨w.heap.size, 1, none⟩ = some (.slice A l.length c) := blk_cell HX.out.k1 1
        have q2 : w6.cell? ⟨w.heap.size + 1, 0, none⟩ = some (.int .i64 nb) := blk_cell HX.out.k2 0
        have q3 : w6.cell? ⟨w.heap.size + 1, 1, none⟩ = some (.slice B m.length d) := blk_cell HX.out.k2 1
        have q4 : w6.cell? ⟨w.heap.size + 1 + 1, 0, none⟩ = some (.int .i64 nc) := blk_cell HX.out.k3 0
        have q5 : w6.cell? ⟨w.heap.size + 1 + 1, 1, none⟩ = some (.slice C r.length e) := blk_cell HX.out.k3 1
        go_wp2_with fail
        refine (touched_yes nb na B A m l d c w6 (Kd.C_below HB.out.r HX.out.b) HB.out.wf (Kd.C_below HA.out.r HX.out.b) HA.out.wf HKb.out HKa.out HB.out.sm.n HA.out.sm.n).mono ?_
        rintro e_ w7 ⟨v, rfl, hr, hb⟩
        obtain ⟨Xba, cba, rfl, hC⟩ := touch_reads hr
        have HCba := hidm hC
        replace HCab := hidm (Kd.C_below HCab.out hb)
        replace HX := hidm (HX.out.below hb)
        clear hr hb hC q0 q1 q2 q3 q4 q5
        have q0 : w7.cell? ⟨w.heap.size, 0, none⟩ = some (.int .i64 na) := blk_cell HX.out.k1 0
        have q1 : w7.cell? ⟨w.heap.size, 1, none⟩ = some (.slice A l.length c) := blk_cell HX.out.k1 1
        have q2 : w7.cell? ⟨w.heap.size + 1, 0, none⟩ = some (.int .i64 nb) := blk_cell HX.out.k2 0
        have q3 : w7.cell? ⟨w.heap.size + 1, 1, none⟩ = some (.slice B m.length d) := blk_cell HX.out.k2 1
        have q4 : w7.cell? ⟨w.heap.size + 1 + 1, 0, none⟩ = some (.int .i64 nc) := blk_cell HX.out.k3 0
        have q5 : w7.cell? ⟨w.heap.size + 1 + 1, 1, none⟩ = some (.slice C r.length e) := blk_cell HX.out.k3 1
        go_wp2_with fail
        refine (touched_yes nb nc B C m r d e w7 (Kd.C_below HB.out.r HX.out.b) HB.out.wf (Kd.C_below HC.out.r HX.out.b) HC.out.wf HKb.out HKc.out HB.out.sm.n HC.out.sm.n).mono ?_
        rintro e_ w8 ⟨v, rfl, hr, hb⟩
        obtain ⟨Xbc, cbc, rfl, hC⟩ := touch_reads hr
        have HCbc := hidm hC
        replace HCab := hidm (Kd.C_below HCab.out hb)
        replace HCba := hidm (Kd.C_below HCba.out hb)
        replace HX := hidm (HX.out.below hb)
        clear hr hb hC q0 q1 q2 q3 q4 q5
        have q0 : w8.cell? ⟨w.heap.size, 0, none⟩ = some (.int .i64 na) := blk_cell HX.out.k1 0
        have q1 : w8.cell? ⟨w.heap.size, 1, none⟩ = some (.slice A l.length c) := blk_cell HX.out.k1 1
        have q2 : w8.cell? ⟨w.heap.size + 1, 0, none⟩ = some (.int .i64 nb) := blk_cell HX.out.k2 0
        have q3 : w8.cell? ⟨w.heap.size + 1, 1, none⟩ = some (.slice B m.length d) := blk_cell HX.out.k2 1
        have q4 : w8.cell? ⟨w.heap.size + 1 + 1, 0, none⟩ = some (.int .i64 nc) := blk_cell HX.out.k3 0
        have q5 : w8.cell? ⟨w.heap.size + 1 + 1, 1, none⟩ = some (.slice C r.length e) := blk_cell HX.out.k3 1
        go_wp2_with fail
        refine (touched_yes na nc A C l r c e w8 (Kd.C_below HA.out.r HX.out.b) HA.out.wf (Kd.C_below HC.out.r HX.out.b) HC.out.wf HKa.out HKc.out HA.out.sm.n HC.out.sm.n).mono ?_
        rintro e_ w9 ⟨v, rfl, hr, hb⟩
        obtain ⟨Xac, cac, rfl, hC⟩ := touch_reads hr
        have HCac := hidm hC
        replace HCab := hidm (Kd.C_below HCab.out hb)
        replace HCba := hidm (Kd.C_below HCba.out hb)
        replace HCbc := hidm (Kd.C_below HCbc.out hb)
        replace HX := hidm (HX.out.below hb)
        clear hr hb hC q0 q1 q2 q3 q4 q5
        have q0 : w9.cell? ⟨w.heap.size, 0, none⟩ = some (.int .i64 na) := blk_cell HX.out.k1 0
        have q1 : w9.cell? ⟨w.heap.size, 1, none⟩ = some (.slice A l.length c) := blk_cell HX.out.k1 1
        have q2 : w9.cell? ⟨w.heap.size + 1, 0, none⟩ = some (.int .i64 nb) := blk_cell HX.out.k2 0
        have q3 : w9.cell? ⟨w.heap.size + 1, 1, none⟩ = some (.slice B m.length d) := blk_cell HX.out.k2 1
        have q4 : w9.cell? ⟨w.heap.size + 1 + 1, 0, none⟩ = some (.int .i64 nc) := blk_cell HX.out.k3 0
        have q5 : w9.cell? ⟨w.heap.size + 1 + 1, 1, none⟩ = some (.slice C r.length e) := blk_cell HX.out.k3 1
        go_wp2_with fail
        refine (touched_yes na na A A l l c c w9 (Kd.C_below HA.out.r HX.out.b) HA.out.wf (Kd.C_below HA.out.r HX.out.b) HA.out.wf HKa.out HKa.out HA.out.sm.n HA.out.sm.n).mono ?_
        rintro e_ w10 ⟨v, rfl, hr, hb⟩
        obtain ⟨Xaa, caa, rfl, hC⟩ := touch_reads hr
        have HCaa := hidm hC
        replace HCab := hidm (Kd.C_below HCab.out hb)
        replace HCba := hidm (Kd.C_below HCba.out hb)
        replace HCbc := hidm (Kd.C_below HCbc.out hb)
        replace HCac := hidm (Kd.C_below HCac.out hb)
        replace HX := hidm (HX.out.below hb)
        clear hr hb hC q0 q1 q2 q3 q4 q5
        have HULa := hidm (up_of_check HKa.out)
        have HULb := hidm (up_of_check HKb.out)
        have HULc := hidm (up_of_check HKc.out)
        rw [refT_self HULa.out] at HCaa ⊢
        rw [refT_comm HULb.out HULa.out] at HCba ⊢
        have hlab : (refT l m).length ≤ 4194304 := by have h1 := refT_len l m; have h2 := HA.out.sm.n; have h3 := HB.out.sm.n; omega
        have hlac : (refT l r).length ≤ 4194304 := by have h1 := refT_len l r; have h2 := HA.out.sm.n; have h3 := HC.out.sm.n; omega
        have hlbc : (refT m r).length ≤ 4194304 := by have h1 := refT_len m r; have h2 := HC.out.sm.n; have h3 := HB.out.sm.n; omega
        have HLEN : Hid ((refT l m).length ≤ l.length + m.length) := refT_len l m
        have HLT : Hid (∀ i : Nat, i + 1 < (refT l m).length → (refT l m).getD i 0 < (refT l m).getD (i + 1) 0) := fun i hi => refT_lt HULa.out HULb.out hi
        have HTHIRD : Hid (∀ x, x ∈ refT l r → x ∈ refT l m ∨ x ∈ refT m r) := fun x hx => refT_third HULa.out HULb.out HULc.out hx
        have HNONE : Hid ((refT l m) = [] → refT l r = refT m r) := fun h => refT_none HULa.out HULb.out HULc.out h
        have HSM : Hid (l.length ≤ 1048576 ∧ m.length ≤ 1048576) := ⟨HA.out.sm.n, HB.out.sm.n⟩
        clear HKa HKb HKc HULa HULb HULc HCaa
        generalize refT l m = AB at *
        generalize refT l r = AC at *
        generalize refT m r = BC at *
        go_wp2_with fail
        go_loopw [17] (fun v W => ∃ k : Nat, k ≤ AB.length ∧ v = .int .i64 k ∧ Hid (Boxed3 w (.cells #[.int .i64 na, .slice A l.length c] 27) (.cells #[.int .i64 nb, .slice B m.length d] 27) (.cells #[.int .i64 nc, .slice C r.length e] 27) W) ∧ Hid (Kd.C (Kd.int .i64) W Xab AB.length AB) ∧ Hid (Kd.C (Kd.int .i64) W Xba AB.length AB) ∧ Hid (Kd.C (Kd.int .i64) W Xac AC.length AC) ∧ Hid (Kd.C (Kd.int .i64) W Xbc BC.length BC)) (fun v _ => AB.length - (intOf v).toNat)
        case atStart => exact ⟨0, Nat.zero_le _, rfl, HX, HCab, HCba, HCac, HCbc⟩
        case round =>
          clear HX HCab HCba HCac HCbc
          obtain ⟨k, hk, rfl, HX, HCab, HCba, HCac, HCbc⟩ := hrel
          by_cases hki : k < AB.length
          · obtain ⟨xa, rfl, y0⟩ := int_at HCab.out k hki
            obtain ⟨xb, rfl, y1⟩ := int_at HCba.out k hki
            have hk0 : (0 : Int) ≤ (k : Int) := by omega
            have hk1 : (k : Int) < (AB.length : Int) := by omega
            obtain ⟨z, hz⟩ : ∃ z, z = AB.getD k 0 := ⟨_, rfl⟩
            rw [← hz] at y0 y1
            have HZ := hidm hz
            clear hz
            by_cases hk2 : 0 < k
            · have s0 : ∀ y : BW wr, y.1.cell? (xa.add k) = some (.int .i64 z) := bw_cell y0
              have s1 : ∀ y : BW wr, y.1.cell? (xb.add k) = some (.int .i64 z) := bw_cell y1
              obtain ⟨j, hj⟩ : ∃ j : Nat, k = j + 1 := ⟨k - 1, by omega⟩
              have HJ := hidm hj
              obtain ⟨xc, e, y2⟩ := int_at HCab.out j (by omega)
              injection e with e
              subst e
              obtain ⟨z0, hz0⟩ : ∃ z0, z0 = AB.getD j 0 := ⟨_, rfl⟩
              rw [← hz0] at y2
              have s2 : ∀ y : BW wr, y.1.cell? (xa.add j) = some (.int .i64 z0) := bw_cell y2
              have d0 : decide ((0 : Int) < (k : Int)) = true := decide_eq_true (by omega)
              have d1 : decide (z ≤ z0) = false := decide_eq_false (by have := HLT.out j (by omega); rw [HZ.out, hz0, hj]; omega)
              have hw2 : IntKind.i64.wrap ((k : Int) - 1) = (j : Int) := by rw [show (k : Int) - 1 = (j : Int) from by omega]; exact IntWalk.i64_in _ (by omega)
              have g0 : (0 : Int) ≤ (j : Int) := by omega
              have g1 : (j : Int) < (AB.length : Int) := by omega
              clear y0 y1 y2 hz0 hj
              go_wp2_with fail
              refine wp_region_bw (by kernel_rfl) (by kernel_rfl) ?_
              repeat (go_big_quiet_step (fail))
              refine wpQuiet_nil ?_
              rintro _ ⟨y, rfl⟩
              have HX2 := hidm (HX.out.below y.2)
              have H1 := hidm (Kd.C_below HCab.out y.2)
              have H2 := hidm (Kd.C_below HCba.out y.2)
              have H3 := hidm (Kd.C_below HCac.out y.2)
              have H4 := hidm (Kd.C_below HCbc.out y.2)
              clear s0 s1 s2 HX HCab HCba HCac HCbc
              go_wp2_with fail
              go_roundw
              case rel => exact ⟨k + 1, by omega, by go_num, HX2, H1, H2, H3, H4⟩
              case measure => simp [intOf]; omega
            · have hk3 : k = 0 := by omega
              subst hk3
              have y2 : wr.cell? xa = some (.int .i64 z) := by simpa [Addr.add] using y0
              have y3 : wr.cell? xb = some (.int .i64 z) := by simpa [Addr.add] using y1
              have s0 : ∀ y : BW wr, y.1.cell? xa = some (.int .i64 z) := bw_cell y2
              have s1 : ∀ y : BW wr, y.1.cell? xb = some (.int .i64 z) := bw_cell y3
              clear y0 y1 y2 y3
              go_wp2_with fail
              refine wp_region_bw (by kernel_rfl) (by kernel_rfl) ?_
              repeat (go_big_quiet_step (fail))
              refine wpQuiet_nil ?_
              rintro _ ⟨y, rfl⟩
              have HX2 := hidm (HX.out.below y.2)
              have H1 := hidm (Kd.C_below HCab.out y.2)
              have H2 := hidm (Kd.C_below HCba.out y.2)
              have H3 := hidm (Kd.C_below HCac.out y.2)
              have H4 := hidm (Kd.C_below HCbc.out y.2)
              clear s0 s1 HX HCab HCba HCac HCbc
              go_wp2_with fail
              go_roundw
              case rel => exact ⟨1, by omega, by go_num, HX2, H1, H2, H3, H4⟩
              case measure => simp [intOf]; omega
          · have hk1 : ¬ (k : Int) < (AB.length : Int) := by omega
            go_wp2_with fail
            obtain ⟨wo, rfl⟩ : ∃ wo : World, wo = wr := ⟨_, rfl⟩
            clear hk1 hki hk
            go_loopw [18] (fun v W => ∃ k : Nat, k ≤ AC.length ∧ v = .int .i64 k ∧ Hid (Boxed3 w (.cells #[.int .i64 na, .slice A l.length c] 27) (.cells #[.int .i64 nb, .slice B m.length d] 27) (.cells #[.int .i64 nc, .slice C r.length e] 27) W) ∧ Hid (Kd.C (Kd.int .i64) W Xab AB.length AB) ∧ Hid (Kd.C (Kd.int .i64) W Xac AC.length AC) ∧ Hid (Kd.C (Kd.int .i64) W Xbc BC.length BC)) (fun v _ => AC.length - (intOf v).toNat)
            case atStart => exact ⟨0, Nat.zero_le _, rfl, HX, HCab, HCac, HCbc⟩
            case round =>
              clear HX HCab HCba HCac HCbc
              obtain ⟨k, hk, rfl, HX, HCab, HCac, HCbc⟩ := hrel
              by_cases hki : k < AC.length
              · obtain ⟨xa, rfl, y0⟩ := int_at HCac.out k hki
                have HMEM : Hid (AC.getD k 0 ∈ AC) := by
                  rw [List.getD_eq_getElem?_getD, List.getElem?_eq_getElem hki]
                  exact hidm (List.getElem_mem hki)
                have hk0 : (0 : Int) ≤ (k : Int) := by omega
                have hk1 : (k : Int) < (AC.length : Int) := by omega
                obtain ⟨z, hz⟩ : ∃ z, z = AC.getD k 0 := ⟨_, rfl⟩
                rw [← hz] at y0 HMEM
                clear hz
                go_wp2_with fail
                refine (in_any Xab AB _ z wr HCab.out hlab).mono ?_
                rintro e_ w20 ⟨rfl, hb⟩
                have y1 := pw_cell_below hb y0
                replace HX := hidm (HX.out.below hb)
                replace HCab := hidm (Kd.C_below HCab.out hb)
                replace HCac := hidm (Kd.C_below HCac.out hb)
                replace HCbc := hidm (Kd.C_below HCbc.out hb)
                clear hb y0
                by_cases hin : z ∈ AB
                · rw [tv_yes hin]
                  clear hin
                  go_wp2_with fail
                  go_roundw
                  case rel => exact ⟨k + 1, by omega, by go_num, HX, HCab, HCac, HCbc⟩
                  case measure => simp [intOf]; omega
                · have hin2 : z ∈ BC := (HTHIRD.out z HMEM.out).resolve_left hin
                  have HIN2 := hidm hin2
                  rw [tv_no hin]
                  clear hin hin2
                  go_wp2_with fail
                  have hcall := in_any Xbc BC cbc z w20 HCbc.out hlbc
                  rw [tv_yes HIN2.out] at hcall
                  refine hcall.mono ?_
                  clear hcall
                  rintro e_ w21 ⟨rfl, hb⟩
                  replace HX := hidm (HX.out.below hb)
                  replace HCab := hidm (Kd.C_below HCab.out hb)
                  replace HCac := hidm (Kd.C_below HCac.out hb)
                  replace HCbc := hidm (Kd.C_below HCbc.out hb)
                  clear hb y1
                  go_wp2_with fail
                  go_roundw
                  case rel => exact ⟨k + 1, by omega, by go_num, HX, HCab, HCac, HCbc⟩
                  case measure => simp [intOf]; omega
              · have hk1 : ¬ (k : Int) < (AC.length : Int) := by omega
                have q1 : wr.cell? ⟨w.heap.size, 1, none⟩ = some (.slice A l.length c) := blk_cell HX.out.k1 1
                have q3 : wr.cell? ⟨w.heap.size + 1, 1, none⟩ = some (.slice B m.length d) := blk_cell HX.out.k2 1
                have hs := HSM.out
                have hw : IntKind.i64.wrap ((l.length : Int) + (m.length : Int)) = (l.length : Int) + (m.length : Int) := IntWalk.i64_in _ (by omega)
                have d2 : decide ((AB.length : Int) ≤ (l.length : Int) + (m.length : Int)) = true := decide_eq_true (by have := HLEN.out; omega)
                have HBB := hidm HX.out.b
                clear HX hs
                by_cases hpos : 0 < AB.length
                · have d3 : decide ((0 : Int) < (AB.length : Int)) = true := decide_eq_true (by omega)
                  go_wp2_with fail
                  go_ret
                  exact ⟨rfl, HBB.out⟩
                · have d3 : decide ((0 : Int) < (AB.length : Int)) = false := decide_eq_false (by omega)
                  have hne := HNONE.out (List.eq_nil_of_length_eq_zero (by omega))
                  have d4 : ((AC.length : Int) == (BC.length : Int)) = true := by rw [hne, beq_iff_eq]
                  clear hne
                  go_wp2_with fail
                  go_ret
                  exact ⟨rfl, HBB.out⟩
      · have HKc := hidm hkc
        clear hkc
        have q0 : w5.cell? ⟨w.heap.size, 0, none⟩ = some (.int .i64 na) := blk_cell HX.out.k1 0
        have q1 : w5.cell? ⟨w.heap.size, 1, none⟩ = some (.slice A l.length c) := blk_cell HX.out.k1 1
        have q2 : w5.cell? ⟨w.heap.size + 1, 0, none⟩ = some (.int .i64 nb) := blk_cell HX.out.k2 0
        have q3 : w5.cell? ⟨w.heap.size + 1, 1, none⟩ = some (.slice B m.length d) := blk_cell HX.out.k2 1
        have q4 : w5.cell? ⟨w.heap.size + 1 + 1, 0, none⟩ = some (.int .i64 nc) := blk_cell HX.out.k3 0
        have q5 : w5.cell? ⟨w.heap.size + 1 + 1, 1, none⟩ = some (.slice C r.length e) := blk_cell HX.out.k3 1
        go_wp2_with fail
        refine (touched_yes na nb A B l m c d w5 (Kd.C_below HA.out.r HX.out.b) HA.out.wf (Kd.C_below HB.out.r HX.out.b) HB.out.wf HKa.out HKb.out HA.out.sm.n HB.out.sm.n).mono ?_
        rintro e_ w6 ⟨v, rfl, hr, hb⟩
        obtain ⟨Xab, cab, rfl, hC⟩ := touch_reads hr
        have HCab := hidm hC
        replace HX := hidm (HX.out.below hb)
        clear hr hb hC q0 q1 q2 q3 q4 q5
        have q0 : w6.cell? ⟨w.heap.size, 0, none⟩ = some (.int .i64 na) := blk_cell HX.out.k1 0
        have q1 : w6.cell? ⟨w.heap.size, 1, none⟩ = some (.slice A l.length c) := blk_cell HX.out.k1 1
        have q2 : w6.cell? ⟨w.heap.size + 1, 0, none⟩ = some (.int .i64 nb) := blk_cell HX.out.k2 0
        have q3 : w6.cell? ⟨w.heap.size + 1, 1, none⟩ = some (.slice B m.length d) := blk_cell HX.out.k2 1
        have q4 : w6.cell? ⟨w.heap.size + 1 + 1, 0, none⟩ = some (.int .i64 nc) := blk_cell HX.out.k3 0
        have q5 : w6.cell? ⟨w.heap.size + 1 + 1, 1, none⟩ = some (.slice C r.length e) := blk_cell HX.out.k3 1
        go_wp2_with fail
        refine (touched_yes nb na B A m l d c w6 (Kd.C_below HB.out.r HX.out.b) HB.out.wf (Kd.C_below HA.out.r HX.out.b) HA.out.wf HKb.out HKa.out HB.out.sm.n HA.out.sm.n).mono ?_
        rintro e_ w7 ⟨v, rfl, hr, hb⟩
        obtain ⟨Xba, cba, rfl, hC⟩ := touch_reads hr
        have HCba := hidm hC
        replace HCab := hidm (Kd.C_below HCab.out hb)
        replace HX := hidm (HX.out.below hb)
        clear hr hb hC q0 q1 q2 q3 q4 q5
        have q0 : w7.cell? ⟨w.heap.size, 0, none⟩ = some (.int .i64 na) := blk_cell HX.out.k1 0
        have q1 : w7.cell? ⟨w.heap.size, 1, none⟩ = some (.slice A l.length c) := blk_cell HX.out.k1 1
        have q2 : w7.cell? ⟨w.heap.size + 1, 0, none⟩ = some (.int .i64 nb) := blk_cell HX.out.k2 0
        have q3 : w7.cell? ⟨w.heap.size + 1, 1, none⟩ = some (.slice B m.length d) := blk_cell HX.out.k2 1
        have q4 : w7.cell? ⟨w.heap.size + 1 + 1, 0, none⟩ = some (.int .i64 nc) := blk_cell HX.out.k3 0
        have q5 : w7.cell? ⟨w.heap.size + 1 + 1, 1, none⟩ = some (.slice C r.length e) := blk_cell HX.out.k3 1
        go_wp2_with fail
        refine (touched_no2 nb nc B C m r d e w7 (Kd.C_below HB.out.r HX.out.b) HB.out.wf (Kd.C_below HC.out.r HX.out.b) HC.out.wf HKb.out HKc.out).mono ?_
        rintro e_ w8 ⟨v, rfl, hr, hb⟩
        obtain ⟨Xbc, cbc, rfl, hC⟩ := touch_reads hr
        have HCbc := hidm hC
        replace HCab := hidm (Kd.C_below HCab.out hb)
        replace HCba := hidm (Kd.C_below HCba.out hb)
        replace HX := hidm (HX.out.below hb)
        clear hr hb hC q0 q1 q2 q3 q4 q5
        have q0 : w8.cell? ⟨w.heap.size, 0, none⟩ = some (.int .i64 na) := blk_cell HX.out.k1 0
        have q1 : w8.cell? ⟨w.heap.size, 1, none⟩ = some (.slice A l.length c) := blk_cell HX.out.k1 1
        have q2 : w8.cell? ⟨w.heap.size + 1, 0, none⟩ = some (.int .i64 nb) := blk_cell HX.out.k2 0
        have q3 : w8.cell? ⟨w.heap.size + 1, 1, none⟩ = some (.slice B m.length d) := blk_cell HX.out.k2 1
        have q4 : w8.cell? ⟨w.heap.size + 1 + 1, 0, none⟩ = some (.int .i64 nc) := blk_cell HX.out.k3 0
        have q5 : w8.cell? ⟨w.heap.size + 1 + 1, 1, none⟩ = some (.slice C r.length e) := blk_cell HX.out.k3 1
        go_wp2_with fail
        refine (touched_no2 na nc A C l r c e w8 (Kd.C_below HA.out.r HX.out.b) HA.out.wf (Kd.C_below HC.out.r HX.out.b) HC.out.wf HKa.out HKc.out).mono ?_
        rintro e_ w9 ⟨v, rfl, hr, hb⟩
        obtain ⟨Xac, cac, rfl, hC⟩ := touch_reads hr
        have HCac := hidm hC
        replace HCab := hidm (Kd.C_below HCab.out hb)
        replace HCba := hidm (Kd.C_below HCba.out hb)
        replace HCbc := hidm (Kd.C_below HCbc.out hb)
        replace HX := hidm (HX.out.below hb)
        clear hr hb hC q0 q1 q2 q3 q4 q5
        have q0 : w9.cell? ⟨w.heap.size, 0, none⟩ = some (.int .i64 na) := blk_cell HX.out.k1 0
        have q1 : w9.cell? ⟨w.heap.size, 1, none⟩ = some (.slice A l.length c) := blk_cell HX.out.k1 1
        have q2 : w9.cell? ⟨w.heap.size + 1, 0, none⟩ = some (.int .i64 nb) := blk_cell HX.out.k2 0
        have q3 : w9.cell? ⟨w.heap.size + 1, 1, none⟩ = some (.slice B m.length d) := blk_cell HX.out.k2 1
        have q4 : w9.cell? ⟨w.heap.size + 1 + 1, 0, none⟩ = some (.int .i64 nc) := blk_cell HX.out.k3 0
        have q5 : w9.cell? ⟨w.heap.size + 1 + 1, 1, none⟩ = some (.slice C r.length e) := blk_cell HX.out.k3 1
        go_wp2_with fail
        refine (touched_yes na na A A l l c c w9 (Kd.C_below HA.out.r HX.out.b) HA.out.wf (Kd.C_below HA.out.r HX.out.b) HA.out.wf HKa.out HKa.out HA.out.sm.n HA.out.sm.n).mono ?_
        rintro e_ w10 ⟨v, rfl, hr, hb⟩
        obtain ⟨Xaa, caa, rfl, hC⟩ := touch_reads hr
        have HCaa := hidm hC
        replace HCab := hidm (Kd.C_below HCab.out hb)
        replace HCba := hidm (Kd.C_below HCba.out hb)
        replace HCbc := hidm (Kd.C_below HCbc.out hb)
        replace HCac := hidm (Kd.C_below HCac.out hb)
        replace HX := hidm (HX.out.below hb)
        clear hr hb hC q0 q1 q2 q3 q4 q5
        go_wp2_with fail
        go_ret
        exact ⟨rfl, HX.out.b⟩
    · have HKb := hidm hkb
      clear hkb
      by_cases hkc : CheckP nc r
      · have HKc := hidm hkc
        clear hkc
        have q0 : w5.cell? ⟨w.heap.size, 0, none⟩ = some (.int .i64 na) := blk_cell HX.out.k1 0
        have q1 : w5.cell? ⟨w.heap.size, 1, none⟩ = some (.slice A l.length c) := blk_cell HX.out.k1 1
        have q2 : w5.cell? ⟨w.heap.size + 1, 0, none⟩ = some (.int .i64 nb) := blk_cell HX.out.k2 0
        have q3 : w5.cell? ⟨w.heap.size + 1, 1, none⟩ = some (.slice B m.length d) := blk_cell HX.out.k2 1
        have q4 : w5.cell? ⟨w.heap.size + 1 + 1, 0, none⟩ = some (.int .i64 nc) := blk_cell HX.out.k3 0
        have q5 : w5.cell? ⟨w.heap.size + 1 + 1, 1, none⟩ = some (.slice C r.length e) := blk_cell HX.out.k3 1
        go_wp2_with fail
        refine (touched_no2 na nb A B l m c d w5 (Kd.C_below HA.out.r HX.out.b) HA.out.wf (Kd.C_below HB.out.r HX.out.b) HB.out.wf HKa.out HKb.out).mono ?_
        rintro e_ w6 ⟨v, rfl, hr, hb⟩
        obtain ⟨Xab, cab, rfl, hC⟩ := touch_reads hr
        have HCab := hidm hC
        replace HX := hidm (HX.out.below hb)
        clear hr hb hC q0 q1 q2 q3 q4 q5
        have q0 : w6.cell? ⟨w.heap.size, 0, none⟩ = some (.int .i64 na) := blk_cell HX.out.k1 0
        have q1 : w6.cell? ⟨w.heap.size, 1, none⟩ = some (.slice A l.length c) := blk_cell HX.out.k1 1
        have q2 : w6.cell? ⟨w.heap.size + 1, 0, none⟩ = some (.int .i64 nb) := blk_cell HX.out.k2 0
        have q3 : w6.cell? ⟨w.heap.size + 1, 1, none⟩ = some (.slice B m.length d) := blk_cell HX.out.k2 1
        have q4 : w6.cell? ⟨w.heap.size + 1 + 1, 0, none⟩ = some (.int .i64 nc) := blk_cell HX.out.k3 0
        have q5 : w6.cell? ⟨w.heap.size + 1 + 1, 1, none⟩ = some (.slice C r.length e) := blk_cell HX.out.k3 1
        go_wp2_with fail
        refine (touched_no1 nb na B A m l d c w6 (Kd.C_below HB.out.r HX.out.b) HB.out.wf (Kd.C_below HA.out.r HX.out.b) HA.out.wf HKb.out).mono ?_
        rintro e_ w7 ⟨v, rfl, hr, hb⟩
        obtain ⟨Xba, cba, rfl, hC⟩ := touch_reads hr
        have HCba := hidm hC
        replace HCab := hidm (Kd.C_below HCab.out hb)
        replace HX := hidm (HX.out.below hb)
        clear hr hb hC q0 q1 q2 q3 q4 q5
        have q0 : w7.cell? ⟨w.heap.size, 0, none⟩ = some (.int .i64 na) := blk_cell HX.out.k1 0
        have q1 : w7.cell? ⟨w.heap.size, 1, none⟩ = some (.slice A l.length c) := blk_cell HX.out.k1 1
        have q2 : w7.cell? ⟨w.heap.size + 1, 0, none⟩ = some (.int .i64 nb) := blk_cell HX.out.k2 0
        have q3 : w7.cell? ⟨w.heap.size + 1, 1, none⟩ = some (.slice B m.length d) := blk_cell HX.out.k2 1
        have q4 : w7.cell? ⟨w.heap.size + 1 + 1, 0, none⟩ = some (.int .i64 nc) := blk_cell HX.out.k3 0
        have q5 : w7.cell? ⟨w.heap.size + 1 + 1, 1, none⟩ = some (.slice C r.length e) := blk_cell HX.out.k3 1
        go_wp2_with fail
        refine (touched_no1 nb nc B C m r d e w7 (Kd.C_below HB.out.r HX.out.b) HB.out.wf (Kd.C_below HC.out.r HX.out.b) HC.out.wf HKb.out).mono ?_
        rintro e_ w8 ⟨v, rfl, hr, hb⟩
        obtain ⟨Xbc, cbc, rfl, hC⟩ := touch_reads hr
        have HCbc := hidm hC
        replace HCab := hidm (Kd.C_below HCab.out hb)
        replace HCba := hidm (Kd.C_below HCba.out hb)
        replace HX := hidm (HX.out.below hb)
        clear hr hb hC q0 q1 q2 q3 q4 q5
        have q0 : w8.cell? ⟨w.heap.size, 0, none⟩ = some (.int .i64 na) := blk_cell HX.out.k1 0
        have q1 : w8.cell? ⟨w.heap.size, 1, none⟩ = some (.slice A l.length c) := blk_cell HX.out.k1 1
        have q2 : w8.cell? ⟨w.heap.size + 1, 0, none⟩ = some (.int .i64 nb) := blk_cell HX.out.k2 0
        have q3 : w8.cell? ⟨w.heap.size + 1, 1, none⟩ = some (.slice B m.length d) := blk_cell HX.out.k2 1
        have q4 : w8.cell? ⟨w.heap.size + 1 + 1, 0, none⟩ = some (.int .i64 nc) := blk_cell HX.out.k3 0
        have q5 : w8.cell? ⟨w.heap.size + 1 + 1, 1, none⟩ = some (.slice C r.length e) := blk_cell HX.out.k3 1
        go_wp2_with fail
        refine (touched_yes na nc A C l r c e w8 (Kd.C_below HA.out.r HX.out.b) HA.out.wf (Kd.C_below HC.out.r HX.out.b) HC.out.wf HKa.out HKc.out HA.out.sm.n HC.out.sm.n).mono ?_
        rintro e_ w9 ⟨v, rfl, hr, hb⟩
        obtain ⟨Xac, cac, rfl, hC⟩ := touch_reads hr
        have HCac := hidm hC
        replace HCab := hidm (Kd.C_below HCab.out hb)
        replace HCba := hidm (Kd.C_below HCba.out hb)
        replace HCbc := hidm (Kd.C_below HCbc.out hb)
        replace HX := hidm (HX.out.below hb)
        clear hr hb hC q0 q1 q2 q3 q4 q5
        have q0 : w9.cell? ⟨w.heap.size, 0, none⟩ = some (.int .i64 na) := blk_cell HX.out.k1 0
        have q1 : w9.cell? ⟨w.heap.size, 1, none⟩ = some (.slice A l.length c) := blk_cell HX.out.k1 1
        have q2 : w9.cell? ⟨w.heap.size + 1, 0, none⟩ = some (.int .i64 nb) := blk_cell HX.out.k2 0
        have q3 : w9.cell? ⟨w.heap.size + 1, 1, none⟩ = some (.slice B m.length d) := blk_cell HX.out.k2 1
        have q4 : w9.cell? ⟨w.heap.size + 1 + 1, 0, none⟩ = some (.int .i64 nc) := blk_cell HX.out.k3 0
        have q5 : w9.cell? ⟨w.heap.size + 1 + 1, 1, none⟩ = some (.slice C r.length e) := blk_cell HX.out.k3 1
        go_wp2_with fail
        refine (touched_yes na na A A l l c c w9 (Kd.C_below HA.out.r HX.out.b) HA.out.wf (Kd.C_below HA.out.r HX.out.b) HA.out.wf HKa.out HKa.out HA.out.sm.n HA.out.sm.n).mono ?_
        rintro e_ w10 ⟨v, rfl, hr, hb⟩
        obtain ⟨Xaa, caa, rfl, hC⟩ := touch_reads hr
        have HCaa := hidm hC
        replace HCab := hidm (Kd.C_below HCab.out hb)
        replace HCba := hidm (Kd.C_below HCba.out hb)
        replace HCbc := hidm (Kd.C_below HCbc.out hb)
        replace HCac := hidm (Kd.C_below HCac.out hb)
        replace HX := hidm (HX.out.below hb)
        clear hr hb hC q0 q1 q2 q3 q4 q5
        go_wp2_with fail
        go_ret
        exact ⟨rfl, HX.out.b⟩
      · have HKc := hidm hkc
        clear hkc
        have q0 : w5.cell? ⟨w.heap.size, 0, none⟩ = some (.int .i64 na) := blk_cell HX.out.k1 0
        have q1 : w5.cell? ⟨w.heap.size, 1, none⟩ = some (.slice A l.length c) := blk_cell HX.out.k1 1
        have q2 : w5.cell? ⟨w.heap.size + 1, 0, none⟩ = some (.int .i64 nb) := blk_cell HX.out.k2 0
        have q3 : w5.cell? ⟨w.heap.size + 1, 1, none⟩ = some (.slice B m.length d) := blk_cell HX.out.k2 1
        have q4 : w5.cell? ⟨w.heap.size + 1 + 1, 0, none⟩ = some (.int .i64 nc) := blk_cell HX.out.k3 0
        have q5 : w5.cell? ⟨w.heap.size + 1 + 1, 1, none⟩ = some (.slice C r.length e) := blk_cell HX.out.k3 1
        go_wp2_with fail
        refine (touched_no2 na nb A B l m c d w5 (Kd.C_below HA.out.r HX.out.b) HA.out.wf (Kd.C_below HB.out.r HX.out.b) HB.out.wf HKa.out HKb.out).mono ?_
        rintro e_ w6 ⟨v, rfl, hr, hb⟩
        obtain ⟨Xab, cab, rfl, hC⟩ := touch_reads hr
        have HCab := hidm hC
        replace HX := hidm (HX.out.below hb)
        clear hr hb hC q0 q1 q2 q3 q4 q5
        have q0 : w6.cell? ⟨w.heap.size, 0, none⟩ = some (.int .i64 na) := blk_cell HX.out.k1 0
        have q1 : w6.cell? ⟨w.heap.size, 1, none⟩ = some (.slice A l.length c) := blk_cell HX.out.k1 1
        have q2 : w6.cell? ⟨w.heap.size + 1, 0, none⟩ = some (.int .i64 nb) := blk_cell HX.out.k2 0
        have q3 : w6.cell? ⟨w.heap.size + 1, 1, none⟩ = some (.slice B m.length d) := blk_cell HX.out.k2 1
        have q4 : w6.cell? ⟨w.heap.size + 1 + 1, 0, none⟩ = some (.int .i64 nc) := blk_cell HX.out.k3 0
        have q5 : w6.cell? ⟨w.heap.size + 1 + 1, 1, none⟩ = some (.slice C r.length e) := blk_cell HX.out.k3 1
        go_wp2_with fail
        refine (touched_no1 nb na B A m l d c w6 (Kd.C_below HB.out.r HX.out.b) HB.out.wf (Kd.C_below HA.out.r HX.out.b) HA.out.wf HKb.out).mono ?_
        rintro e_ w7 ⟨v, rfl, hr, hb⟩
        obtain ⟨Xba, cba, rfl, hC⟩ := touch_reads hr
        have HCba := hidm hC
        replace HCab := hidm (Kd.C_below HCab.out hb)
        replace HX := hidm (HX.out.below hb)
        clear hr hb hC q0 q1 q2 q3 q4 q5
        have q0 : w7.cell? ⟨w.heap.size, 0, none⟩ = some (.int .i64 na) := blk_cell HX.out.k1 0
        have q1 : w7.cell? ⟨w.heap.size, 1, none⟩ = some (.slice A l.length c) := blk_cell HX.out.k1 1
        have q2 : w7.cell? ⟨w.heap.size + 1, 0, none⟩ = some (.int .i64 nb) := blk_cell HX.out.k2 0
        have q3 : w7.cell? ⟨w.heap.size + 1, 1, none⟩ = some (.slice B m.length d) := blk_cell HX.out.k2 1
        have q4 : w7.cell? ⟨w.heap.size + 1 + 1, 0, none⟩ = some (.int .i64 nc) := blk_cell HX.out.k3 0
        have q5 : w7.cell? ⟨w.heap.size + 1 + 1, 1, none⟩ = some (.slice C r.length e) := blk_cell HX.out.k3 1
        go_wp2_with fail
        refine (touched_no1 nb nc B C m r d e w7 (Kd.C_below HB.out.r HX.out.b) HB.out.wf (Kd.C_below HC.out.r HX.out.b) HC.out.wf HKb.out).mono ?_
        rintro e_ w8 ⟨v, rfl, hr, hb⟩
        obtain ⟨Xbc, cbc, rfl, hC⟩ := touch_reads hr
        have HCbc := hidm hC
        replace HCab := hidm (Kd.C_below HCab.out hb)
        replace HCba := hidm (Kd.C_below HCba.out hb)
        replace HX := hidm (HX.out.below hb)
        clear hr hb hC q0 q1 q2 q3 q4 q5
        have q0 : w8.cell? ⟨w.heap.size, 0, none⟩ = some (.int .i64 na) := blk_cell HX.out.k1 0
        have q1 : w8.cell? ⟨w.heap.size, 1, none⟩ = some (.slice A l.length c) := blk_cell HX.out.k1 1
        have q2 : w8.cell? ⟨w.heap.size + 1, 0, none⟩ = some (.int .i64 nb) := blk_cell HX.out.k2 0
        have q3 : w8.cell? ⟨w.heap.size + 1, 1, none⟩ = some (.slice B m.length d) := blk_cell HX.out.k2 1
        have q4 : w8.cell? ⟨w.heap.size + 1 + 1, 0, none⟩ = some (.int .i64 nc) := blk_cell HX.out.k3 0
        have q5 : w8.cell? ⟨w.heap.size + 1 + 1, 1, none⟩ = some (.slice C r.length e) := blk_cell HX.out.k3 1
        go_wp2_with fail
        refine (touched_no2 na nc A C l r c e w8 (Kd.C_below HA.out.r HX.out.b) HA.out.wf (Kd.C_below HC.out.r HX.out.b) HC.out.wf HKa.out HKc.out).mono ?_
        rintro e_ w9 ⟨v, rfl, hr, hb⟩
        obtain ⟨Xac, cac, rfl, hC⟩ := touch_reads hr
        have HCac := hidm hC
        replace HCab := hidm (Kd.C_below HCab.out hb)
        replace HCba := hidm (Kd.C_below HCba.out hb)
        replace HCbc := hidm (Kd.C_below HCbc.out hb)
        replace HX := hidm (HX.out.below hb)
        clear hr hb hC q0 q1 q2 q3 q4 q5
        have q0 : w9.cell? ⟨w.heap.size, 0, none⟩ = some (.int .i64 na) := blk_cell HX.out.k1 0
        have q1 : w9.cell? ⟨w.heap.size, 1, none⟩ = some (.slice A l.length c) := blk_cell HX.out.k1 1
        have q2 : w9.cell? ⟨w.heap.size + 1, 0, none⟩ = some (.int .i64 nb) := blk_cell HX.out.k2 0
        have q3 : w9.cell? ⟨w.heap.size + 1, 1, none⟩ = some (.slice B m.length d) := blk_cell HX.out.k2 1
        have q4 : w9.cell? ⟨w.heap.size + 1 + 1, 0, none⟩ = some (.int .i64 nc) := blk_cell HX.out.k3 0
        have q5 : w9.cell? ⟨w.heap.size + 1 + 1, 1, none⟩ = some (.slice C r.length e) := blk_cell HX.out.k3 1
        go_wp2_with fail
        refine (touched_yes na na A A l l c c w9 (Kd.C_below HA.out.r HX.out.b) HA.out.wf (Kd.C_below HA.out.r HX.out.b) HA.out.wf HKa.out HKa.out HA.out.sm.n HA.out.sm.n).mono ?_
        rintro e_ w10 ⟨v, rfl, hr, hb⟩
        obtain ⟨Xaa, caa, rfl, hC⟩ := touch_reads hr
        have HCaa := hidm hC
        replace HCab := hidm (Kd.C_below HCab.out hb)
        replace HCba := hidm (Kd.C_below HCba.out hb)
        replace HCbc := hidm (Kd.C_below HCbc.out hb)
        replace HCac := hidm (Kd.C_below HCac.out hb)
        replace HX := hidm (HX.out.below hb)
        clear hr hb hC q0 q1 q2 q3 q4 q5
        go_wp2_with fail
        go_ret
        exact ⟨rfl, HX.out.b⟩
  · have HKa := hidm hka
    clear hka
    by_cases hkb : CheckP nb m
    · have HKb := hidm hkb
      clear hkb
      by_cases hkc : CheckP nc r
      · have HKc := hidm hkc
        clear hkc
        have q0 : w5.cell? ⟨w.heap.size, 0, none⟩ = some (.int .i64 na) := blk_cell HX.out.k1 0
        have q1 : w5.cell? ⟨w.heap.size, 1, none⟩ = some (.slice A l.length c) := blk_cell HX.out.k1 1
        have q2 : w5.cell? ⟨w.heap.size + 1, 0, none⟩ = some (.int .i64 nb) := blk_cell HX.out.k2 0
        have q3 : w5.cell? ⟨w.heap.size + 1, 1, none⟩ = some (.slice B m.length d) := blk_cell HX.out.k2 1
        have q4 : w5.cell? ⟨w.heap.size + 1 + 1, 0, none⟩ = some (.int .i64 nc) := blk_cell HX.out.k3 0
        have q5 : w5.cell? ⟨w.heap.size + 1 + 1, 1, none⟩ = some (.slice C r.length e) := blk_cell HX.out.k3 1
        go_wp2_with fail
        refine (touched_no1 na nb A B l m c d w5 (Kd.C_below HA.out.r HX.out.b) HA.out.wf (Kd.C_below HB.out.r HX.out.b) HB.out.wf HKa.out).mono ?_
        rintro e_ w6 ⟨v, rfl, hr, hb⟩
        obtain ⟨Xab, cab, rfl, hC⟩ := touch_reads hr
        have HCab := hidm hC
        replace HX := hidm (HX.out.below hb)
        clear hr hb hC q0 q1 q2 q3 q4 q5
        have q0 : w6.cell? ⟨w.heap.size, 0, none⟩ = some (.int .i64 na) := blk_cell HX.out.k1 0
        have q1 : w6.cell? ⟨w.heap.size, 1, none⟩ = some (.slice A l.length c) := blk_cell HX.out.k1 1
        have q2 : w6.cell? ⟨w.heap.size + 1, 0, none⟩ = some (.int .i64 nb) := blk_cell HX.out.k2 0
        have q3 : w6.cell? ⟨w.heap.size + 1, 1, none⟩ = some (.slice B m.length d) := blk_cell HX.out.k2 1
        have q4 : w6.cell? ⟨w.heap.size + 1 + 1, 0, none⟩ = some (.int .i64 nc) := blk_cell HX.out.k3 0
        have q5 : w6.cell? ⟨w.heap.size + 1 + 1, 1, none⟩ = some (.slice C r.length e) := blk_cell HX.out.k3 1
        go_wp2_with fail
        refine (touched_no2 nb na B A m l d c w6 (Kd.C_below HB.out.r HX.out.b) HB.out.wf (Kd.C_below HA.out.r HX.out.b) HA.out.wf HKb.out HKa.out).mono ?_
        rintro e_ w7 ⟨v, rfl, hr, hb⟩
        obtain ⟨Xba, cba, rfl, hC⟩ := touch_reads hr
        have HCba := hidm hC
        replace HCab := hidm (Kd.C_below HCab.out hb)
        replace HX := hidm (HX.out.below hb)
        clear hr hb hC q0 q1 q2 q3 q4 q5
        have q0 : w7.cell? ⟨w.heap.size, 0, none⟩ = some (.int .i64 na) := blk_cell HX.out.k1 0
        have q1 : w7.cell? ⟨w.heap.size, 1, none⟩ = some (.slice A l.length c) := blk_cell HX.out.k1 1
        have q2 : w7.cell? ⟨w.heap.size + 1, 0, none⟩ = some (.int .i64 nb) := blk_cell HX.out.k2 0
        have q3 : w7.cell? ⟨w.heap.size + 1, 1, none⟩ = some (.slice B m.length d) := blk_cell HX.out.k2 1
        have q4 : w7.cell? ⟨w.heap.size + 1 + 1, 0, none⟩ = some (.int .i64 nc) := blk_cell HX.out.k3 0
        have q5 : w7.cell? ⟨w.heap.size + 1 + 1, 1, none⟩ = some (.slice C r.length e) := blk_cell HX.out.k3 1
        go_wp2_with fail
        refine (touched_yes nb nc B C m r d e w7 (Kd.C_below HB.out.r HX.out.b) HB.out.wf (Kd.C_below HC.out.r HX.out.b) HC.out.wf HKb.out HKc.out HB.out.sm.n HC.out.sm.n).mono ?_
        rintro e_ w8 ⟨v, rfl, hr, hb⟩
        obtain ⟨Xbc, cbc, rfl, hC⟩ := touch_reads hr
        have HCbc := hidm hC
        replace HCab := hidm (Kd.C_below HCab.out hb)
        replace HCba := hidm (Kd.C_below HCba.out hb)
        replace HX := hidm (HX.out.below hb)
        clear hr hb hC q0 q1 q2 q3 q4 q5
        have q0 : w8.cell? ⟨w.heap.size, 0, none⟩ = some (.int .i64 na) := blk_cell HX.out.k1 0
        have q1 : w8.cell? ⟨w.heap.size, 1, none⟩ = some (.slice A l.length c) := blk_cell HX.out.k1 1
        have q2 : w8.cell? ⟨w.heap.size + 1, 0, none⟩ = some (.int .i64 nb) := blk_cell HX.out.k2 0
        have q3 : w8.cell? ⟨w.heap.size + 1, 1, none⟩ = some (.slice B m.length d) := blk_cell HX.out.k2 1
        have q4 : w8.cell? ⟨w.heap.size + 1 + 1, 0, none⟩ = some (.int .i64 nc) := blk_cell HX.out.k3 0
        have q5 : w8.cell? ⟨w.heap.size + 1 + 1, 1, none⟩ = some (.slice C r.length e) := blk_cell HX.out.k3 1
        go_wp2_with fail
        refine (touched_no1 na nc A C l r c e w8 (Kd.C_below HA.out.r HX.out.b) HA.out.wf (Kd.C_below HC.out.r HX.out.b) HC.out.wf HKa.out).mono ?_
        rintro e_ w9 ⟨v, rfl, hr, hb⟩
        obtain ⟨Xac, cac, rfl, hC⟩ := touch_reads hr
        have HCac := hidm hC
        replace HCab := hidm (Kd.C_below HCab.out hb)
        replace HCba := hidm (Kd.C_below HCba.out hb)
        replace HCbc := hidm (Kd.C_below HCbc.out hb)
        replace HX := hidm (HX.out.below hb)
        clear hr hb hC q0 q1 q2 q3 q4 q5
        have q0 : w9.cell? ⟨w.heap.size, 0, none⟩ = some (.int .i64 na) := blk_cell HX.out.k1 0
        have q1 : w9.cell? ⟨w.heap.size, 1, none⟩ = some (.slice A l.length c) := blk_cell HX.out.k1 1
        have q2 : w9.cell? ⟨w.heap.size + 1, 0, none⟩ = some (.int .i64 nb) := blk_cell HX.out.k2 0
        have q3 : w9.cell? ⟨w.heap.size + 1, 1, none⟩ = some (.slice B m.length d) := blk_cell HX.out.k2 1
        have q4 : w9.cell? ⟨w.heap.size + 1 + 1, 0, none⟩ = some (.int .i64 nc) := blk_cell HX.out.k3 0
        have q5 : w9.cell? ⟨w.heap.size + 1 + 1, 1, none⟩ = some (.slice C r.length e) := blk_cell HX.out.k3 1
        go_wp2_with fail
        refine (touched_no1 na na A A l l c c w9 (Kd.C_below HA.out.r HX.out.b) HA.out.wf (Kd.C_below HA.out.r HX.out.b) HA.out.wf HKa.out).mono ?_
        rintro e_ w10 ⟨v, rfl, hr, hb⟩
        obtain ⟨Xaa, caa, rfl, hC⟩ := touch_reads hr
        have HCaa := hidm hC
        replace HCab := hidm (Kd.C_below HCab.out hb)
        replace HCba := hidm (Kd.C_below HCba.out hb)
        replace HCbc := hidm (Kd.C_below HCbc.out hb)
        replace HCac := hidm (Kd.C_below HCac.out hb)
        replace HX := hidm (HX.out.below hb)
        clear hr hb hC q0 q1 q2 q3 q4 q5
        go_wp2_with fail
        go_ret
        exact ⟨rfl, HX.out.b⟩
      · have HKc := hidm hkc
        clear hkc
        have q0 : w5.cell? ⟨w.heap.size, 0, none⟩ = some (.int .i64 na) := blk_cell HX.out.k1 0
        have q1 : w5.cell? ⟨w.heap.size, 1, none⟩ = some (.slice A l.length c) := blk_cell HX.out.k1 1
        have q2 : w5.cell? ⟨w.heap.size + 1, 0, none⟩ = some (.int .i64 nb) := blk_cell HX.out.k2 0
        have q3 : w5.cell? ⟨w.heap.size + 1, 1, none⟩ = some (.slice B m.length d) := blk_cell HX.out.k2 1
        have q4 : w5.cell? ⟨w.heap.size + 1 + 1, 0, none⟩ = some (.int .i64 nc) := blk_cell HX.out.k3 0
        have q5 : w5.cell? ⟨w.heap.size + 1 + 1, 1, none⟩ = some (.slice C r.length e) := blk_cell HX.out.k3 1
        go_wp2_with fail
        refine (touched_no1 na nb A B l m c d w5 (Kd.C_below HA.out.r HX.out.b) HA.out.wf (Kd.C_below HB.out.r HX.out.b) HB.out.wf HKa.out).mono ?_
        rintro e_ w6 ⟨v, rfl, hr, hb⟩
        obtain ⟨Xab, cab, rfl, hC⟩ := touch_reads hr
        have HCab := hidm hC
        replace HX := hidm (HX.out.below hb)
        clear hr hb hC q0 q1 q2 q3 q4 q5
        have q0 : w6.cell? ⟨w.heap.size, 0, none⟩ = some (.int .i64 na) := blk_cell HX.out.k1 0
        have q1 : w6.cell? ⟨w.heap.size, 1, none⟩ = some (.slice A l.length c) := blk_cell HX.out.k1 1
        have q2 : w6.cell? ⟨w.heap.size + 1, 0, none⟩ = some (.int .i64 nb) := blk_cell HX.out.k2 0
        have q3 : w6.cell? ⟨w.heap.size + 1, 1, none⟩ = some (.slice B m.length d) := blk_cell HX.out.k2 1
        have q4 : w6.cell? ⟨w.heap.size + 1 + 1, 0, none⟩ = some (.int .i64 nc) := blk_cell HX.out.k3 0
        have q5 : w6.cell? ⟨w.heap.size + 1 + 1, 1, none⟩ = some (.slice C r.length e) := blk_cell HX.out.k3 1
        go_wp2_with fail
        refine (touched_no2 nb na B A m l d c w6 (Kd.C_below HB.out.r HX.out.b) HB.out.wf (Kd.C_below HA.out.r HX.out.b) HA.out.wf HKb.out HKa.out).mono ?_
        rintro e_ w7 ⟨v, rfl, hr, hb⟩
        obtain ⟨Xba, cba, rfl, hC⟩ := touch_reads hr
        have HCba := hidm hC
        replace HCab := hidm (Kd.C_below HCab.out hb)
        replace HX := hidm (HX.out.below hb)
        clear hr hb hC q0 q1 q2 q3 q4 q5
        have q0 : w7.cell? ⟨w.heap.size, 0, none⟩ = some (.int .i64 na) := blk_cell HX.out.k1 0
        have q1 : w7.cell? ⟨w.heap.size, 1, none⟩ = some (.slice A l.length c) := blk_cell HX.out.k1 1
        have q2 : w7.cell? ⟨w.heap.size + 1, 0, none⟩ = some (.int .i64 nb) := blk_cell HX.out.k2 0
        have q3 : w7.cell? ⟨w.heap.size + 1, 1, none⟩ = some (.slice B m.length d) := blk_cell HX.out.k2 1
        have q4 : w7.cell? ⟨w.heap.size + 1 + 1, 0, none⟩ = some (.int .i64 nc) := blk_cell HX.out.k3 0
        have q5 : w7.cell? ⟨w.heap.size + 1 + 1, 1, none⟩ = some (.slice C r.length e) := blk_cell HX.out.k3 1
        go_wp2_with fail
        refine (touched_no2 nb nc B C m r d e w7 (Kd.C_below HB.out.r HX.out.b) HB.out.wf (Kd.C_below HC.out.r HX.out.b) HC.out.wf HKb.out HKc.out).mono ?_
        rintro e_ w8 ⟨v, rfl, hr, hb⟩
        obtain ⟨Xbc, cbc, rfl, hC⟩ := touch_reads hr
        have HCbc := hidm hC
        replace HCab := hidm (Kd.C_below HCab.out hb)
        replace HCba := hidm (Kd.C_below HCba.out hb)
        replace HX := hidm (HX.out.below hb)
        clear hr hb hC q0 q1 q2 q3 q4 q5
        have q0 : w8.cell? ⟨w.heap.size, 0, none⟩ = some (.int .i64 na) := blk_cell HX.out.k1 0
        have q1 : w8.cell? ⟨w.heap.size, 1, none⟩ = some (.slice A l.length c) := blk_cell HX.out.k1 1
        have q2 : w8.cell? ⟨w.heap.size + 1, 0, none⟩ = some (.int .i64 nb) := blk_cell HX.out.k2 0
        have q3 : w8.cell? ⟨w.heap.size + 1, 1, none⟩ = some (.slice B m.length d) := blk_cell HX.out.k2 1
        have q4 : w8.cell? ⟨w.heap.size + 1 + 1, 0, none⟩ = some (.int .i64 nc) := blk_cell HX.out.k3 0
        have q5 : w8.cell? ⟨w.heap.size + 1 + 1, 1, none⟩ = some (.slice C r.length e) := blk_cell HX.out.k3 1
        go_wp2_with fail
        refine (touched_no1 na nc A C l r c e w8 (Kd.C_below HA.out.r HX.out.b) HA.out.wf (Kd.C_below HC.out.r HX.out.b) HC.out.wf HKa.out).mono ?_
        rintro e_ w9 ⟨v, rfl, hr, hb⟩
        obtain ⟨Xac, cac, rfl, hC⟩ := touch_reads hr
        have HCac := hidm hC
        replace HCab := hidm (Kd.C_below HCab.out hb)
        replace HCba := hidm (Kd.C_below HCba.out hb)
        replace HCbc := hidm (Kd.C_below HCbc.out hb)
        replace HX := hidm (HX.out.below hb)
        clear hr hb hC q0 q1 q2 q3 q4 q5
        have q0 : w9.cell? ⟨w.heap.size, 0, none⟩ = some (.int .i64 na) := blk_cell HX.out.k1 0
        have q1 : w9.cell? ⟨w.heap.size, 1, none⟩ = some (.slice A l.length c) := blk_cell HX.out.k1 1
        have q2 : w9.cell? ⟨w.heap.size + 1, 0, none⟩ = some (.int .i64 nb) := blk_cell HX.out.k2 0
        have q3 : w9.cell? ⟨w.heap.size + 1, 1, none⟩ = some (.slice B m.length d) := blk_cell HX.out.k2 1
        have q4 : w9.cell? ⟨w.heap.size + 1 + 1, 0, none⟩ = some (.int .i64 nc) := blk_cell HX.out.k3 0
        have q5 : w9.cell? ⟨w.heap.size + 1 + 1, 1, none⟩ = some (.slice C r.length e) := blk_cell HX.out.k3 1
        go_wp2_with fail
        refine (touched_no1 na na A A l l c c w9 (Kd.C_below HA.out.r HX.out.b) HA.out.wf (Kd.C_below HA.out.r HX.out.b) HA.out.wf HKa.out).mono ?_
        rintro e_ w10 ⟨v, rfl, hr, hb⟩
        obtain ⟨Xaa, caa, rfl, hC⟩ := touch_reads hr
        have HCaa := hidm hC
        replace HCab := hidm (Kd.C_below HCab.out hb)
        replace HCba := hidm (Kd.C_below HCba.out hb)
        replace HCbc := hidm (Kd.C_below HCbc.out hb)
        replace HCac := hidm (Kd.C_below HCac.out hb)
        replace HX := hidm (HX.out.below hb)
        clear hr hb hC q0 q1 q2 q3 q4 q5
        go_wp2_with fail
        go_ret
        exact ⟨rfl, HX.out.b⟩
    · have HKb := hidm hkb
      clear hkb
      by_cases hkc : CheckP nc r
      · have HKc := hidm hkc
        clear hkc
        have q0 : w5.cell? ⟨w.heap.size, 0, none⟩ = some (.int .i64 na) := blk_cell HX.out.k1 0
        have q1 : w5.cell? ⟨w.heap.size, 1, none⟩ = some (.slice A l.length c) := blk_cell HX.out.k1 1
        have q2 : w5.cell? ⟨w.heap.size + 1, 0, none⟩ = some (.int .i64 nb) := blk_cell HX.out.k2 0
        have q3 : w5.cell? ⟨w.heap.size + 1, 1, none⟩ = some (.slice B m.length d) := blk_cell HX.out.k2 1
        have q4 : w5.cell? ⟨w.heap.size + 1 + 1, 0, none⟩ = some (.int .i64 nc) := blk_cell HX.out.k3 0
        have q5 : w5.cell? ⟨w.heap.size + 1 + 1, 1, none⟩ = some (.slice C r.length e) := blk_cell HX.out.k3 1
        go_wp2_with fail
        refine (touched_no1 na nb A B l m c d w5 (Kd.C_below HA.out.r HX.out.b) HA.out.wf (Kd.C_below HB.out.r HX.out.b) HB.out.wf HKa.out).mono ?_
        rintro e_ w6 ⟨v, rfl, hr, hb⟩
        obtain ⟨Xab, cab, rfl, hC⟩ := touch_reads hr
        have HCab := hidm hC
        replace HX := hidm (HX.out.below hb)
        clear hr hb hC q0 q1 q2 q3 q4 q5
        have q0 : w6.cell? ⟨w.heap.size, 0, none⟩ = some (.int .i64 na) := blk_cell HX.out.k1 0
        have q1 : w6.cell? ⟨w.heap.size, 1, none⟩ = some (.slice A l.length c) := blk_cell HX.out.k1 1
        have q2 : w6.cell? ⟨w.heap.size + 1, 0, none⟩ = some (.int .i64 nb) := blk_cell HX.out.k2 0
        have q3 : w6.cell? ⟨w.heap.size + 1, 1, none⟩ = some (.slice B m.length d) := blk_cell HX.out.k2 1
        have q4 : w6.cell? ⟨w.heap.size + 1 + 1, 0, none⟩ = some (.int .i64 nc) := blk_cell HX.out.k3 0
        have q5 : w6.cell? ⟨w.heap.size + 1 + 1, 1, none⟩ = some (.slice C r.length e) := blk_cell HX.out.k3 1
        go_wp2_with fail
        refine (touched_no1 nb na B A m l d c w6 (Kd.C_below HB.out.r HX.out.b) HB.out.wf (Kd.C_below HA.out.r HX.out.b) HA.out.wf HKb.out).mono ?_
        rintro e_ w7 ⟨v, rfl, hr, hb⟩
        obtain ⟨Xba, cba, rfl, hC⟩ := touch_reads hr
        have HCba := hidm hC
        replace HCab := hidm (Kd.C_below HCab.out hb)
        replace HX := hidm (HX.out.below hb)
        clear hr hb hC q0 q1 q2 q3 q4 q5
        have q0 : w7.cell? ⟨w.heap.size, 0, none⟩ = some (.int .i64 na) := blk_cell HX.out.k1 0
        have q1 : w7.cell? ⟨w.heap.size, 1, none⟩ = some (.slice A l.length c) := blk_cell HX.out.k1 1
        have q2 : w7.cell? ⟨w.heap.size + 1, 0, none⟩ = some (.int .i64 nb) := blk_cell HX.out.k2 0
        have q3 : w7.cell? ⟨w.heap.size + 1, 1, none⟩ = some (.slice B m.length d) := blk_cell HX.out.k2 1
        have q4 : w7.cell? ⟨w.heap.size + 1 + 1, 0, none⟩ = some (.int .i64 nc) := blk_cell HX.out.k3 0
        have q5 : w7.cell? ⟨w.heap.size + 1 + 1, 1, none⟩ = some (.slice C r.length e) := blk_cell HX.out.k3 1
        go_wp2_with fail
        refine (touched_no1 nb nc B C m r d e w7 (Kd.C_below HB.out.r HX.out.b) HB.out.wf (Kd.C_below HC.out.r HX.out.b) HC.out.wf HKb.out).mono ?_
        rintro e_ w8 ⟨v, rfl, hr, hb⟩
        obtain ⟨Xbc, cbc, rfl, hC⟩ := touch_reads hr
        have HCbc := hidm hC
        replace HCab := hidm (Kd.C_below HCab.out hb)
        replace HCba := hidm (Kd.C_below HCba.out hb)
        replace HX := hidm (HX.out.below hb)
        clear hr hb hC q0 q1 q2 q3 q4 q5
        have q0 : w8.cell? ⟨w.heap.size, 0, none⟩ = some (.int .i64 na) := blk_cell HX.out.k1 0
        have q1 : w8.cell? ⟨w.heap.size, 1, none⟩ = some (.slice A l.length c) := blk_cell HX.out.k1 1
        have q2 : w8.cell? ⟨w.heap.size + 1, 0, none⟩ = some (.int .i64 nb) := blk_cell HX.out.k2 0
        have q3 : w8.cell? ⟨w.heap.size + 1, 1, none⟩ = some (.slice B m.length d) := blk_cell HX.out.k2 1
        have q4 : w8.cell? ⟨w.heap.size + 1 + 1, 0, none⟩ = some (.int .i64 nc) := blk_cell HX.out.k3 0
        have q5 : w8.cell? ⟨w.heap.size + 1 + 1, 1, none⟩ = some (.slice C r.length e) := blk_cell HX.out.k3 1
        go_wp2_with fail
        refine (touched_no1 na nc A C l r c e w8 (Kd.C_below HA.out.r HX.out.b) HA.out.wf (Kd.C_below HC.out.r HX.out.b) HC.out.wf HKa.out).mono ?_
        rintro e_ w9 ⟨v, rfl, hr, hb⟩
        obtain ⟨Xac, cac, rfl, hC⟩ := touch_reads hr
        have HCac := hidm hC
        replace HCab := hidm (Kd.C_below HCab.out hb)
        replace HCba := hidm (Kd.C_below HCba.out hb)
        replace HCbc := hidm (Kd.C_below HCbc.out hb)
        replace HX := hidm (HX.out.below hb)
        clear hr hb hC q0 q1 q2 q3 q4 q5
        have q0 : w9.cell? ⟨w.heap.size, 0, none⟩ = some (.int .i64 na) := blk_cell HX.out.k1 0
        have q1 : w9.cell? ⟨w.heap.size, 1, none⟩ = some (.slice A l.length c) := blk_cell HX.out.k1 1
        have q2 : w9.cell? ⟨w.heap.size + 1, 0, none⟩ = some (.int .i64 nb) := blk_cell HX.out.k2 0
        have q3 : w9.cell? ⟨w.heap.size + 1, 1, none⟩ = some (.slice B m.length d) := blk_cell HX.out.k2 1
        have q4 : w9.cell? ⟨w.heap.size + 1 + 1, 0, none⟩ = some (.int .i64 nc) := blk_cell HX.out.k3 0
        have q5 : w9.cell? ⟨w.heap.size + 1 + 1, 1, none⟩ = some (.slice C r.length e) := blk_cell HX.out.k3 1
        go_wp2_with fail
        refine (touched_no1 na na A A l l c c w9 (Kd.C_below HA.out.r HX.out.b) HA.out.wf (Kd.C_below HA.out.r HX.out.b) HA.out.wf HKa.out).mono ?_
        rintro e_ w10 ⟨v, rfl, hr, hb⟩
        obtain ⟨Xaa, caa, rfl, hC⟩ := touch_reads hr
        have HCaa := hidm hC
        replace HCab := hidm (Kd.C_below HCab.out hb)
        replace HCba := hidm (Kd.C_below HCba.out hb)
        replace HCbc := hidm (Kd.C_below HCbc.out hb)
        replace HCac := hidm (Kd.C_below HCac.out hb)
        replace HX := hidm (HX.out.below hb)
        clear hr hb hC q0 q1 q2 q3 q4 q5
        go_wp2_with fail
        go_ret
        exact ⟨rfl, HX.out.b⟩
      · have HKc := hidm hkc
        clear hkc
        have q0 : w5.cell? ⟨w.heap.size, 0, none⟩ = some (.int .i64 na) := blk_cell HX.out.k1 0
        have q1 : w5.cell? ⟨w.heap.size, 1, none⟩ = some (.slice A l.length c) := blk_cell HX.out.k1 1
        have q2 : w5.cell? ⟨w.heap.size + 1, 0, none⟩ = some (.int .i64 nb) := blk_cell HX.out.k2 0
        have q3 : w5.cell? ⟨w.heap.size + 1, 1, none⟩ = some (.slice B m.length d) := blk_cell HX.out.k2 1
        have q4 : w5.cell? ⟨w.heap.size + 1 + 1, 0, none⟩ = some (.int .i64 nc) := blk_cell HX.out.k3 0
        have q5 : w5.cell? ⟨w.heap.size + 1 + 1, 1, none⟩ = some (.slice C r.length e) := blk_cell HX.out.k3 1
        go_wp2_with fail
        refine (touched_no1 na nb A B l m c d w5 (Kd.C_below HA.out.r HX.out.b) HA.out.wf (Kd.C_below HB.out.r HX.out.b) HB.out.wf HKa.out).mono ?_
        rintro e_ w6 ⟨v, rfl, hr, hb⟩
        obtain ⟨Xab, cab, rfl, hC⟩ := touch_reads hr
        have HCab := hidm hC
        replace HX := hidm (HX.out.below hb)
        clear hr hb hC q0 q1 q2 q3 q4 q5
        have q0 : w6.cell? ⟨w.heap.size, 0, none⟩ = some (.int .i64 na) := blk_cell HX.out.k1 0
        have q1 : w6.cell? ⟨w.heap.size, 1, none⟩ = some (.slice A l.length c) := blk_cell HX.out.k1 1
        have q2 : w6.cell? ⟨w.heap.size + 1, 0, none⟩ = some (.int .i64 nb) := blk_cell HX.out.k2 0
        have q3 : w6.cell? ⟨w.heap.size + 1, 1, none⟩ = some (.slice B m.length d) := blk_cell HX.out.k2 1
        have q4 : w6.cell? ⟨w.heap.size + 1 + 1, 0, none⟩ = some (.int .i64 nc) := blk_cell HX.out.k3 0
        have q5 : w6.cell? ⟨w.heap.size + 1 + 1, 1, none⟩ = some (.slice C r.length e) := blk_cell HX.out.k3 1
        go_wp2_with fail
        refine (touched_no1 nb na B A m l d c w6 (Kd.C_below HB.out.r HX.out.b) HB.out.wf (Kd.C_below HA.out.r HX.out.b) HA.out.wf HKb.out).mono ?_
        rintro e_ w7 ⟨v, rfl, hr, hb⟩
        obtain ⟨Xba, cba, rfl, hC⟩ := touch_reads hr
        have HCba := hidm hC
        replace HCab := hidm (Kd.C_below HCab.out hb)
        replace HX := hidm (HX.out.below hb)
        clear hr hb hC q0 q1 q2 q3 q4 q5
        have q0 : w7.cell? ⟨w.heap.size, 0, none⟩ = some (.int .i64 na) := blk_cell HX.out.k1 0
        have q1 : w7.cell? ⟨w.heap.size, 1, none⟩ = some (.slice A l.length c) := blk_cell HX.out.k1 1
        have q2 : w7.cell? ⟨w.heap.size + 1, 0, none⟩ = some (.int .i64 nb) := blk_cell HX.out.k2 0
        have q3 : w7.cell? ⟨w.heap.size + 1, 1, none⟩ = some (.slice B m.length d) := blk_cell HX.out.k2 1
        have q4 : w7.cell? ⟨w.heap.size + 1 + 1, 0, none⟩ = some (.int .i64 nc) := blk_cell HX.out.k3 0
        have q5 : w7.cell? ⟨w.heap.size + 1 + 1, 1, none⟩ = some (.slice C r.length e) := blk_cell HX.out.k3 1
        go_wp2_with fail
        refine (touched_no1 nb nc B C m r d e w7 (Kd.C_below HB.out.r HX.out.b) HB.out.wf (Kd.C_below HC.out.r HX.out.b) HC.out.wf HKb.out).mono ?_
        rintro e_ w8 ⟨v, rfl, hr, hb⟩
        obtain ⟨Xbc, cbc, rfl, hC⟩ := touch_reads hr
        have HCbc := hidm hC
        replace HCab := hidm (Kd.C_below HCab.out hb)
        replace HCba := hidm (Kd.C_below HCba.out hb)
        replace HX := hidm (HX.out.below hb)
        clear hr hb hC q0 q1 q2 q3 q4 q5
        have q0 : w8.cell? ⟨w.heap.size, 0, none⟩ = some (.int .i64 na) := blk_cell HX.out.k1 0
        have q1 : w8.cell? ⟨w.heap.size, 1, none⟩ = some (.slice A l.length c) := blk_cell HX.out.k1 1
        have q2 : w8.cell? ⟨w.heap.size + 1, 0, none⟩ = some (.int .i64 nb) := blk_cell HX.out.k2 0
        have q3 : w8.cell? ⟨w.heap.size + 1, 1, none⟩ = some (.slice B m.length d) := blk_cell HX.out.k2 1
        have q4 : w8.cell? ⟨w.heap.size + 1 + 1, 0, none⟩ = some (.int .i64 nc) := blk_cell HX.out.k3 0
        have q5 : w8.cell? ⟨w.heap.size + 1 + 1, 1, none⟩ = some (.slice C r.length e) := blk_cell HX.out.k3 1
        go_wp2_with fail
        refine (touched_no1 na nc A C l r c e w8 (Kd.C_below HA.out.r HX.out.b) HA.out.wf (Kd.C_below HC.out.r HX.out.b) HC.out.wf HKa.out).mono ?_
        rintro e_ w9 ⟨v, rfl, hr, hb⟩
        obtain ⟨Xac, cac, rfl, hC⟩ := touch_reads hr
        have HCac := hidm hC
        replace HCab := hidm (Kd.C_below HCab.out hb)
        replace HCba := hidm (Kd.C_below HCba.out hb)
        replace HCbc := hidm (Kd.C_below HCbc.out hb)
        replace HX := hidm (HX.out.below hb)
        clear hr hb hC q0 q1 q2 q3 q4 q5
        have q0 : w9.cell? ⟨w.heap.size, 0, none⟩ = some (.int .i64 na) := blk_cell HX.out.k1 0
        have q1 : w9.cell? ⟨w.heap.size, 1, none⟩ = some (.slice A l.length c) := blk_cell HX.out.k1 1
        have q2 : w9.cell? ⟨w.heap.size + 1, 0, none⟩ = some (.int .i64 nb) := blk_cell HX.out.k2 0
        have q3 : w9.cell? ⟨w.heap.size + 1, 1, none⟩ = some (.slice B m.length d) := blk_cell HX.out.k2 1
        have q4 : w9.cell? ⟨w.heap.size + 1 + 1, 0, none⟩ = some (.int .i64 nc) := blk_cell HX.out.k3 0
        have q5 : w9.cell? ⟨w.heap.size + 1 + 1, 1, none⟩ = some (.slice C r.length e) := blk_cell HX.out.k3 1
        go_wp2_with fail
        refine (touched_no1 na na A A l l c c w9 (Kd.C_below HA.out.r HX.out.b) HA.out.wf (Kd.C_below HA.out.r HX.out.b) HA.out.wf HKa.out).mono ?_
        rintro e_ w10 ⟨v, rfl, hr, hb⟩
        obtain ⟨Xaa, caa, rfl, hC⟩ := touch_reads hr
        have HCaa := hidm hC
        replace HCab := hidm (Kd.C_below HCab.out hb)
        replace HCba := hidm (Kd.C_below HCba.out hb)
        replace HCbc := hidm (Kd.C_below HCbc.out hb)
        replace HCac := hidm (Kd.C_below HCac.out hb)
        replace HX := hidm (HX.out.below hb)
        clear hr hb hC q0 q1 q2 q3 q4 q5
        go_wp2_with fail
        go_ret
        exact ⟨rfl, HX.out.b⟩
end Go.Proofs.Ytlopfkkegjajlaa
