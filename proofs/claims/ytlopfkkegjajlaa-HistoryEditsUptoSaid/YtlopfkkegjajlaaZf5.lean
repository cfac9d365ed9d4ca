/- Texts of this proof and of the kit's print for this seat, gathered by wip/shake.py: only what the proof reaches. -/
import Derived.Test.YtlopfkkegjajlaaZf4
import Derived.Carry
import Derived.Deep.Cut
import Derived.Shelf.Spec.SlicesInsert
import Derived.Lib.AppendZerosOnto
import Derived.Laws.CopyOwn
namespace Go.Proofs.Ytlopfkkegjajlaa
open Go.RowKit Go.Maps Go.Proofs.YtlopfkkegjajlaaW.PrintWords PHistoryTouched
theorem Boxed2.map {w : World} {o1 o2 : Obj} {W W' : World} {b : Nat} (h : Boxed2 w o1 o2 W) (hg : W.grownBy W' (some b)) (hb : w.heap.size + 2 ≤ b) : Boxed2 w o1 o2 W' :=
  h.grown hg (Below.grown h.b hg h.b.size (fun k e => by injection e with e; omega)) (fun e => by injection e with e; omega) (fun e => by injection e with e; omega)
theorem int_R_kept {w w' : World} {base : Nat} {ok : Nat → Prop} {v : Value} {xs : List Int} (h : (Kd.int .i64).R 3 w base ok v xs) (hk : ∀ k, v.ownBlock = some k → w'.heap[k]? = w.heap[k]?) : (Kd.int .i64).R 3 w' base (fun _ => True) v xs :=
  ints_R (own_move (inner_ints h) hk)
theorem own_lt_R {w : World} {base : Nat} {ok : Nat → Prop} {v : Value} {xs : List Int} (h : (Kd.int .i64).R 3 w base ok v xs) : ∀ k, v.ownBlock = some k → k < w.heap.size := fun k hk => own_lt (inner_ints h) k hk
theorem int_R_map {w w' : World} {base : Nat} {ok : Nat → Prop} {v : Value} {xs : List Int} {b n : Nat} {D : DataW Value} (h : (Kd.int .i64).R 3 w base ok v xs) (hm : w.ownsMap Try.prog 3 RV b n D) (hg : w.grownBy w' (some b)) : (Kd.int .i64).R 3 w' base (fun _ => True) v xs :=
  int_R_kept h (fun k hk => hg.block k (own_lt_R h k hk) (fun e => map_apart h hm (e.symm.trans hk.symm)))
theorem iter_apart {w : World} {base : Nat} {ok : Nat → Prop} {v : Value} {xs : List Int} {b r n : Nat} {D : DataW Value} {left : Lit → Bool} {cnt : Nat} (h : (Kd.int .i64).R 3 w base ok v xs) (hm : w.ranges Try.prog 3 RV b r n D left cnt) : some r ≠ v.ownBlock := fun e => by
  obtain ⟨cells, hc⟩ := own_typed (inner_ints h) r e.symm
  obtain ⟨es, clock, since, seen, c0, _, _, _, _, hr, _⟩ := hm
  rw [hr] at hc
  cases hc
theorem MapIs.congr {w : World} {D : DataW Value} {xs ys : List S76} (h : MapIs w D xs) (he : ∀ n, n ∈ xs ↔ n ∈ ys) : MapIs w D ys :=
  ⟨h.im, fun x => (h.has x).trans ⟨fun ⟨n, h1, h2⟩ => ⟨n, (he n).1 h1, h2⟩, fun ⟨n, h1, h2⟩ => ⟨n, (he n).2 h1, h2⟩⟩, fun n hn => h.at_ n ((he n).2 hn)⟩
theorem histNode_any (a b : S76) (hid : a.f0 = b.f0) (A4 A5 A6 B4 B5 B6 : Option Addr) (c4 c5 c6 d4 d5 d6 : Nat) (w : World) (ha : NodeR w a A4 c4 A5 c5 A6 c6) (hb : NodeR w b B4 d4 B5 d5 B6 d6) :
    Calls Try.prog 43 #[nodeV a A4 c4 A5 c5 A6 c6, nodeV b B4 d4 B5 d5 B6 d6] w fun e w' => e = .returned (.bool (tv (a = b))) ∧ Below w.heap.size w w' := by
  obtain ⟨k, h⟩ := (histSame_ev a b ha.len hid).rounds
  exact history_same.calls k a.f0 a.f1 a.f2 a.f3 A4 c4 a.f4 A5 c5 a.f5 A6 c6 a.f6 b.f0 b.f1 b.f2 b.f3 B4 d4 b.f4 B5 d5 b.f5 B6 d6 b.f6 _ w ha.r4 ha.l4 ha.r5 ha.l5 ha.r6 ha.l6 hb.r4 hb.l4 hb.r5 hb.l5 hb.r6 hb.l6 h
theorem size2 (w : World) (o p : Obj) : Hid (w.heap.size < ((w.alloc o).alloc p).heap.size ∧ w.heap.size + 1 < ((w.alloc o).alloc p).heap.size) := by
  have e1 : (w.alloc o).heap.size = w.heap.size + 1 := by simp
  have e2 : ((w.alloc o).alloc p).heap.size = (w.alloc o).heap.size + 1 := by simp
  unfold Hid
  omega
theorem blk_new2 (w : World) (o : Obj) (p : Obj) : ((w.alloc o).alloc p).heap[w.heap.size + 1]? = some p := by
  have := blk_new (w.alloc o) p
  have e : (w.alloc o).heap.size = w.heap.size + 1 := by simp
  rw [e] at this
  exact this
theorem take_rd {l : List S76} {j : Nat} (h : j < l.length) : l.take (j + 1) = l.take j ++ [rd_T76 l j] := by
  rw [List.take_succ_eq_append_getElem h]
  simp [rd_T76, List.getD_eq_getElem?_getD, List.getElem?_eq_getElem h]
theorem up_take {l : List S76} (h : Up l) {j : Nat} (hj : j < l.length) : ∀ n ∈ l.take j, n.f0 ≠ (rd_T76 l j).f0 := fun n hn e => by
  have h1 := List.Pairwise.sublist (List.take_sublist (j + 1) l) h
  rw [take_rd hj] at h1
  have := (List.pairwise_append.1 h1).2.2 n hn _ (List.mem_singleton.2 rfl)
  omega
theorem id_I64 {nx : Int} {l : List S76} (h : CheckP nx l) {j : Nat} (hj : j < l.length) : I64 (rd_T76 l j).f0 := by
  have hu := ids_up h.hi h.ids
  have h1 := hu.lo j hj
  have h2 := hu.hi j hj
  exact ⟨by omega, by omega⟩
noncomputable def restL (l m : List S76) (k : Nat) : List S76 := l.filter fun n => tv (∀ y ∈ m.take k, y.f0 ≠ n.f0)
theorem mem_rest {l m : List S76} {k : Nat} {n : S76} : n ∈ restL l m k ↔ n ∈ l ∧ ∀ y ∈ m.take k, y.f0 ≠ n.f0 := by
  unfold restL
  rw [List.mem_filter]
  simp [tv_iff]
theorem MapIs.start {w : World} {D : DataW Value} {l m : List S76} (h : MapIs w D (l.take l.length)) : MapIs w D (restL l m 0) :=
  h.congr fun n => by rw [mem_rest]; simp
theorem MapIs.gone {w : World} {D : DataW Value} {l m : List S76} {k : Nat} (hk : k < m.length) (h : MapIs w D (restL l m k)) : MapIs w (D.del (.int .i64 (rd_T76 m k).f0)) (restL l m (k + 1)) :=
  (h.del _).congr fun n => by
    rw [List.mem_filter, mem_rest, mem_rest, take_rd hk]
    constructor
    · rintro ⟨⟨h1, h2⟩, h3⟩
      have h3' : n.f0 ≠ (rd_T76 m k).f0 := by simpa using h3
      exact ⟨h1, fun y hy => by
        rcases List.mem_append.1 hy with hy | hy
        · exact h2 y hy
        · rw [List.mem_singleton.1 hy]; exact fun e => h3' e.symm⟩
    · rintro ⟨h1, h2⟩
      exact ⟨⟨h1, fun y hy => h2 y (List.mem_append_left _ hy)⟩, by
        have := h2 (rd_T76 m k) (by simp)
        simp; exact fun e => this e.symm⟩
theorem outB_take {l m : List S76} {k : Nat} (hk : k < m.length) : outB l (m.take (k + 1)) = outB l (m.take k) ++ (if tv (rd_T76 m k ∈ l) then [] else [(rd_T76 m k).f0]) := by
  rw [take_rd hk, outB_snoc]
def GotI (D : DataW Value) (left : Lit → Bool) (got : List Int) : Prop :=
  got.Nodup ∧ (∀ x, x ∈ got ↔ (Maps.has D (.int .i64 x) = true ∧ left (.int .i64 x) = false)) ∧ ∀ x, left (.int .i64 x) = true → Maps.has D (.int .i64 x) = true
theorem GotI.start (D : DataW Value) : GotI D (Maps.has D) [] := ⟨List.nodup_nil, fun x => by cases Maps.has D (.int .i64 x) <;> simp, fun _ h => h⟩
theorem GotI.step {D : DataW Value} {left : Lit → Bool} {got : List Int} (h : GotI D left got) {x : Int} (hl : left (.int .i64 x) = true) : GotI D (fun z => left z && !z.sameKey (.int .i64 x)) (got ++ [x]) := by
  obtain ⟨h1, h2, h3⟩ := h
  have hx : x ∉ got := fun hx => by have := (h2 x).1 hx; rw [hl] at this; cases this.2
  refine ⟨List.nodup_append.2 ⟨h1, List.nodup_cons.2 ⟨by simp, List.nodup_nil⟩, fun a ha b hb e => by rw [List.mem_singleton.1 hb] at e; rw [e] at ha; exact hx ha⟩, fun z => ?_, fun z hz => ?_⟩
  · rw [List.mem_append, h2 z]
    by_cases hz : z = x
    · subst hz
      have : (Lit.int .i64 z).sameKey (.int .i64 z) = true := by simp [Lit.sameKey]
      simp [this, h3 z hl]
    · have : (Lit.int .i64 z).sameKey (.int .i64 x) = false := by simp [Lit.sameKey]; exact hz
      simp [this, hz]
  · simp only [Bool.and_eq_true] at hz
    exact h3 z hz.1
theorem GotI.done {w : World} {D : DataW Value} {left : Lit → Bool} {got : List Int} {l m : List S76} (h : GotI D left got) (hl : ∀ kl, left kl = false) (hm : MapIs w D (restL l m m.length)) : got.Nodup ∧ ∀ x, x ∈ got ↔ ∃ a ∈ l, a.f0 = x ∧ ∀ b ∈ m, b.f0 ≠ x := by
  refine ⟨h.1, fun x => ?_⟩
  rw [h.2.1 x, hl, hm.has x]
  constructor
  · rintro ⟨⟨n, hn, rfl⟩, _⟩
    have := mem_rest.1 hn
    rw [List.take_length] at this
    exact ⟨n, this.1, rfl, this.2⟩
  · rintro ⟨n, hn, rfl, h2⟩
    exact ⟨⟨n, mem_rest.2 ⟨hn, by rw [List.take_length]; exact h2⟩, rfl⟩, rfl⟩
set_option maxRecDepth 100000 in
set_option maxHeartbeats 8000000 in
theorem touched_yes (na nb : Int) (A B : Option Addr) (l m : List S76) (c d : Nat) (w : World) (hra : Kd.C k76 w A l.length l) (hwa : WfL l) (hrb : Kd.C k76 w B m.length m) (hwb : WfL m) (hk1 : CheckP na l) (hk2 : CheckP nb m) (hl : l.length ≤ 1048576) (hm : m.length ≤ 1048576) :
    Calls Try.prog 25 #[.agg #[.int .i64 na, .slice A l.length c], .agg #[.int .i64 nb, .slice B m.length d]] w (TouchPost 0 (refT l m) w) := by
  have HK1 := hidm hk1
  have HK2 := hidm hk2
  have HLL := hidm hl
  have HML := hidm hm
  have HUL := hidm (up_of_check hk1)
  have HUM := hidm (up_of_check hk2)
  have HRA : Hid (Kd.C k76 w A l.length l) := hra
  have HRB : Hid (Kd.C k76 w B m.length m) := hrb
  have HWA : Hid (WfL l) := hwa
  have HWB : Hid (WfL m) := hwb
  have HBX : Hid (Boxed2 w (.cells #[.int .i64 na, .slice A l.length c] 27) (.cells #[.int .i64 nb, .slice B m.length d] 27) (((w.alloc (.cells #[.int .i64 na, .slice A l.length c] 27)).alloc (.cells #[.int .i64 nb, .slice B m.length d] 27)).alloc (.cells #[.int .i64 na, .slice A l.length c, .int .i64 nb, .slice B m.length d] 27))) := (boxed2 w (.cells #[.int .i64 na, .slice A l.length c] 27) (.cells #[.int .i64 nb, .slice B m.length d] 27)).below (below_alloc (Below.refl _ _) _)
  have K3 : Hid ((((w.alloc (.cells #[.int .i64 na, .slice A l.length c] 27)).alloc (.cells #[.int .i64 nb, .slice B m.length d] 27)).alloc (.cells #[.int .i64 na, .slice A l.length c, .int .i64 nb, .slice B m.length d] 27)).heap[w.heap.size + 2]? = some (.cells #[.int .i64 na, .slice A l.length c, .int .i64 nb, .slice B m.length d] 27 (0, 0))) := by
    have := blk_new ((w.alloc (.cells #[.int .i64 na, .slice A l.length c] 27)).alloc (.cells #[.int .i64 nb, .slice B m.length d] 27)) (.cells #[.int .i64 na, .slice A l.length c, .int .i64 nb, .slice B m.length d] 27)
    have e : ((w.alloc (.cells #[.int .i64 na, .slice A l.length c] 27)).alloc (.cells #[.int .i64 nb, .slice B m.length d] 27)).heap.size = w.heap.size + 2 := by simp
    rw [e] at this
    exact this
  clear hra hrb hwa hwb
  go_enter Try.func25, Try.ntmps25
  go_wp2_with fail
  generalize (((w.alloc (.cells #[.int .i64 na, .slice A l.length c] 27)).alloc (.cells #[.int .i64 nb, .slice B m.length d] 27)).alloc (.cells #[.int .i64 na, .slice A l.length c, .int .i64 nb, .slice B m.length d] 27)) = W at HBX K3 ⊢
  have q0 : W.cell? ⟨w.heap.size + 2, 0, none⟩ = some (.int .i64 na) := blk_cell K3.out 0
  have q1 : W.cell? ⟨w.heap.size + 2, 1, none⟩ = some (.slice A l.length c) := blk_cell K3.out 1
  have HBX4 : Hid (Boxed2 w (.cells #[.int .i64 na, .slice A l.length c] 27) (.cells #[.int .i64 nb, .slice B m.length d] 27) (W.alloc (.cells #[.int .i64 na, .slice A l.length c] 27))) := HBX.out.below (below_alloc (Below.refl _ _) _)
  have K4 := hidm (blk_alloc K3.out (.cells #[.int .i64 na, .slice A l.length c] 27))
  refine wp_loop_rounds 3 ?_
  rw [rounds_succ]
  go_wp2_with fail
  generalize (W.alloc (.cells #[.int .i64 na, .slice A l.length c] 27)) = w4 at HBX4 K4 ⊢
  clear HBX K3 q0 q1
  refine (check_any na l A c w4 (Kd.C_below HRA.out HBX4.out.b) HWA.out).mono ?_
  rintro e w5 ⟨rfl, hb⟩
  rw [errI_yes hk1]
  replace HBX4 := hidm (HBX4.out.below hb)
  replace K4 := hidm (blk_below K4.out hb)
  clear hb
  have q0 : w5.cell? ⟨w.heap.size + 2, 2, none⟩ = some (.int .i64 nb) := blk_cell K4.out 2
  have q1 : w5.cell? ⟨w.heap.size + 2, 3, none⟩ = some (.slice B m.length d) := blk_cell K4.out 3
  have HBX5 : Hid (Boxed2 w (.cells #[.int .i64 na, .slice A l.length c] 27) (.cells #[.int .i64 nb, .slice B m.length d] 27) (w5.alloc (.cells #[.int .i64 nb, .slice B m.length d] 27))) := HBX4.out.below (below_alloc (Below.refl _ _) _)
  have K5 := hidm (blk_alloc K4.out (.cells #[.int .i64 nb, .slice B m.length d] 27))
  go_wp2_with fail
  rw [rounds_succ]
  go_wp2_with fail
  generalize (w5.alloc (.cells #[.int .i64 nb, .slice B m.length d] 27)) = w6 at HBX5 K5 ⊢
  clear HBX4 K4 q0 q1
  have HBX4 := HBX5
  have K4 := K5
  clear HBX5 K5
  refine (check_any nb m B d w6 (Kd.C_below HRB.out HBX4.out.b) HWB.out).mono ?_
  rintro e w7 ⟨rfl, hb⟩
  rw [errI_yes hk2]
  replace HBX4 := hidm (HBX4.out.below hb)
  replace K4 := hidm (blk_below K4.out hb)
  clear hb
  clear hk1 hk2
  have hmm := @run_makeMap Try.prog
  have q0 : (w7.alloc (.map #[] 0)).cell? ⟨w.heap.size, 1, none⟩ = some (.slice A l.length c) := blk_cell (blk_alloc HBX4.out.k1 _) 1
  have HM0 : Hid ((w7.alloc (.map #[] 0)).ownsMap Try.prog 3 RV w7.heap.size 0 (.map [])) := World.ownsMap_made w7 Try.prog 3 RV
  have HB0 : Hid (Boxed2 w (.cells #[.int .i64 na, .slice A l.length c] 27) (.cells #[.int .i64 nb, .slice B m.length d] 27) (w7.alloc (.map #[] 0))) := HBX4.out.below (below_alloc (Below.refl _ _) _)
  have HMB : Hid (w.heap.size + 2 ≤ w7.heap.size) := Nat.le_of_lt (Array.getElem?_eq_some_iff.1 K4.out).1
  go_wp2_with fail
  rw [rounds_succ]
  go_wp2_with fail
  clear hmm q0 HBX4 K4
  generalize (w7.alloc (.map #[] 0)) = w8 at HM0 HB0 ⊢
  generalize w7.heap.size = mb at HM0 HMB ⊢
  go_loopw [36] (fun v W => ∃ (j : Nat) (D : DataW Value), j ≤ l.length ∧ v = .int .i64 j ∧ Hid (MapIs w D (l.take j)) ∧ Hid (W.ownsMap Try.prog 3 RV mb j D) ∧ Hid (Boxed2 w (.cells #[.int .i64 na, .slice A l.length c] 27) (.cells #[.int .i64 nb, .slice B m.length d] 27) W)) (fun v _ => l.length - (intOf v).toNat)
  case atStart => exact ⟨0, .map [], Nat.zero_le _, rfl, hidm (MapIs.nil w), HM0, HB0⟩
  case round =>
    clear HM0 HB0
    obtain ⟨j, D, hjl, rfl, HMI, HOW, HB⟩ := hrel
    by_cases hj : j < l.length
    · obtain ⟨ad, A4, c4, A5, c5, A6, c6, hA, hna⟩ := nodeAt HRA.out j hj
      subst hA
      have HNR := hidm hna.r
      have HNA := hidm (hna.below HB.out.b)
      clear hna
      have hj0 : (0 : Int) ≤ (j : Int) := by omega
      have hj1 : (j : Int) < (l.length : Int) := by omega
      have HN : Hid (j < maxLen) := by have := HLL.out; unfold Hid maxLen; omega
      have HID : Hid (I64 (rd_T76 l j).f0) := id_I64 HK1.out hj
      have x0 : wr.cell? (ad.add (j * 7)) = some (.int .i64 (rd_T76 l j).f0) := HNA.out.y0
      have x1 : wr.cell? ⟨(ad.add (j * 7)).block, (ad.add (j * 7)).off + 1, none⟩ = some (.string (rd_T76 l j).f1) := HNA.out.y1
      have x2 : wr.cell? ⟨(ad.add (j * 7)).block, (ad.add (j * 7)).off + 2, none⟩ = some (.int .i64 (rd_T76 l j).f2) := HNA.out.y2
      have x3 : wr.cell? ⟨(ad.add (j * 7)).block, (ad.add (j * 7)).off + 3, none⟩ = some (.string (rd_T76 l j).f3) := HNA.out.y3
      have x4 : wr.cell? ⟨(ad.add (j * 7)).block, (ad.add (j * 7)).off + 4, none⟩ = some (.slice A4 (rd_T76 l j).f4.length c4) := HNA.out.y4
      have x5 : wr.cell? ⟨(ad.add (j * 7)).block, (ad.add (j * 7)).off + 5, none⟩ = some (.slice A5 (rd_T76 l j).f5.length c5) := HNA.out.y5
      have x6 : wr.cell? ⟨(ad.add (j * 7)).block, (ad.add (j * 7)).off + 6, none⟩ = some (.slice A6 (rd_T76 l j).f6.length c6) := HNA.out.y6
      go_wp2_with (at_mapUpdate; refine wpList_mapUpdate_own _ rfl _ _ _ 87 rfl 3 76 KI Try.underlying87 RV mb j D rfl (HOW.out.alloc _) HN.out _ _ (.int .i64 (rd_T76 l j).f0) rfl rfl (keyI HID.out) (.held (nodeV (rd_T76 l j) A4 c4 A5 c5 A6 c6)) [] rfl ?_
                   intro w9 hown hgrow
                   have HB9 := hidm ((HB.out.below (below_alloc (Below.refl _ _) _)).map hgrow HMB.out)
                   have HO9 := hidm hown
                   clear hown hgrow)
      have HMI9 : Hid (MapIs w (D.put (.int .i64 (rd_T76 l j).f0) (.held (nodeV (rd_T76 l j) A4 c4 A5 c5 A6 c6))) (l.take (j + 1))) := by
        rw [take_rd hj]
        exact HMI.out.put (up_take HUL.out hj) HNR.out
      go_roundw
      case rel => exact ⟨j + 1, _, by omega, by go_num, HMI9, HO9, HB9⟩
      case measure => simp [intOf]; omega
    · have hje : j = l.length := by omega
      subst hje
      have hj1 : ¬ (l.length : Int) < (l.length : Int) := by omega
      have HMS : Hid (MapIs w D (restL l m 0)) := MapIs.start HMI.out
      have q1 : wr.cell? ⟨w.heap.size + 1, 1, none⟩ = some (.slice B m.length d) := blk_cell HB.out.k2 1
      have HOW0 := HOW
      have HB0 := HB
      clear HMI HOW HB hjl
      go_wp2_with fail
      clear q1
      obtain ⟨wo, rfl⟩ : ∃ wo : World, wo = wr := ⟨_, rfl⟩
      clear hj hj1
      go_loopw [12, 48] (fun u v W => ∃ (k : Nat) (D : DataW Value), k ≤ m.length ∧ v = .int .i64 k ∧ Hid (MapIs w D (restL l m k)) ∧ Hid (W.ownsMap Try.prog 3 RV mb l.length D) ∧ Hid (Boxed2 w (.cells #[.int .i64 na, .slice A l.length c] 27) (.cells #[.int .i64 nb, .slice B m.length d] 27) W) ∧ Hid ((Kd.int .i64).R 3 W w.heap.size (fun _ => True) u (outB l (m.take k))) ∧ Hid ((outB l (m.take k)).length ≤ k)) (fun _ v _ => m.length - (intOf v).toNat)
      case atStart => exact ⟨0, D, Nat.zero_le _, rfl, HMS, HOW0, HB0, hidm (by rw [List.take_zero]; exact Kd.R_nil _ _ _ _ _), hidm (by rw [List.take_zero]; exact Nat.le_refl _)⟩
      case round =>
        clear HMS HOW0 HB0
        clear D
        obtain ⟨k, D, hkl, rfl, HMI, HOW, HBX, HO, HLN⟩ := hrel
        by_cases hk : k < m.length
        · obtain ⟨bd, B4, d4, B5, d5, B6, d6, hB, hnb⟩ := nodeAt HRB.out k hk
          subst hB
          have HNR := hidm hnb.r
          have HNB := hidm (hnb.below HBX.out.b)
          clear hnb
          have hk0 : (0 : Int) ≤ (k : Int) := by omega
          have hk1 : (k : Int) < (m.length : Int) := by omega
          have HID : Hid (I64 (rd_T76 m k).f0) := id_I64 HK2.out hk
          have x0 : wr.cell? (bd.add (k * 7)) = some (.int .i64 (rd_T76 m k).f0) := HNB.out.y0
          have x1 : wr.cell? ⟨(bd.add (k * 7)).block, (bd.add (k * 7)).off + 1, none⟩ = some (.string (rd_T76 m k).f1) := HNB.out.y1
          have x2 : wr.cell? ⟨(bd.add (k * 7)).block, (bd.add (k * 7)).off + 2, none⟩ = some (.int .i64 (rd_T76 m k).f2) := HNB.out.y2
          have x3 : wr.cell? ⟨(bd.add (k * 7)).block, (bd.add (k * 7)).off + 3, none⟩ = some (.string (rd_T76 m k).f3) := HNB.out.y3
          have x4 : wr.cell? ⟨(bd.add (k * 7)).block, (bd.add (k * 7)).off + 4, none⟩ = some (.slice B4 (rd_T76 m k).f4.length d4) := HNB.out.y4
          have x5 : wr.cell? ⟨(bd.add (k * 7)).block, (bd.add (k * 7)).off + 5, none⟩ = some (.slice B5 (rd_T76 m k).f5.length d5) := HNB.out.y5
          have x6 : wr.cell? ⟨(bd.add (k * 7)).block, (bd.add (k * 7)).off + 6, none⟩ = some (.slice B6 (rd_T76 m k).f6.length d6) := HNB.out.y6
          have HNEXT : Hid (MapIs w (D.del (.int .i64 (rd_T76 m k).f0)) (restL l m (k + 1))) := HMI.out.gone hk
          have HLE : Hid ((outB l (m.take (k + 1))).length ≤ k + 1) := by
            rw [outB_take hk, List.length_append]
            have h1 := HLN.out
            have h2 : (if tv ((rd_T76 m k) ∈ l) = true then ([] : List Int) else [(rd_T76 m k).f0]).length ≤ 1 := by split <;> simp
            exact hidm (by omega)
          by_cases hx : ∃ n ∈ restL l m k, n.f0 = (rd_T76 m k).f0
          · obtain ⟨n, hn, hne⟩ := hx
            obtain ⟨C4, e4, C5, e5, C6, e6, hnr, hat⟩ := HMI.out.at_ n hn
            have HNN := hidm hnr
            have HNE := hidm hne
            have HNM : Hid (n ∈ l) := (mem_rest.1 hn).1
            have HAT : Hid (∀ zd, D.atKey (.int .i64 (rd_T76 m k).f0) zd = .held (nodeV n C4 e4 C5 e5 C6 e6)) := by rw [← hne]; exact hidm hat
            have HHAS : Hid (Maps.has D (.int .i64 (rd_T76 m k).f0) = true) := (HMI.out.has _).2 ⟨n, hn, hne⟩
            clear hn hne hnr hat
            go_wp2_with (first
              | (at_lookup; refine lookup_yes _ rfl _ _ rfl (zero76 _) mb l.length D rfl (HOW.out.alloc _) (rd_T76 m k).f0 rfl HID.out HHAS.out HAT.out ?_)
              | (at_delete; refine wpList_delete_own _ rfl _ _ 87 3 rfl 76 KI Try.underlying87 RV mb l.length D rfl ((HOW.out.alloc _).alloc _) _ (.int .i64 (rd_T76 m k).f0) rfl (keyI HID.out) ?_
                 intro w9 hown hturn
                 have HG := hidm hturn.grown
                 have HOW9 := hidm hown
                 have HSZ : Hid (wr.heap.size < ((wr.alloc (.cells (nodeCs (rd_T76 m k) B4 d4 B5 d5 B6 d6) 76)).alloc (.cells (nodeCs n C4 e4 C5 e5 C6 e6) 76)).heap.size ∧ wr.heap.size + 1 < ((wr.alloc (.cells (nodeCs (rd_T76 m k) B4 d4 B5 d5 B6 d6) 76)).alloc (.cells (nodeCs n C4 e4 C5 e5 C6 e6) 76)).heap.size) := size2 wr _ _
                 have HBX9 := hidm ((HBX.out.below (below_alloc (below_alloc (Below.refl _ _) _) _)).map HG.out HMB.out)
                 have HO9 := hidm (int_R_map (Kd.R_below HO.out (below_alloc (below_alloc (Below.refl _ _) _) _)) ((HOW.out.alloc _).alloc _) HG.out)
                 have K14 : Hid (w9.heap[wr.heap.size]? = some (.cells (nodeCs (rd_T76 m k) B4 d4 B5 d5 B6 d6) 76 (0, 0))) := (HG.out.block _ HSZ.out.1 (fun e => by injection e with e; have := HOW.out.lt; omega)).trans (blk_alloc (blk_new wr (.cells (nodeCs (rd_T76 m k) B4 d4 B5 d5 B6 d6) 76)) (.cells (nodeCs n C4 e4 C5 e5 C6 e6) 76))
                 have K15 : Hid (w9.heap[wr.heap.size + 1]? = some (.cells (nodeCs n C4 e4 C5 e5 C6 e6) 76 (0, 0))) := (HG.out.block _ HSZ.out.2 (fun e => by injection e with e; have := HOW.out.lt; omega)).trans (blk_new2 wr _ _)
                 have p0 : w9.cell? ⟨wr.heap.size, 0, none⟩ = some (.int .i64 (rd_T76 m k).f0) := blk_cell K14.out 0
                 have p1 : w9.cell? ⟨wr.heap.size, 1, none⟩ = some (.string (rd_T76 m k).f1) := blk_cell K14.out 1
                 have p2 : w9.cell? ⟨wr.heap.size, 2, none⟩ = some (.int .i64 (rd_T76 m k).f2) := blk_cell K14.out 2
                 have p3 : w9.cell? ⟨wr.heap.size, 3, none⟩ = some (.string (rd_T76 m k).f3) := blk_cell K14.out 3
                 have p4 : w9.cell? ⟨wr.heap.size, 4, none⟩ = some (.slice B4 (rd_T76 m k).f4.length d4) := blk_cell K14.out 4
                 have p5 : w9.cell? ⟨wr.heap.size, 5, none⟩ = some (.slice B5 (rd_T76 m k).f5.length d5) := blk_cell K14.out 5
                 have p6 : w9.cell? ⟨wr.heap.size, 6, none⟩ = some (.slice B6 (rd_T76 m k).f6.length d6) := blk_cell K14.out 6
                 have r0 : w9.cell? ⟨wr.heap.size + 1, 0, none⟩ = some (.int .i64 n.f0) := blk_cell K15.out 0
                 have r1 : w9.cell? ⟨wr.heap.size + 1, 1, none⟩ = some (.string n.f1) := blk_cell K15.out 1
                 have r2 : w9.cell? ⟨wr.heap.size + 1, 2, none⟩ = some (.int .i64 n.f2) := blk_cell K15.out 2
                 have r3 : w9.cell? ⟨wr.heap.size + 1, 3, none⟩ = some (.string n.f3) := blk_cell K15.out 3
                 have r4 : w9.cell? ⟨wr.heap.size + 1, 4, none⟩ = some (.slice C4 n.f4.length e4) := blk_cell K15.out 4
                 have r5 : w9.cell? ⟨wr.heap.size + 1, 5, none⟩ = some (.slice C5 n.f5.length e5) := blk_cell K15.out 5
                 have r6 : w9.cell? ⟨wr.heap.size + 1, 6, none⟩ = some (.slice C6 n.f6.length e6) := blk_cell K15.out 6
                 clear hown hturn))
            refine (histNode_any n (rd_T76 m k) HNE.out C4 C5 C6 B4 B5 B6 e4 e5 e6 d4 d5 d6 w9 (HNN.out.below HBX9.out.b) (HNR.out.below HBX9.out.b)).mono ?_
            rintro e w10 ⟨rfl, hb10⟩
            replace HOW9 := hidm (HOW9.out.kept ⟨hb10.os, hb10.tape, hb10.output, hb10.size, fun k hk _ => hb10.block k hk⟩ (row := none) (by simp))
            replace HBX9 := hidm (HBX9.out.below hb10)
            replace HO9 := hidm (Kd.R_below HO9.out hb10)
            replace K14 := hidm (blk_below K14.out hb10)
            clear hb10 p0 p1 p2 p3 p4 p5 p6 r0 r1 r2 r3 r4 r5 r6
            have p0 : w10.cell? ⟨wr.heap.size, 0, none⟩ = some (.int .i64 (rd_T76 m k).f0) := blk_cell K14.out 0
            by_cases hs : n = (rd_T76 m k)
            · have HNO : Hid (tv ((rd_T76 m k) ∈ l) = true) := tv_yes (by rw [← hs]; exact HNM.out)
              rw [tv_yes hs]
              clear hs
              go_wp2_with fail
              go_roundw
              case rel => exact ⟨k + 1, _, by omega, by go_num, HNEXT, HOW9, HBX9, hidm (by rw [outB_take hk, HNO.out, if_pos rfl, List.append_nil]; exact HO9.out), HLE⟩
              case measure => simp [intOf]; omega
            · have HNO : Hid ((if tv ((rd_T76 m k) ∈ l) = true then ([] : List Int) else [(rd_T76 m k).f0]) = [(rd_T76 m k).f0]) := by
                rw [tv_no (fun h => hs (HUL.out.inj HNM.out h HNE.out))]
                exact hidm rfl
              rw [tv_no hs]
              clear hs
              go_wp2_with (at_builtin; refine Kd.R_append (Kd.int .i64) (w0 := w) w.heap.size rfl (.tmp 70) (.tmp 73) 54 3 (.int .i64 0) 8 rfl Try.underlying54 info3 rfl (by decide) (by decide) u12 (outB l (m.take k)) (rd_T76 m k).f0 [.int .i64 (rd_T76 m k).f0] (fun _ => True) (fun _ => False) rfl rfl rfl (fun _ h => h.elim) (fun _ _ => trivial) HO9.out HBX9.out.b HBX9.out.b.size (by have := HLN.out; have := HML.out; omega) ?_
                           intro v2 w11 hN hB hg hat
                           have HB11 := hidm (HBX9.out.grown hg hB (Kd.R_ne HO9.out HBX9.out.k1 (by decide)) (Kd.R_ne HO9.out HBX9.out.k2 (by decide)))
                           have HOW11 := hidm (HOW9.out.kept hg (map_apart HO9.out HOW9.out))
                           have HO11 := hidm hN
                           clear hN hB hg hat)
              go_roundw
              case rel => exact ⟨k + 1, _, by omega, by go_num, HNEXT, HOW11, HB11, hidm (by rw [outB_take hk, HNO.out]; exact HO11.out), HLE⟩
              case measure => simp [intOf]; omega
          · have HNO : Hid ((if tv ((rd_T76 m k) ∈ l) = true then ([] : List Int) else [(rd_T76 m k).f0]) = [(rd_T76 m k).f0]) := by
              rw [tv_no (fun h => hx ⟨(rd_T76 m k), mem_rest.2 ⟨h, up_take HUM.out hk⟩, rfl⟩)]
              exact hidm rfl
            have HHAS : Hid (Maps.has D (.int .i64 (rd_T76 m k).f0) = false) := by
              cases hh : Maps.has D (.int .i64 (rd_T76 m k).f0) with
              | false => exact hidm rfl
              | true => exact absurd ((HMI.out.has _).1 hh) hx
            clear hx
            go_wp2_with (first
              | (at_lookup; refine lookup_no _ rfl _ _ rfl (zero76 _) mb l.length D rfl (HOW.out.alloc _) (rd_T76 m k).f0 rfl HID.out HHAS.out ?_)
              | (at_delete; refine wpList_delete_own _ rfl _ _ 87 3 rfl 76 KI Try.underlying87 RV mb l.length D rfl ((HOW.out.alloc _).alloc _) _ (.int .i64 (rd_T76 m k).f0) rfl (keyI HID.out) ?_
                 intro w9 hown hturn
                 have HG := hidm hturn.grown
                 have HOW9 := hidm hown
                 have HSZ : Hid (wr.heap.size < ((wr.alloc (.cells (nodeCs (rd_T76 m k) B4 d4 B5 d5 B6 d6) 76)).alloc (.cells #[.int .i64 0, .string ⟨#[]⟩, .int .i64 0, .string ⟨#[]⟩, .slice none 0 0, .slice none 0 0, .slice none 0 0] 76)).heap.size ∧ wr.heap.size + 1 < ((wr.alloc (.cells (nodeCs (rd_T76 m k) B4 d4 B5 d5 B6 d6) 76)).alloc (.cells #[.int .i64 0, .string ⟨#[]⟩, .int .i64 0, .string ⟨#[]⟩, .slice none 0 0, .slice none 0 0, .slice none 0 0] 76)).heap.size) := size2 wr _ _
                 have HBX9 := hidm ((HBX.out.below (below_alloc (below_alloc (Below.refl _ _) _) _)).map HG.out HMB.out)
                 have HO9 := hidm (int_R_map (Kd.R_below HO.out (below_alloc (below_alloc (Below.refl _ _) _) _)) ((HOW.out.alloc _).alloc _) HG.out)
                 have K14 : Hid (w9.heap[wr.heap.size]? = some (.cells (nodeCs (rd_T76 m k) B4 d4 B5 d5 B6 d6) 76 (0, 0))) := (HG.out.block _ HSZ.out.1 (fun e => by injection e with e; have := HOW.out.lt; omega)).trans (blk_alloc (blk_new wr (.cells (nodeCs (rd_T76 m k) B4 d4 B5 d5 B6 d6) 76)) (.cells #[.int .i64 0, .string ⟨#[]⟩, .int .i64 0, .string ⟨#[]⟩, .slice none 0 0, .slice none 0 0, .slice none 0 0] 76))
                 have p0 : w9.cell? ⟨wr.heap.size, 0, none⟩ = some (.int .i64 (rd_T76 m k).f0) := blk_cell K14.out 0
                 clear hown hturn)
              | (at_builtin; refine Kd.R_append (Kd.int .i64) (w0 := w) w.heap.size rfl (.tmp 70) (.tmp 73) 54 3 (.int .i64 0) 8 rfl Try.underlying54 info3 rfl (by decide) (by decide) u12 (outB l (m.take k)) (rd_T76 m k).f0 [.int .i64 (rd_T76 m k).f0] (fun _ => True) (fun _ => False) rfl rfl rfl (fun _ h => h.elim) (fun _ _ => trivial) HO9.out HBX9.out.b HBX9.out.b.size (by have := HLN.out; have := HML.out; omega) ?_
                 intro v2 w11 hN hB hg hat
                 have HB11 := hidm (HBX9.out.grown hg hB (Kd.R_ne HO9.out HBX9.out.k1 (by decide)) (Kd.R_ne HO9.out HBX9.out.k2 (by decide)))
                 have HOW11 := hidm (HOW9.out.kept hg (map_apart HO9.out HOW9.out))
                 have HO11 := hidm hN
                 clear hN hB hg hat))
            go_roundw
            case rel => exact ⟨k + 1, _, by omega, by go_num, HNEXT, HOW11, HB11, hidm (by rw [outB_take hk, HNO.out]; exact HO11.out), HLE⟩
            case measure => simp [intOf]; omega
        · have hke : k = m.length := by omega
          subst hke
          have hk1 : ¬ (m.length : Int) < (m.length : Int) := by omega
          rw [List.take_length] at HO HLN
          go_wp2_with (at_range; refine wpList_range_own _ rfl _ 87 rfl 3 76 KI Try.underlying87 RV mb l.length D rfl HOW.out ?_
                       intro w9 hrg hg hs
                       have HRG := hidm hrg
                       have HO9 := hidm (int_R_kept HO.out (fun k hk => hg.block k (own_lt_R HO.out k hk) (by simp)))
                       have HB9 : Hid (Below w.heap.size w w9) := Below.grown HBX.out.b hg HBX.out.b.size (fun k e => by cases e)
                       have HSZ : Hid (Maps.size D ≤ l.length) := HOW.out.size_le
                       have HRB9 : Hid (w.heap.size ≤ wr.heap.size) := HBX.out.b.size
                       clear hrg hg hs)
          try go_frame
          clear HOW HBX HO hk1 hkl hk
          obtain ⟨r, hr⟩ : ∃ r, wr.heap.size = r := ⟨_, rfl⟩
          rw [hr] at HRG HRB9 ⊢
          clear hr
          go_loopw [12] (fun u W => ∃ (left : Lit → Bool) (cnt : Nat) (got : List Int), Hid (W.ranges Try.prog 3 RV mb r l.length D left cnt) ∧ Hid (got.length + cnt ≤ l.length) ∧ Hid (GotI D left got) ∧ Hid (Below w.heap.size w W) ∧ Hid ((Kd.int .i64).R 3 W w.heap.size (fun _ => True) u (outB l m ++ got))) (fun _ W => W.rangeLeft mb r)
          case atStart => exact ⟨Maps.has D, Maps.size D, [], HRG, hidm (by have := HSZ.out; simpa using this), hidm (GotI.start D), HB9, hidm (by rw [List.append_nil]; exact HO9.out)⟩
          case round =>
            clear HRG HB9 HO9
            obtain ⟨left, cnt, got, HRG, HCN, HGOT, HB, HO⟩ := hrel
            have HRL : Hid (wr.rangeLeft mb r = cnt) := HRG.out.left_eq
            have HLEN : Hid ((outB l m ++ got).length ≤ m.length + l.length) := by
              have h1 := HLN.out
              have h2 := HCN.out
              unfold Hid
              rw [List.length_append]
              omega
            go_wp2_with (at_next; refine wpList_next_ranges _ rfl _ rfl 3 KI RV (Value.int .i64) (fun v : Value => v) (fun key kl hkey => by obtain ⟨x, rfl, _⟩ := Maps.keyOf_int_inv Try.underlying3 hkey; exact ⟨x, rfl⟩) (fun v y _ => ⟨v, rfl⟩) mb r l.length D left cnt rfl HRG.out ?_ ?_)
            · intro hc0 hl0
              have HD := hidm (HGOT.out.done hl0 HMI.out)
              have HLAW : Hid ((outB l m ++ got).mergeSort leI = refT l m) := touched_law HUL.out HUM.out HD.out.1 HD.out.2
              clear hc0 hl0 HD
              go_wp2_with fail
              refine (sort_any u12 (outB l m ++ got) w.heap.size _ wr HO.out (by have := HLEN.out; have := HML.out; have := HLL.out; omega)).mono ?_
              rintro e w12 ⟨rfl, hs, hg⟩
              rw [HLAW.out] at hs
              have HP : Hid (TouchPost 0 (refT l m) w (.returned (.tuple #[u12, .int .i64 0])) w12) := ⟨_, rfl, hs, Below.grown HB.out hg HB.out.size (fun k hk => own_base (inner_ints HO.out) k hk)⟩
              clear hs hg
              go_wp2_with fail
              simp [bodyPost, results, Try.results25, go_sem]
              exact HP.out
            · intro x cval kl yd yp w9 cnt2 hkey hlk hv hat hrg hlt hg hs hen
              obtain ⟨x', ex, rfl, _⟩ := Maps.keyOf_int_inv Try.underlying3 hkey
              cases ex
              have HRG9 := hidm hrg
              have HGOT9 := hidm (HGOT.out.step hlk)
              have HO9 := hidm (int_R_kept HO.out (fun k hk => hg.block k (own_lt_R HO.out k hk) (fun e => iter_apart HO.out HRG.out (e.symm.trans hk.symm))))
              have HB9 : Hid (Below w.heap.size w w9) := Below.grown HB.out hg HB.out.size (fun k e => by injection e with e; have := HRB9.out; omega)
              have HLT := hidm hlt
              clear hkey hlk hv hat hrg hlt hg hs
              go_wp2_with (at_builtin; refine Kd.R_append (Kd.int .i64) (w0 := w) w.heap.size rfl (.tmp 82) (.tmp 84) 54 3 (.int .i64 0) 8 rfl Try.underlying54 info3 rfl (by decide) (by decide) u12 (outB l m ++ got) x [.int .i64 x] (fun _ => True) (fun _ => False) rfl rfl rfl (fun _ h => h.elim) (fun _ _ => trivial) HO9.out HB9.out HB9.out.size (by have := HLEN.out; have := HML.out; have := HLL.out; omega) ?_
                           intro v2 w11 hN hB hg hat
                           have HRG11 := hidm (HRG9.out.kept hg (map_apart HO9.out HRG9.out.owns) (iter_apart HO9.out HRG9.out))
                           have HB11 := hidm hB
                           have HO11 := hidm hN
                           clear hN hB hg hat hen)
              go_roundw
              case rel => exact ⟨_, cnt2, got ++ [x], HRG11, hidm (by have h1 := HLT.out; have h2 := HCN.out; rw [List.length_append]; simp; omega), HGOT9, HB11, hidm (by rw [← List.append_assoc]; exact HO11.out)⟩
              case measure => rw [HRG11.out.left_eq, HRL.out]; exact HLT.out
end Go.Proofs.Ytlopfkkegjajlaa
namespace Go.Proofs.Ytlopfkkegjajlaa
open Go
def WW (S : Nat → Prop) (w : World) := {W : World // Wr S w W}
instance (S : Nat → Prop) (w : World) : Nonempty (WW S w) := ⟨⟨w, Wr.refl _ _⟩⟩
theorem ww_cell {S : Nat → Prop} {w : World} {a : Addr} {v : Value} (h : w.cell? a = some v) (hS : ¬ S a.block) (x : WW S w) : x.1.cell? a = some v := by
  have hb := x.2.block _ (World.block_lt_of_cell? w a h) hS
  rw [← h]
  unfold World.cell?
  rw [hb]
end Go.Proofs.Ytlopfkkegjajlaa
namespace Go.Proofs.Ytlopfkkegjajlaa
open Go.RowKit Go.Proofs.YtlopfkkegjajlaaW.PrintWords PHistoryTouched
def pairL (k : Int) : List S76 := [⟨1, ⟨#[65]⟩, 0, ⟨#[]⟩, [], [k], []⟩, ⟨k, ⟨#[65]⟩, 1, ⟨#[114]⟩, [], [], []⟩]
theorem pair_small (k : Int) : SmallL (pairL k) := by
  refine ⟨by simp [pairL], fun j hj => ?_, fun j hj => ?_, fun j hj => ?_⟩ <;> (match j, hj with | 0, _ => simp [pairL, rd_T76] | 1, _ => simp [pairL, rd_T76])
theorem pair_wf {k : Int} (h : I64 k) : WfL (pairL k) := fun i hi => by
  match i, hi with
  | 0, _ =>
    refine ⟨⟨by simp [pairL, rd_T76], by simp [pairL, rd_T76]⟩, fun j hj => ?_⟩
    match j, hj with
    | 0, _ => exact h
  | 1, _ => exact ⟨⟨by simp [pairL, rd_T76], by simp [pairL, rd_T76]⟩, fun j hj => absurd hj (Nat.not_lt_zero _)⟩
theorem word_A : wordB ⟨#[65]⟩ = true := by kernel_rfl
theorem word_r : wordB ⟨#[114]⟩ = true := by kernel_rfl
theorem pair_check {k : Int} (h2 : 2 ≤ k) (h3 : k ≤ 3) : CheckP 4 (pairL k) := by
  refine ⟨by omega, by omega, by simp [pairL], fun i hi => ?_, fun i hi => ?_, ⟨fun i hi => ?_, fun i hi he => ?_, fun i hi he => ?_, fun i hi => ?_⟩⟩
  · match i, hi with
    | 0, _ => exact ⟨show (0 : Int) < 1 by omega, show (1 : Int) < 4 by omega⟩
    | 1, _ => exact ⟨show (1 : Int) < k by omega, show k < 4 by omega⟩
  · match i, hi with
    | 0, _ => exact ⟨word_A, by simp [pairL, rd_T76], fun h => absurd (by simp [pairL, rd_T76]) h, by simp [pairL, rd_T76], fun j hj => absurd hj (Nat.not_lt_zero _), fun j hj => absurd hj (Nat.not_lt_zero _)⟩
    | 1, _ => exact ⟨word_A, ⟨fun h => absurd h (by simp [pairL, rd_T76]), fun h => absurd h (by simp [pairL, rd_T76])⟩, fun _ => word_r, by simp [pairL, rd_T76], fun j hj => absurd hj (Nat.not_lt_zero _), fun j hj => absurd hj (Nat.not_lt_zero _)⟩
  · match i, hi with
    | 0, _ =>
      intro j hj
      have hj1 : j < 1 := hj
      have hj0 : j = 0 := by omega
      subst hj0
      exact ⟨1, by simp [pairL], rfl, rfl⟩
    | 1, _ => exact fun j hj => absurd hj (Nat.not_lt_zero _)
  · match i, hi with
    | 0, _ =>
      show ([k] ++ ([] ++ [])).count 1 = 0
      exact List.count_eq_zero.2 (by simp; omega)
    | 1, _ => exact absurd he (by simp [pairL, rd_T76])
  · match i, hi with
    | 0, _ => exact absurd rfl he
    | 1, _ =>
      show ([k] ++ ([] ++ [])).count k = 1
      simp
  · match i, hi with
    | 0, _ => exact .inl rfl
    | 1, _ => exact .inr ⟨0, by simp [pairL], rfl, .inl rfl⟩
def allocs (w : World) : List Obj → World
  | [] => w
  | o :: os => allocs (w.alloc o) os
theorem allocs_below : ∀ (os : List Obj) (w0 w : World), Below w0.heap.size w0 w → Below w0.heap.size w0 (allocs w os)
  | [], _, _, h => h
  | o :: os, w0, w, h => allocs_below os w0 (w.alloc o) (below_alloc h o)
theorem allocs_at : ∀ (os : List Obj) (w : World) (k : Nat) (o : Obj), os[k]? = some o → (allocs w os).heap[w.heap.size + k]? = some o
  | [], _, _, _, h => by simp at h
  | p :: os, w, 0, o, h => by
    obtain rfl : p = o := Option.some.inj h
    have h1 : (w.alloc p).heap[w.heap.size]? = some p := blk_new _ _
    have h2 := (allocs_below os (w.alloc p) (w.alloc p) (Below.refl _ _)).block w.heap.size (by simp)
    exact h2.trans h1
  | p :: os, w, k + 1, o, h => by
    have h1 := allocs_at os (w.alloc p) k o (by simpa using h)
    have e : (w.alloc p).heap.size + k = w.heap.size + (k + 1) := by simp; omega
    rw [e] at h1
    exact h1
abbrev pairO (k : Int) (g : Nat) : Obj := .cells #[.int .i64 1, .string ⟨#[65]⟩, .int .i64 0, .string ⟨#[]⟩, .slice none 0 0, .slice (some ⟨g, 0, none⟩) 1 1, .slice none 0 0, .int .i64 k, .string ⟨#[65]⟩, .int .i64 1, .string ⟨#[114]⟩, .slice none 0 0, .slice none 0 0, .slice none 0 0] 76
theorem nil_C {α : Type} (d : Kd α) (w : World) : Kd.C d w none 0 [] := Kd.F_now (Kd.F_nil d w (fun _ => False))
theorem pair_C {W : World} {k : Int} {g g5 : Nat} (hk : W.heap[g]? = some (pairO k g5)) (h5 : W.heap[g5]? = some (.cells #[.int .i64 k] 3 (0, 0))) : Kd.C k76 W (some ⟨g, 0, none⟩) 2 (pairL k) := by
  refine ⟨rfl, by omega, fun _ => ⟨_, rfl, fun j p hj => ?_⟩⟩
  match j, hj with
  | 0, hj =>
    obtain rfl := Option.some.inj hj
    have hkid : Kd.C (Kd.int .i64) W (some ⟨g5, 0, none⟩) 1 [k] := ⟨rfl, by omega, fun _ => ⟨_, rfl, fun j p hj => by
      match j, hj with
      | 0, hj =>
        obtain rfl := Option.some.inj hj
        refine ⟨[.int .i64 k], rfl, rfl, fun i u hu => ?_⟩
        match i, hu with
        | 0, hu => obtain rfl := Option.some.inj hu; rw [add_plain]; exact blk_cell h5 0⟩⟩
    refine ⟨_, rfl, k76_mk W ⟨1, ⟨#[65]⟩, 0, ⟨#[]⟩, [], [k], []⟩ (c4 := 0) (Nat.le_refl _) (nil_C _ W) (c5 := 1) (Nat.le_refl _) hkid (c6 := 0) (Nat.le_refl _) (nil_C _ W), fun i u hu => ?_⟩
    rw [add_plain, Nat.zero_mul, Nat.zero_add, blk_cell hk]
    match i, hu with
    | 0, hu => exact hu
    | 1, hu => exact hu
    | 2, hu => exact hu
    | 3, hu => exact hu
    | 4, hu => exact hu
    | 5, hu => exact hu
    | 6, hu => exact hu
  | 1, hj =>
    obtain rfl := Option.some.inj hj
    refine ⟨_, rfl, k76_mk W ⟨k, ⟨#[65]⟩, 1, ⟨#[114]⟩, [], [], []⟩ (c4 := 0) (Nat.le_refl _) (nil_C _ W) (c5 := 0) (Nat.le_refl _) (nil_C _ W) (c6 := 0) (Nat.le_refl _) (nil_C _ W), fun i u hu => ?_⟩
    rw [add_plain, blk_cell hk]
    match i, hu with
    | 0, hu => exact hu
    | 1, hu => exact hu
    | 2, hu => exact hu
    | 3, hu => exact hu
    | 4, hu => exact hu
    | 5, hu => exact hu
    | 6, hu => exact hu
def TwoPost (w : World) (e : Ending) (w' : World) : Prop :=
  ∃ g1 g2, e = .returned (.tuple #[.agg #[.int .i64 4, .slice (some ⟨g1, 0, none⟩) 2 2], .agg #[.int .i64 4, .slice (some ⟨g2, 0, none⟩) 2 2]]) ∧ Kd.C k76 w' (some ⟨g1, 0, none⟩) 2 (pairL 2) ∧ Kd.C k76 w' (some ⟨g2, 0, none⟩) 2 (pairL 3) ∧ Below w.heap.size w w'
abbrev Z27 : Obj := .cells #[.int .i64 0, .slice none 0 0] 27
def twoOs (s : Nat) : List Obj := [Z27, Z27, .cells #[.int .i64 2] 3, pairO 2 (s + 1 + 1), .cells #[.int .i64 4, .slice (some ⟨s + 1 + 1 + 1, 0, none⟩) 2 2] 27, .cells #[.int .i64 3] 3, pairO 3 (s + 1 + 1 + 1 + 1 + 1), .cells #[.int .i64 4, .slice (some ⟨s + 1 + 1 + 1 + 1 + 1 + 1, 0, none⟩) 2 2] 27]
theorem twoF_done {w W : World} (hW : Wr (fun k => k = w.heap.size ∨ k = w.heap.size + 1) (allocs w (twoOs w.heap.size)) W) :
    TwoPost w (.returned (.tuple #[.agg #[.int .i64 4, .slice (some ⟨w.heap.size + 1 + 1 + 1, 0, none⟩) 2 2], .agg #[.int .i64 4, .slice (some ⟨w.heap.size + 1 + 1 + 1 + 1 + 1 + 1, 0, none⟩) 2 2]]))
      ((((W.setCell ⟨w.heap.size, 0, none⟩ (.int .i64 4)).setCell ⟨w.heap.size, 1, none⟩ (.slice (some ⟨w.heap.size + 1 + 1 + 1, 0, none⟩) 2 2)).setCell ⟨w.heap.size + 1, 0, none⟩ (.int .i64 4)).setCell ⟨w.heap.size + 1, 1, none⟩ (.slice (some ⟨w.heap.size + 1 + 1 + 1 + 1 + 1 + 1, 0, none⟩) 2 2)) := by
  have hat := fun k o h => allocs_at (twoOs w.heap.size) w k o h
  have hk : ∀ k o, 2 ≤ k → (twoOs w.heap.size)[k]? = some o → ((((W.setCell ⟨w.heap.size, 0, none⟩ (.int .i64 4)).setCell ⟨w.heap.size, 1, none⟩ (.slice (some ⟨w.heap.size + 1 + 1 + 1, 0, none⟩) 2 2)).setCell ⟨w.heap.size + 1, 0, none⟩ (.int .i64 4)).setCell ⟨w.heap.size + 1, 1, none⟩ (.slice (some ⟨w.heap.size + 1 + 1 + 1 + 1 + 1 + 1, 0, none⟩) 2 2)).heap[w.heap.size + k]? = some o := fun k o h2 h => by
    rw [Below.heap_setCell _ _ _ _ (by show w.heap.size + k ≠ w.heap.size + 1; omega), Below.heap_setCell _ _ _ _ (by show w.heap.size + k ≠ w.heap.size + 1; omega), Below.heap_setCell _ _ _ _ (by show w.heap.size + k ≠ w.heap.size; omega), Below.heap_setCell _ _ _ _ (by show w.heap.size + k ≠ w.heap.size; omega)]
    exact (hW.block _ (Array.getElem?_eq_some_iff.1 (hat k o h)).1 (by omega)).trans (hat k o h)
  refine ⟨_, _, rfl, pair_C (hk 3 _ (by omega) rfl) (hk 2 _ (by omega) rfl), pair_C (hk 6 _ (by omega) rfl) (hk 5 _ (by omega) rfl), ?_⟩
  have hb : Below w.heap.size w W := ((Wr.of_below (S := fun k => k = w.heap.size ∨ k = w.heap.size + 1) (allocs_below (twoOs w.heap.size) w w (Below.refl _ _))).trans hW (fun _ _ h => h)).below (Nat.le_refl _) (fun k h => by omega)
  exact (((hb.setCell (Nat.le_refl _) _).setCell (Nat.le_refl _) _).setCell (Nat.le_succ _) _).setCell (Nat.le_succ _) _
def TC (s : Nat) (w : World) := {W : World // Wr (fun k => k = s ∨ k = s + 1) w W ∧ ((w.heap[s]? = some Z27 ∧ w.heap[s + 1]? = some Z27) → ∃ u0 u1 v0 v1, W.heap[s]? = some (.cells #[u0, u1] 27 (0, 0)) ∧ W.heap[s + 1]? = some (.cells #[v0, v1] 27 (0, 0)))}
instance (s : Nat) (w : World) : Nonempty (TC s w) := ⟨⟨w, Wr.refl _ _, fun h => ⟨_, _, _, _, h.1, h.2⟩⟩⟩
theorem tc_cell {s : Nat} {w : World} {a : Addr} {v : Value} (h : w.cell? a = some v) (hS : ¬ (a.block = s ∨ a.block = s + 1)) (x : TC s w) : x.1.cell? a = some v := ww_cell (S := fun k => k = s ∨ k = s + 1) h hS ⟨x.1, x.2.1⟩
set_option maxRecDepth 100000 in
set_option maxHeartbeats 4000000 in
theorem two_any (w : World) : Calls Try.prog 45 #[] w (TwoPost w) := by
  have HD := hidm (fun W => twoF_done (w := w) (W := W))
  have HAT : Hid (∀ k o, (twoOs w.heap.size)[k]? = some o → (allocs w (twoOs w.heap.size)).heap[w.heap.size + k]? = some o) := fun k o h => allocs_at (twoOs w.heap.size) w k o h
  have HE : Hid (allocs w (twoOs w.heap.size) = ((((((((w.alloc Z27).alloc Z27).alloc (.cells #[.int .i64 2] 3)).alloc (pairO 2 (w.heap.size + 1 + 1))).alloc (.cells #[.int .i64 4, .slice (some ⟨w.heap.size + 1 + 1 + 1, 0, none⟩) 2 2] 27)).alloc (.cells #[.int .i64 3] 3)).alloc (pairO 3 (w.heap.size + 1 + 1 + 1 + 1 + 1))).alloc (.cells #[.int .i64 4, .slice (some ⟨w.heap.size + 1 + 1 + 1 + 1 + 1 + 1, 0, none⟩) 2 2] 27))) := rfl
  go_enter Try.func45, Try.ntmps45
  go_wp2_with fail
  generalize ((((((((w.alloc Z27).alloc Z27).alloc (.cells #[.int .i64 2] 3)).alloc (pairO 2 (w.heap.size + 1 + 1))).alloc (.cells #[.int .i64 4, .slice (some ⟨w.heap.size + 1 + 1 + 1, 0, none⟩) 2 2] 27)).alloc (.cells #[.int .i64 3] 3)).alloc (pairO 3 (w.heap.size + 1 + 1 + 1 + 1 + 1))).alloc (.cells #[.int .i64 4, .slice (some ⟨w.heap.size + 1 + 1 + 1 + 1 + 1 + 1, 0, none⟩) 2 2] 27)) = W8 at HE ⊢
  rw [HE.out] at HD HAT
  have H0 : Hid (W8.heap[w.heap.size]? = some (.cells #[.int .i64 0, .slice none 0 0] 27 (0, 0))) := HAT.out 0 _ rfl
  have H1 : Hid (W8.heap[w.heap.size + 1]? = some (.cells #[.int .i64 0, .slice none 0 0] 27 (0, 0))) := HAT.out 1 _ rfl
  have H4 : Hid (W8.heap[w.heap.size + 1 + 1 + 1 + 1]? = some (.cells #[.int .i64 4, .slice (some ⟨w.heap.size + 1 + 1 + 1, 0, none⟩) 2 2] 27 (0, 0))) := HAT.out 4 _ rfl
  have H7 : Hid (W8.heap[w.heap.size + 1 + 1 + 1 + 1 + 1 + 1 + 1]? = some (.cells #[.int .i64 4, .slice (some ⟨w.heap.size + 1 + 1 + 1 + 1 + 1 + 1, 0, none⟩) 2 2] 27 (0, 0))) := HAT.out 7 _ rfl
  clear HE HAT
  have s0 : ∀ y : TC w.heap.size W8, y.1.cell? ⟨w.heap.size + 1 + 1 + 1 + 1, 0, none⟩ = some (.int .i64 4) := tc_cell (blk_cell H4.out 0) (by simp; omega)
  have s1 : ∀ y : TC w.heap.size W8, y.1.cell? ⟨w.heap.size + 1 + 1 + 1 + 1, 1, none⟩ = some (.slice (some ⟨w.heap.size + 1 + 1 + 1, 0, none⟩) 2 2) := tc_cell (blk_cell H4.out 1) (by simp; omega)
  have s2 : ∀ y : TC w.heap.size W8, y.1.cell? ⟨w.heap.size + 1 + 1 + 1 + 1 + 1 + 1 + 1, 0, none⟩ = some (.int .i64 4) := tc_cell (blk_cell H7.out 0) (by simp; omega)
  have s3 : ∀ y : TC w.heap.size W8, y.1.cell? ⟨w.heap.size + 1 + 1 + 1 + 1 + 1 + 1 + 1, 1, none⟩ = some (.slice (some ⟨w.heap.size + 1 + 1 + 1 + 1 + 1 + 1, 0, none⟩) 2 2) := tc_cell (blk_cell H7.out 1) (by simp; omega)
  refine wp_region_noPanic ?_
  refine wp_region_holdX (C := fun w' => ∃ x : TC w.heap.size W8, w' = x.1) 3 [] [] [0, 1] [2] (by kernel_rfl) (by kernel_rfl) (by kernel_rfl) (by kernel_rfl) (fun _ _ _ _ _ h => (h : False).elim) ⟨⟨{ W8 with drawn := W8.drawn + 1 }, ⟨rfl, rfl, rfl, Nat.le_refl _, fun _ _ _ => rfl⟩, fun _ => ⟨_, _, _, _, H0.out, H1.out⟩⟩, rfl⟩ ?_
  simp only [pickOps, Option.elim_some, List.getElem?_cons_succ, List.getElem?_cons_zero, List.drop_succ_cons, List.drop_zero]
  repeat (go_big_quiet_step (fail))
  refine wpQuiet_nil ?_
  rintro _ ⟨y, rfl⟩
  have hwy := y.2.1
  obtain ⟨u0, u1, v0, v1, k0, k1⟩ := y.2.2 ⟨H0.out, H1.out⟩
  clear s0 s1 s2 s3
  generalize y.1 = wy at hwy k0 k1 ⊢
  have HO := hidm (HD.out wy hwy)
  have HBY := hidm hwy
  have K0 := hidm k0
  have K1 := hidm k1
  clear H0 H1 H4 H7 HD hwy k0 k1
  have HNE : Hid (w.heap.size ≠ w.heap.size + 1) := by unfold Hid; omega
  have K2 := hidm (blk_far (p := ⟨w.heap.size, 1, none⟩) (blk_far (p := ⟨w.heap.size, 0, none⟩) K1.out (Ne.symm HNE.out) (.int .i64 4)) (Ne.symm HNE.out) (.slice (some ⟨w.heap.size + 1 + 1 + 1, 0, none⟩) 2 2))
  have q0 : wy.cell? ⟨w.heap.size, 0, none⟩ = some u0 := blk_cell K0.out 0
  have q1 : wy.cell? ⟨w.heap.size, 1, none⟩ = some u1 := blk_cell K0.out 1
  have q2 : ((wy.setCell ⟨w.heap.size, 0, none⟩ (.int .i64 4)).setCell ⟨w.heap.size, 1, none⟩ (.slice (some ⟨w.heap.size + 1 + 1 + 1, 0, none⟩) 2 2)).cell? ⟨w.heap.size + 1, 0, none⟩ = some v0 := blk_cell K2.out 0
  have q3 : ((wy.setCell ⟨w.heap.size, 0, none⟩ (.int .i64 4)).setCell ⟨w.heap.size, 1, none⟩ (.slice (some ⟨w.heap.size + 1 + 1 + 1, 0, none⟩) 2 2)).cell? ⟨w.heap.size + 1, 1, none⟩ = some v1 := blk_cell K2.out 1
  have f0 : ∀ i, wy.frozen? ⟨w.heap.size, i, none⟩ = false := blk_frozen K0.out
  have f1 : ∀ i, ((wy.setCell ⟨w.heap.size, 0, none⟩ (.int .i64 4)).setCell ⟨w.heap.size, 1, none⟩ (.slice (some ⟨w.heap.size + 1 + 1 + 1, 0, none⟩) 2 2)).frozen? ⟨w.heap.size + 1, i, none⟩ = false := blk_frozen K2.out
  have N0 : Hid (((((wy.setCell ⟨w.heap.size, 0, none⟩ (.int .i64 4)).setCell ⟨w.heap.size, 1, none⟩ (.slice (some ⟨w.heap.size + 1 + 1 + 1, 0, none⟩) 2 2)).setCell ⟨w.heap.size + 1, 0, none⟩ (.int .i64 4)).setCell ⟨w.heap.size + 1, 1, none⟩ (.slice (some ⟨w.heap.size + 1 + 1 + 1 + 1 + 1 + 1, 0, none⟩) 2 2)).heap[w.heap.size]? = some (.cells #[.int .i64 4, .slice (some ⟨w.heap.size + 1 + 1 + 1, 0, none⟩) 2 2] 27 (0, 0))) := blk_far (blk_far (blk_put (blk_put K0.out 0 _ rfl) 1 _ rfl) HNE.out _) HNE.out _
  have N1 : Hid (((((wy.setCell ⟨w.heap.size, 0, none⟩ (.int .i64 4)).setCell ⟨w.heap.size, 1, none⟩ (.slice (some ⟨w.heap.size + 1 + 1 + 1, 0, none⟩) 2 2)).setCell ⟨w.heap.size + 1, 0, none⟩ (.int .i64 4)).setCell ⟨w.heap.size + 1, 1, none⟩ (.slice (some ⟨w.heap.size + 1 + 1 + 1 + 1 + 1 + 1, 0, none⟩) 2 2)).heap[w.heap.size + 1]? = some (.cells #[.int .i64 4, .slice (some ⟨w.heap.size + 1 + 1 + 1 + 1 + 1 + 1, 0, none⟩) 2 2] 27 (0, 0))) := blk_put (blk_put K2.out 0 _ rfl) 1 _ rfl
  have r0 : ((((wy.setCell ⟨w.heap.size, 0, none⟩ (.int .i64 4)).setCell ⟨w.heap.size, 1, none⟩ (.slice (some ⟨w.heap.size + 1 + 1 + 1, 0, none⟩) 2 2)).setCell ⟨w.heap.size + 1, 0, none⟩ (.int .i64 4)).setCell ⟨w.heap.size + 1, 1, none⟩ (.slice (some ⟨w.heap.size + 1 + 1 + 1 + 1 + 1 + 1, 0, none⟩) 2 2)).cell? ⟨w.heap.size, 0, none⟩ = some (.int .i64 4) := blk_cell N0.out 0
  have r1 : ((((wy.setCell ⟨w.heap.size, 0, none⟩ (.int .i64 4)).setCell ⟨w.heap.size, 1, none⟩ (.slice (some ⟨w.heap.size + 1 + 1 + 1, 0, none⟩) 2 2)).setCell ⟨w.heap.size + 1, 0, none⟩ (.int .i64 4)).setCell ⟨w.heap.size + 1, 1, none⟩ (.slice (some ⟨w.heap.size + 1 + 1 + 1 + 1 + 1 + 1, 0, none⟩) 2 2)).cell? ⟨w.heap.size, 1, none⟩ = some (.slice (some ⟨w.heap.size + 1 + 1 + 1, 0, none⟩) 2 2) := blk_cell N0.out 1
  have r2 : ((((wy.setCell ⟨w.heap.size, 0, none⟩ (.int .i64 4)).setCell ⟨w.heap.size, 1, none⟩ (.slice (some ⟨w.heap.size + 1 + 1 + 1, 0, none⟩) 2 2)).setCell ⟨w.heap.size + 1, 0, none⟩ (.int .i64 4)).setCell ⟨w.heap.size + 1, 1, none⟩ (.slice (some ⟨w.heap.size + 1 + 1 + 1 + 1 + 1 + 1, 0, none⟩) 2 2)).cell? ⟨w.heap.size + 1, 0, none⟩ = some (.int .i64 4) := blk_cell N1.out 0
  have r3 : ((((wy.setCell ⟨w.heap.size, 0, none⟩ (.int .i64 4)).setCell ⟨w.heap.size, 1, none⟩ (.slice (some ⟨w.heap.size + 1 + 1 + 1, 0, none⟩) 2 2)).setCell ⟨w.heap.size + 1, 0, none⟩ (.int .i64 4)).setCell ⟨w.heap.size + 1, 1, none⟩ (.slice (some ⟨w.heap.size + 1 + 1 + 1 + 1 + 1 + 1, 0, none⟩) 2 2)).cell? ⟨w.heap.size + 1, 1, none⟩ = some (.slice (some ⟨w.heap.size + 1 + 1 + 1 + 1 + 1 + 1, 0, none⟩) 2 2) := blk_cell N1.out 1
  have K0' := K0
  clear K0 K1 N0 N1 HNE
  refine runX_step (crem := [2]) (rs := [2]) (by kernel_rfl) ⟨?_, trivial⟩
  refine ⟨_, rfl, rfl, .inr (.inr ?_)⟩
  unfold Oper.wp
  generalize hr : Sem.run Try.prog _ _ = r
  have hr2 : r = .ok .skip ((wy.setCell ⟨w.heap.size, 0, none⟩ (.int .i64 4)).setCell ⟨w.heap.size, 1, none⟩ (.slice (some ⟨w.heap.size + 1 + 1 + 1, 0, none⟩) 2 2)) := by rw [← hr]; go_simp
  rw [hr2]
  clear hr hr2
  refine ⟨⟨⟨((wy.setCell ⟨w.heap.size, 0, none⟩ (.int .i64 4)).setCell ⟨w.heap.size, 1, none⟩ (.slice (some ⟨w.heap.size + 1 + 1 + 1, 0, none⟩) 2 2)), (HBY.out.set _ _ _ (.inl (.inl rfl))).set _ _ _ (.inl (.inl rfl)), fun _ => ⟨_, _, _, _, blk_put (blk_put K0'.out 0 _ rfl) 1 _ rfl, K2.out⟩⟩, rfl⟩, ?_⟩
  simp only [Act.put]
  clear q0 q1 f0
  show wpList _ _ _ _ _ _
  go_wp2_with fail
  refine NoPanic.normal ?_
  go_wp2_with fail
  simp [bodyPost, results, Try.results45, go_sem, r0, r1, r2, r3]
  exact HO.out
end Go.Proofs.Ytlopfkkegjajlaa
namespace Go.Proofs.Ytlopfkkegjajlaa
open Go.RowKit Go.Proofs.YtlopfkkegjajlaaW.PrintWords PHistoryTouched
theorem pushL_new {W : World} {D : Nat → Prop} {pb : Nat} {ms : List S27} {now : Nat} {nx : Int} {l : List S76} {A : Option Addr} {c : Nat} (hP : PastR W D pb ms now) (hD : ¬ D pb) (hn : now < ms.length) (hm : ms.length ≤ 65) (hr : Kd.C k76 W A l.length l) (hwf : WfL l) (hs : SmallL l) (hk : CheckP nx l) (hne : (⟨nx, l⟩ : S27) ≠ rd_T27 ms now) :
    Calls Try.prog 15 #[.pointer (some ⟨pb, 0, none⟩), .agg #[.int .i64 nx, .slice A l.length c]] W (PastPost pb D 0 (pushed ms now ⟨nx, l⟩) ((pushed ms now ⟨nx, l⟩).length - 1) W) := by
  obtain ⟨ad, cp, hb, hcp, hF⟩ := hP
  refine (push_yes nx pb D ad ms cp now A l c W hb hn hm hcp hF hD hr hwf hs hk).mono ?_
  rintro e w' (⟨he, _⟩ | ⟨_, A', c', rfl, hc', hb', hF', hw'⟩)
  · exact absurd he hne
  · have hpos : 0 < (pushed ms now ⟨nx, l⟩).length := by
      unfold pushed
      split
      · simp at *; omega
      · simp
    obtain ⟨ad', cs, hA, _⟩ := Kd.F_get hF' z27 0 (by omega) (by omega)
    subst hA
    exact ⟨rfl, ⟨ad', c', hb', hc', hF'⟩, hw'⟩
theorem pushL_same {W : World} {D : Nat → Prop} {pb : Nat} {ms : List S27} {now : Nat} {nx : Int} {l : List S76} {A : Option Addr} {c : Nat} (hP : PastR W D pb ms now) (hD : ¬ D pb) (hn : now < ms.length) (hm : ms.length ≤ 65) (hr : Kd.C k76 W A l.length l) (hwf : WfL l) (hs : SmallL l) (hk : CheckP nx l) (he : (⟨nx, l⟩ : S27) = rd_T27 ms now) :
    Calls Try.prog 15 #[.pointer (some ⟨pb, 0, none⟩), .agg #[.int .i64 nx, .slice A l.length c]] W fun e w' => e = .returned (.int .i64 0) ∧ Below W.heap.size W w' := by
  obtain ⟨ad, cp, hb, hcp, hF⟩ := hP
  refine (push_yes nx pb D ad ms cp now A l c W hb hn hm hcp hF hD hr hwf hs hk).mono ?_
  rintro e w' (⟨_, rfl, hb'⟩ | ⟨hne, _⟩)
  · exact ⟨rfl, hb'⟩
  · exact absurd he hne
theorem undoL_yes {W : World} {D : Nat → Prop} {pb : Nat} {ms : List S27} {now : Nat} (hP : PastR W D pb ms (now + 1)) (hD : ¬ D pb) (hn : now + 1 < ms.length) (hm : ms.length ≤ 65) (hs : SmallL (rd_T27 ms now).f1) :
    Calls Try.prog 17 #[.pointer (some ⟨pb, 0, none⟩)] W (MovePost pb D (rd_T27 ms now) 0 ms now W) := by
  have hlt := hP.lt
  obtain ⟨ad, cp, hb, hcp, hF⟩ := hP
  refine (undo_any (m := rd_T27 ms now) (er := 0) (nw := now) hlt (fun W' hW' => ?_)).mono (fun e w' hp => move_of_step hcp hF hD hp)
  exact to_yes (-1) pb D (some ad) ms cp (now + 1) now W' (blk_below hb hW') (Kd.F_below hF hW') hD (by omega) hs (by omega) (by omega)
theorem undoL_no {W : World} {D : Nat → Prop} {pb : Nat} {ms : List S27} (hP : PastR W D pb ms 0) (hD : ¬ D pb) (hn : 0 < ms.length) (hm : ms.length ≤ 65) :
    Calls Try.prog 17 #[.pointer (some ⟨pb, 0, none⟩)] W (MovePost pb D ⟨0, []⟩ 270 ms 0 W) := by
  have hlt := hP.lt
  obtain ⟨ad, cp, hb, hcp, hF⟩ := hP
  exact (undo_any (m := ⟨0, []⟩) (er := 270) hlt (fun W' hW' => to_no (-1) pb (some ad) ms.length cp 0 W' (blk_below hb hW') hn (by omega) (by omega) (.inl (by omega)))).mono (fun e w' hp => move_of_step hcp hF hD hp)
theorem redoL_yes {W : World} {D : Nat → Prop} {pb : Nat} {ms : List S27} {now : Nat} (hP : PastR W D pb ms now) (hD : ¬ D pb) (hn : now + 1 < ms.length) (hm : ms.length ≤ 65) (hs : SmallL (rd_T27 ms (now + 1 : Nat)).f1) :
    Calls Try.prog 20 #[.pointer (some ⟨pb, 0, none⟩)] W (MovePost pb D (rd_T27 ms (now + 1 : Nat)) 0 ms (now + 1) W) := by
  have hlt := hP.lt
  obtain ⟨ad, cp, hb, hcp, hF⟩ := hP
  refine (redo_any (m := rd_T27 ms (now + 1 : Nat)) (er := 0) (nw := now + 1) hlt (fun W' hW' => ?_)).mono (fun e w' hp => move_of_step hcp hF hD hp)
  exact to_yes 1 pb D (some ad) ms cp now (now + 1) W' (blk_below hb hW') (Kd.F_below hF hW') hD (by omega) hs (by omega) (by omega)
theorem depthL {W : World} {D : Nat → Prop} {pb : Nat} {ms : List S27} {now : Nat} (hP : PastR W D pb ms now) (hn : now < ms.length) (hm : ms.length ≤ 65) :
    Calls Try.prog 32 #[.pointer (some ⟨pb, 0, none⟩)] W fun e w' => e = .returned (.tuple #[.int .i64 (now : Int), .int .i64 ((ms.length : Int) - 1 - now)]) ∧ Below W.heap.size W w' := by
  obtain ⟨ad, cp, hb, hcp, hF⟩ := hP
  exact depth_any pb (some ad) ms.length cp now W hb hn (by omega)
theorem pastL_of_new {w w' : World} {pb : Nat} {m : S27} {A : Option Addr} {c : Nat} (hc : 1 ≤ c) (hb : w'.heap[pb]? = some (pastO A 1 c 0)) (hF : Kd.F k27 w' (fun k => w.heap.size ≤ k ∧ k < w'.heap.size ∧ k ≠ pb) A 1 [m]) : PastR w' (fun k => w.heap.size ≤ k ∧ k < w'.heap.size ∧ k ≠ pb) pb [m] 0 := by
  obtain ⟨ad, cs, hA, _⟩ := Kd.F_get hF z27 0 (by omega) (by omega)
  subst hA
  exact ⟨ad, c, hb, hc, hF⟩
structure ModW (pb g : Nat) (A : Option Addr) (c : Nat) (m : S27) (W : World) : Prop where
  k : W.heap[g]? = some (.cells #[.int .i64 m.f0, .slice A m.f1.length c] 27 (0, 0))
  ne : g ≠ pb
  f : Kd.F k76 W (fun k => k ≠ pb) A m.f1.length m.f1
  l : m.f1.length ≤ c
theorem ModW.wr {pb g : Nat} {A : Option Addr} {c : Nat} {m : S27} {W W' : World} (h : ModW pb g A c m W) (hw : Wr (· = pb) W W') : ModW pb g A c m W' :=
  ⟨(hw.block _ (Array.getElem?_eq_some_iff.1 h.k).1 h.ne).trans h.k, h.ne, Kd.F_step h.f (fun k hk hlt => hw.block k hlt hk), h.l⟩
theorem ModW.below {pb g : Nat} {A : Option Addr} {c : Nat} {m : S27} {W W' : World} (h : ModW pb g A c m W) (hb : Below W.heap.size W W') : ModW pb g A c m W' :=
  ⟨blk_below h.k hb, h.ne, Kd.F_below h.f hb, h.l⟩
theorem modW_of_move {W w' : World} {pb : Nat} {m : S27} {v : Value} (hpb : pb < W.heap.size) (hsz : W.heap.size ≤ w'.heap.size) (h : k76.R 76 w' W.heap.size (fun _ => True) v m.f1) : ∃ A c, v = .slice A m.f1.length c ∧ ModW pb w'.heap.size A c m (w'.alloc (.cells #[.int .i64 m.f0, .slice A m.f1.length c] 27)) := by
  obtain ⟨A9, c9, e9, h8, h9⟩ := (Kd.R_V (d := k76) (base' := 0) (Kd.R_mono (Kd.R_bound h) (ok' := fun k => k ≠ pb) (fun k hk => by have := hk.2.1; omega)))
  exact ⟨A9, c9, e9, blk_new _ _, by omega, Kd.F_alloc h9 _, h8⟩
theorem refT_pair : refT (pairL 2) (pairL 3) = [1, 2, 3] := by
  have h1 : refT [(⟨2, ⟨#[65]⟩, 1, ⟨#[114]⟩, [], [], []⟩ : S76)] [⟨3, ⟨#[65]⟩, 1, ⟨#[114]⟩, [], [], []⟩] = [2, 3] := by
    rw [refT, if_pos (by decide), refT_nil]
    rfl
  unfold pairL
  rw [refT, if_neg (by decide), if_neg (by decide), h1, tv_no (by simp)]
  rfl
theorem check_nil : ¬ CheckP 0 [] := fun h => by have := h.lo; omega
end Go.Proofs.Ytlopfkkegjajlaa
namespace Go.Proofs.Ytlopfkkegjajlaa
open Go.RowKit Go.Proofs.YtlopfkkegjajlaaW.PrintWords PHistoryTouched
def mA : S27 := ⟨4, pairL 2⟩
def mB : S27 := ⟨4, pairL 3⟩
theorem mAB : mB ≠ mA := fun h => by
  have := congrArg (fun m : S27 => (rd_T76 m.f1 1).f0) h
  simp [mA, mB, pairL, rd_T76] at this
theorem cA : CheckP 4 (pairL 2) := pair_check (by omega) (by omega)
theorem cB : CheckP 4 (pairL 3) := pair_check (by omega) (by omega)
theorem i64_small {k : Int} (h0 : 0 ≤ k) (h1 : k ≤ 9) : I64 k := ⟨by omega, by omega⟩
theorem modW_of_C {W : World} {pb g g1 : Nat} {m : S27} {c : Nat} (hk : W.heap[g]? = some (.cells #[.int .i64 m.f0, .slice (some ⟨g1, 0, none⟩) m.f1.length c] 27 (0, 0))) (hC : Kd.C k76 W (some ⟨g1, 0, none⟩) m.f1.length m.f1) (hl : m.f1.length ≤ c) (hpb : W.heap.size ≤ pb) : ModW pb g (some ⟨g1, 0, none⟩) c m W :=
  ⟨hk, by have := (Array.getElem?_eq_some_iff.1 hk).1; omega, Kd.F_mono (Kd.C_F heap76 hC) (fun k hk => by have : k < W.heap.size := hk; omega), hl⟩
theorem below_wrT {w0 W W' : World} {T : Nat → Prop} (h : Below w0.heap.size w0 W) (hw : Wr T W W') (hT : ∀ k, T k → k < W.heap.size → w0.heap.size ≤ k) : Below w0.heap.size w0 W' :=
  ((Wr.of_below (S := fun k => w0.heap.size ≤ k) h).trans (hw.mono (S' := fun k => w0.heap.size ≤ k) (fun k hk ht => hT k ht hk)) (fun _ _ h => h)).below (Nat.le_refl _) (fun _ h => h)
theorem int_at {W : World} {A : Option Addr} {n : Nat} {xs : List Int} (h : Kd.C (Kd.int .i64) W A n xs) (i : Nat) (hi : i < n) : ∃ ad, A = some ad ∧ W.cell? (ad.add i) = some (.int .i64 (xs.getD i 0)) := by
  obtain ⟨ad, c, hA, _, hK, hc⟩ := Kd.C_get h 0 (i : Int) (by omega) (by omega)
  have hK' : c = [.int .i64 (xs.getD i 0)] := hK
  have := hc 0 (.int .i64 (xs.getD i 0)) (by rw [hK']; rfl)
  have e : (i : Int).toNat * (Kd.int .i64).sz + 0 = i := by show i * 1 + 0 = i; omega
  rw [e] at this
  exact ⟨ad, hA, this⟩
set_option maxRecDepth 100000 in
set_option maxHeartbeats 8000000 in
theorem awake_any (w : World) : Calls Try.prog 28 #[] w fun e w' => e = .returned (.bool true) ∧ Below w.heap.size w w' := by
  go_enter Try.func28, Try.ntmps28
  go_wp2_with fail
  refine (two_any w).mono ?_
  rintro e w1 ⟨g1, g2, rfl, hc1, hc2, hb1⟩
  have HB := hidm (below_alloc (below_alloc hb1 (.cells #[.int .i64 4, .slice (some ⟨g1, 0, none⟩) 2 2] 27)) (.cells #[.int .i64 4, .slice (some ⟨g2, 0, none⟩) 2 2] 27))
  have KA : Hid (((w1.alloc (.cells #[.int .i64 4, .slice (some ⟨g1, 0, none⟩) 2 2] 27)).alloc (.cells #[.int .i64 4, .slice (some ⟨g2, 0, none⟩) 2 2] 27)).heap[w1.heap.size]? = some (.cells #[.int .i64 mA.f0, .slice (some ⟨g1, 0, none⟩) mA.f1.length 2] 27 (0, 0))) := blk_alloc (blk_new w1 (.cells #[.int .i64 4, .slice (some ⟨g1, 0, none⟩) 2 2] 27)) (.cells #[.int .i64 4, .slice (some ⟨g2, 0, none⟩) 2 2] 27)
  have KB : Hid (((w1.alloc (.cells #[.int .i64 4, .slice (some ⟨g1, 0, none⟩) 2 2] 27)).alloc (.cells #[.int .i64 4, .slice (some ⟨g2, 0, none⟩) 2 2] 27)).heap[w1.heap.size + 1]? = some (.cells #[.int .i64 mB.f0, .slice (some ⟨g2, 0, none⟩) mB.f1.length 2] 27 (0, 0))) := blk_new2 w1 _ _
  have HC1 : Hid (Kd.C k76 ((w1.alloc (.cells #[.int .i64 4, .slice (some ⟨g1, 0, none⟩) 2 2] 27)).alloc (.cells #[.int .i64 4, .slice (some ⟨g2, 0, none⟩) 2 2] 27)) (some ⟨g1, 0, none⟩) mA.f1.length mA.f1) := Kd.C_below hc1 (below_alloc (below_alloc (Below.refl _ _) _) _)
  have HC2 : Hid (Kd.C k76 ((w1.alloc (.cells #[.int .i64 4, .slice (some ⟨g1, 0, none⟩) 2 2] 27)).alloc (.cells #[.int .i64 4, .slice (some ⟨g2, 0, none⟩) 2 2] 27)) (some ⟨g2, 0, none⟩) mB.f1.length mB.f1) := Kd.C_below hc2 (below_alloc (below_alloc (Below.refl _ _) _) _)
  clear hc1 hc2 hb1
  go_wp2_with fail
  generalize ((w1.alloc (.cells #[.int .i64 4, .slice (some ⟨g1, 0, none⟩) 2 2] 27)).alloc (.cells #[.int .i64 4, .slice (some ⟨g2, 0, none⟩) 2 2] 27)) = w2 at HB KA KB HC1 HC2 ⊢
  generalize hga : w1.heap.size = ga at KA ⊢
  rw [hga] at KB
  clear hga
  refine (new_yes 4 (some ⟨g1, 0, none⟩) (pairL 2) 2 w2 HC1.out (pair_wf (i64_small (by omega) (by omega))) (pair_small 2) cA).mono ?_
  rintro e w3 ⟨pb, A3, c3, rfl, hpb, hc3, hblk, hF, hb3⟩
  have HPL : Hid (PastR w3 (fun k => w2.heap.size ≤ k ∧ k < w3.heap.size ∧ k ≠ pb) pb [mA] 0) := pastL_of_new hc3 hblk hF
  have MA := hidm ((modW_of_C (m := mA) KA.out HC1.out (Nat.le_refl _) hpb).below hb3)
  have MB := hidm ((modW_of_C (m := mB) KB.out HC2.out (Nat.le_refl _) hpb).below hb3)
  have HGP : Hid (w.heap.size ≤ pb) := Nat.le_trans HB.out.size hpb
  have HDN : Hid (¬ (w2.heap.size ≤ pb ∧ pb < w3.heap.size ∧ pb ≠ pb)) := fun h => h.2.2 rfl
  have HDL : Hid (∀ k, (w2.heap.size ≤ k ∧ k < w3.heap.size ∧ k ≠ pb) → k < w3.heap.size) := fun k hk => hk.2.1
  replace HB := hidm (below_step HB.out hb3)
  obtain ⟨D, hD⟩ : ∃ D : Nat → Prop, D = fun k => w2.heap.size ≤ k ∧ k < w3.heap.size ∧ k ≠ pb := ⟨_, rfl⟩
  rw [← hD] at HPL
  replace HDN : Hid (¬ D pb) := by rw [hD]; exact HDN
  replace HDL : Hid (∀ k, D k → k < w3.heap.size) := by rw [hD]; exact HDL
  clear hpb hc3 hblk hF hb3 KA KB HC1 HC2 hD
  have q0 : w3.cell? ⟨ga + 1, 0, none⟩ = some (.int .i64 4) := blk_cell MB.out.k 0
  have q1 : w3.cell? ⟨ga + 1, 1, none⟩ = some (.slice (some ⟨g2, 0, none⟩) 2 2) := blk_cell MB.out.k 1
  go_wp2_with fail
  refine (pushL_new (now := 0) (ms := [mA]) (nx := 4) (l := pairL 3) HPL.out HDN.out (by simp) (by simp) (Kd.F_now MB.out.f) (pair_wf (i64_small (by omega) (by omega))) (pair_small 3) cB mAB).mono ?_
  rintro e w4 ⟨rfl, hP4, hw4⟩
  have HPU : Hid (pushed [mA] 0 (⟨4, pairL 3⟩ : S27) = [mA, mB]) := hidm (by unfold pushed; simp [mB])
  rw [HPU.out] at hP4
  obtain ⟨E, hE⟩ : ∃ E : Nat → Prop, E = fun k => D k ∨ (w3.heap.size ≤ k ∧ k < w4.heap.size) := ⟨_, rfl⟩
  rw [← hE] at hP4
  have HPE : Hid (PastR w4 E pb [mA, mB] 1) := hP4
  have HEN : Hid (¬ E pb) := by
    rw [hE]
    exact hidm (fun h => h.elim HDN.out (fun h => by have := HPL.out.lt; omega))
  replace HB := hidm (below_wrT HB.out hw4 (fun k hk _ => by have := HGP.out; omega))
  replace MA := hidm (MA.out.wr hw4)
  replace MB := hidm (MB.out.wr hw4)
  clear hP4 hw4 hE HPL HDN HDL HPU q0 q1
  have q0 : w4.cell? ⟨ga + 1, 0, none⟩ = some (.int .i64 4) := blk_cell MB.out.k 0
  have q1 : w4.cell? ⟨ga + 1, 1, none⟩ = some (.slice (some ⟨g2, 0, none⟩) 2 2) := blk_cell MB.out.k 1
  go_wp2_with fail
  refine (pushL_same (now := 1) (ms := [mA, mB]) (nx := 4) (l := pairL 3) HPE.out HEN.out (by simp) (by simp) (Kd.F_now MB.out.f) (pair_wf (i64_small (by omega) (by omega))) (pair_small 3) cB rfl).mono ?_
  rintro e w5 ⟨rfl, hb5⟩
  replace HPE := hidm (HPE.out.below hb5)
  replace HB := hidm (below_step HB.out hb5)
  replace MA := hidm (MA.out.below hb5)
  replace MB := hidm (MB.out.below hb5)
  clear hb5 q0 q1
  go_wp2_with fail
  refine (undoL_yes (now := 0) (ms := [mA, mB]) HPE.out HEN.out (by simp) (by simp) (pair_small 2)).mono ?_
  rintro e w6 ⟨v6, he, hv6, hP6, hw6⟩
  have he' : e = .returned (.tuple #[.agg #[.int .i64 4, v6], .int .i64 0]) := he
  subst he'
  clear he
  obtain ⟨A7, c7, hv, hM7⟩ := modW_of_move (pb := pb) HPE.out.lt hw6.size hv6
  have hv' : v6 = .slice A7 2 c7 := hv
  subst hv'
  clear hv
  have M7 : Hid (ModW pb w6.heap.size A7 c7 mA (w6.alloc (.cells #[.int .i64 4, .slice A7 2 c7] 27))) := hM7
  have HBA : Hid (Below w6.heap.size w6 (w6.alloc (.cells #[.int .i64 4, .slice A7 2 c7] 27))) := below_alloc (Below.refl _ _) _
  replace HPE := hidm (hP6.below HBA.out)
  replace HB := hidm (below_step (below_wrT HB.out hw6 (fun k hk _ => by have := HGP.out; omega)) HBA.out)
  replace MA := hidm (MA.out.wr hw6)
  replace MB := hidm (MB.out.wr hw6)
  replace MA := hidm (MA.out.below HBA.out)
  replace MB := hidm (MB.out.below HBA.out)
  clear hv6 hP6 hw6 hM7 HBA
  go_wp2_with fail
  generalize (w6.alloc (.cells #[.int .i64 4, .slice A7 2 c7] 27)) = w7 at M7 HPE HB MA MB ⊢
  generalize w6.heap.size = g7 at M7 ⊢
  refine (undoL_no (ms := [mA, mB]) HPE.out HEN.out (by simp) (by simp)).mono ?_
  rintro e w8 ⟨v8, he, hv8, hP8, hw8⟩
  have he' : e = .returned (.tuple #[.agg #[.int .i64 0, v8], .int .i64 270]) := he
  subst he'
  clear he
  obtain ⟨A8, c8, hv, _⟩ := modW_of_move (pb := pb) (m := ⟨0, []⟩) HPE.out.lt hw8.size hv8
  have hv' : v8 = .slice A8 0 c8 := hv
  subst hv'
  clear hv
  have HBA : Hid (Below w8.heap.size w8 (w8.alloc (.cells #[.int .i64 0, .slice A8 0 c8] 27))) := below_alloc (Below.refl _ _) _
  replace HPE := hidm (hP8.below HBA.out)
  replace HB := hidm (below_step (below_wrT HB.out hw8 (fun k hk _ => by have := HGP.out; omega)) HBA.out)
  replace MA := hidm (MA.out.wr hw8)
  replace MB := hidm (MB.out.wr hw8)
  replace M7 := hidm (M7.out.wr hw8)
  replace MA := hidm (MA.out.below HBA.out)
  replace MB := hidm (MB.out.below HBA.out)
  replace M7 := hidm (M7.out.below HBA.out)
  clear hv8 hP8 hw8 HBA
  go_wp2_with fail
  generalize (w8.alloc (.cells #[.int .i64 0, .slice A8 0 c8] 27)) = w9 at HPE HB MA MB M7 ⊢
  refine (redoL_yes (now := 0) (ms := [mA, mB]) HPE.out HEN.out (by simp) (by simp) (pair_small 3)).mono ?_
  rintro e wa ⟨va, he, hva, hPa, hwa⟩
  have he' : e = .returned (.tuple #[.agg #[.int .i64 4, va], .int .i64 0]) := he
  subst he'
  clear he
  obtain ⟨Ab, cb, hv, hMb⟩ := modW_of_move (pb := pb) HPE.out.lt hwa.size hva
  have hv' : va = .slice Ab 2 cb := hv
  subst hv'
  clear hv
  have M9 : Hid (ModW pb wa.heap.size Ab cb mB (wa.alloc (.cells #[.int .i64 4, .slice Ab 2 cb] 27))) := hMb
  have HBA : Hid (Below wa.heap.size wa (wa.alloc (.cells #[.int .i64 4, .slice Ab 2 cb] 27))) := below_alloc (Below.refl _ _) _
  replace HPE := hidm (hPa.below HBA.out)
  replace HB := hidm (below_step (below_wrT HB.out hwa (fun k hk _ => by have := HGP.out; omega)) HBA.out)
  replace MA := hidm (MA.out.wr hwa)
  replace MB := hidm (MB.out.wr hwa)
  replace M7 := hidm (M7.out.wr hwa)
  replace MA := hidm (MA.out.below HBA.out)
  replace MB := hidm (MB.out.below HBA.out)
  replace M7 := hidm (M7.out.below HBA.out)
  clear hva hPa hwa hMb HBA
  go_wp2_with fail
  generalize (wa.alloc (.cells #[.int .i64 4, .slice Ab 2 cb] 27)) = wb at M9 HPE HB MA MB M7 ⊢
  generalize wa.heap.size = g9 at M9 ⊢
  refine (depthL HPE.out (by simp) (by simp)).mono ?_
  rintro e wc ⟨rfl, hbc⟩
  replace HB := hidm (below_step HB.out hbc)
  replace MA := hidm (MA.out.below hbc)
  replace MB := hidm (MB.out.below hbc)
  replace M7 := hidm (M7.out.below hbc)
  replace M9 := hidm (M9.out.below hbc)
  clear hbc HPE HEN HGP
  have q0 : wc.cell? ⟨ga, 0, none⟩ = some (.int .i64 4) := blk_cell MA.out.k 0
  have q1 : wc.cell? ⟨ga, 1, none⟩ = some (.slice (some ⟨g1, 0, none⟩) 2 2) := blk_cell MA.out.k 1
  have q2 : wc.cell? ⟨ga + 1, 0, none⟩ = some (.int .i64 4) := blk_cell MB.out.k 0
  have q3 : wc.cell? ⟨ga + 1, 1, none⟩ = some (.slice (some ⟨g2, 0, none⟩) 2 2) := blk_cell MB.out.k 1
  go_wp2_with fail
  refine (touched_yes 4 4 (some ⟨g1, 0, none⟩) (some ⟨g2, 0, none⟩) (pairL 2) (pairL 3) 2 2 wc (Kd.F_now MA.out.f) (pair_wf (i64_small (by omega) (by omega))) (Kd.F_now MB.out.f) (pair_wf (i64_small (by omega) (by omega))) cA cB (by simp [pairL]) (by simp [pairL])).mono ?_
  rintro e wd ⟨vt, rfl, hrt, hbd⟩
  rw [refT_pair] at hrt
  obtain ⟨At, ct, rfl, hlt, hCt⟩ := Kd.R_reads hrt
  have HCT := hidm hCt
  replace HB := hidm (below_step HB.out hbd)
  replace MA := hidm (MA.out.below hbd)
  replace MB := hidm (MB.out.below hbd)
  replace M7 := hidm (M7.out.below hbd)
  replace M9 := hidm (M9.out.below hbd)
  clear hbd hrt hlt hCt q0 q1 q2 q3
  go_wp2_with fail
  refine (new_no 0 none [] 0 wd (nil_C _ _) (fun i hi => absurd hi (Nat.not_lt_zero _)) check_nil).mono ?_
  rintro e we ⟨rfl, hbe⟩
  replace HB := hidm (below_step HB.out hbe)
  replace HCT := hidm (Kd.C_below HCT.out hbe)
  replace MA := hidm (MA.out.below hbe)
  replace MB := hidm (MB.out.below hbe)
  replace M7 := hidm (M7.out.below hbe)
  replace M9 := hidm (M9.out.below hbe)
  clear hbe
  have q0 : we.cell? ⟨g7, 0, none⟩ = some (.int .i64 4) := blk_cell M7.out.k 0
  have q1 : we.cell? ⟨g7, 1, none⟩ = some (.slice A7 2 c7) := blk_cell M7.out.k 1
  have q2 : we.cell? ⟨ga, 0, none⟩ = some (.int .i64 4) := blk_cell MA.out.k 0
  have q3 : we.cell? ⟨ga, 1, none⟩ = some (.slice (some ⟨g1, 0, none⟩) 2 2) := blk_cell MA.out.k 1
  go_wp2_with fail
  have hcall := same_any 4 4 (pairL 2) (pairL 2) A7 (some ⟨g1, 0, none⟩) c7 2 we (Kd.F_now M7.out.f) (Kd.F_now MA.out.f)
  rw [tv_yes ⟨rfl, rfl⟩] at hcall
  refine hcall.mono ?_
  clear hcall
  rintro e wf ⟨rfl, hbf⟩
  replace HB := hidm (below_step HB.out hbf)
  replace HCT := hidm (Kd.C_below HCT.out hbf)
  replace MB := hidm (MB.out.below hbf)
  replace M9 := hidm (M9.out.below hbf)
  clear hbf q0 q1 q2 q3
  have q0 : wf.cell? ⟨g9, 0, none⟩ = some (.int .i64 4) := blk_cell M9.out.k 0
  have q1 : wf.cell? ⟨g9, 1, none⟩ = some (.slice Ab 2 cb) := blk_cell M9.out.k 1
  have q2 : wf.cell? ⟨ga + 1, 0, none⟩ = some (.int .i64 4) := blk_cell MB.out.k 0
  have q3 : wf.cell? ⟨ga + 1, 1, none⟩ = some (.slice (some ⟨g2, 0, none⟩) 2 2) := blk_cell MB.out.k 1
  go_wp2_with fail
  have hcall := same_any 4 4 (pairL 3) (pairL 3) Ab (some ⟨g2, 0, none⟩) cb 2 wf (Kd.F_now M9.out.f) (Kd.F_now MB.out.f)
  rw [tv_yes ⟨rfl, rfl⟩] at hcall
  refine hcall.mono ?_
  clear hcall
  rintro e wg ⟨rfl, hbg⟩
  replace HB := hidm (below_step HB.out hbg)
  replace HCT := hidm (Kd.C_below HCT.out hbg)
  clear hbg q0 q1 q2 q3 MA MB M7 M9
  obtain ⟨at_, rfl, x0⟩ := int_at HCT.out 0 (by simp)
  obtain ⟨_, e, x2⟩ := int_at HCT.out 2 (by simp)
  injection e with e
  subst e
  have y0 : wg.cell? at_ = some (.int .i64 1) := by simpa [Addr.add] using x0
  have y2 : wg.cell? ⟨at_.block, at_.off + 2, none⟩ = some (.int .i64 3) := by simpa [Addr.add] using x2
  clear x0 x2 HCT
  go_wp2_with fail
  go_ret
  exact ⟨rfl, HB.out⟩
end Go.Proofs.Ytlopfkkegjajlaa
namespace Go.Proofs.Ytlopfkkegjajlaa
open Go.RowKit Go.Proofs.YtlopfkkegjajlaaW.PrintWords PHistoryTouched
structure TwoT (w : World) (na nb : Int) (l m : List S76) (g5 g6 : Nat) (A8 : Option Addr) (c8 : Nat) (B8 : Option Addr) (d8 : Nat) (W : World) : Prop where
  b : Below w.heap.size w W
  k5 : W.heap[g5]? = some (.cells #[.int .i64 na, .slice A8 l.length c8] 27 (0, 0))
  k6 : W.heap[g6]? = some (.cells #[.int .i64 nb, .slice B8 m.length d8] 27 (0, 0))
  rA : Kd.C k76 W A8 l.length l
  lA : l.length ≤ c8
  rB : Kd.C k76 W B8 m.length m
  lB : m.length ≤ d8
theorem TwoT.below {w : World} {na nb : Int} {l m : List S76} {g5 g6 : Nat} {A8 : Option Addr} {c8 : Nat} {B8 : Option Addr} {d8 : Nat} {W W' : World} (h : TwoT w na nb l m g5 g6 A8 c8 B8 d8 W) (hb : Below W.heap.size W W') : TwoT w na nb l m g5 g6 A8 c8 B8 d8 W' :=
  ⟨below_step h.b hb, blk_below h.k5 hb, blk_below h.k6 hb, Kd.C_below h.rA hb, h.lA, Kd.C_below h.rB hb, h.lB⟩
structure FourT (w : World) (na nb : Int) (A : Option Addr) (l : List S76) (c : Nat) (B : Option Addr) (m : List S76) (d : Nat) (g5 g6 : Nat) (A8 : Option Addr) (c8 : Nat) (B8 : Option Addr) (d8 : Nat) (W : World) : Prop where
  t : TwoT w na nb l m g5 g6 A8 c8 B8 d8 W
  o : Boxed2 w (.cells #[.int .i64 na, .slice A l.length c] 27) (.cells #[.int .i64 nb, .slice B m.length d] 27) W
theorem FourT.below {w : World} {na nb : Int} {A : Option Addr} {l : List S76} {c : Nat} {B : Option Addr} {m : List S76} {d : Nat} {g5 g6 : Nat} {A8 : Option Addr} {c8 : Nat} {B8 : Option Addr} {d8 : Nat} {W W' : World} (h : FourT w na nb A l c B m d g5 g6 A8 c8 B8 d8 W) (hb : Below W.heap.size W W') : FourT w na nb A l c B m d g5 g6 A8 c8 B8 d8 W' :=
  ⟨h.t.below hb, h.o.below hb⟩
structure In4 (w : World) (A : Option Addr) (l : List S76) (c : Nat) : Prop where
  r : Kd.C k76 w A l.length l
  cap : l.length ≤ c
  sm : SmallL l
  wf : WfL l
end Go.Proofs.Ytlopfkkegjajlaa
namespace Go.Proofs.Ytlopfkkegjajlaa
open Go.RowKit Go.Proofs.YtlopfkkegjajlaaW.PrintWords PHistoryTouched
structure LongI (nx : Int) (l : List S76) (i : Nat) (ms : List S27) : Prop where
  len : ms.length = min (i + 1) 65
  at_ : ∀ j : Nat, j < ms.length → rd_T27 ms j = ⟨nx + ((i + 1 - ms.length + j : Nat) : Int), l⟩
theorem rd27_app (xs : List S27) (m : S27) (j : Nat) : rd_T27 (xs ++ [m]) j = if j < xs.length then rd_T27 xs j else if j = xs.length then m else z27 := by
  unfold rd_T27
  simp only [Int.toNat_natCast, List.getD_eq_getElem?_getD]
  by_cases h : j < xs.length
  · rw [if_pos h, List.getElem?_append_left h]
  · rw [if_neg h, List.getElem?_append_right (by omega)]
    by_cases e : j = xs.length
    · rw [if_pos e, e]; simp
    · rw [if_neg e, List.getElem?_eq_none (by simp; omega)]; rfl
theorem rd27_drop (xs : List S27) (j : Nat) : rd_T27 (xs.drop 1) j = rd_T27 xs (j + 1 : Nat) := by
  unfold rd_T27
  simp only [Int.toNat_natCast, List.getD_eq_getElem?_getD, List.getElem?_drop]
  rw [Nat.add_comm]
theorem LongI.start (nx : Int) (l : List S76) : LongI nx l 0 [⟨nx, l⟩] :=
  ⟨rfl, fun j hj => by
    have h1 : j < 1 := hj
    have h0 : j = 0 := by omega
    subst h0
    show (⟨nx, l⟩ : S27) = ⟨nx + 0, l⟩
    rw [Int.add_zero]⟩
theorem LongI.step {nx : Int} {l : List S76} {i : Nat} {ms : List S27} (h : LongI nx l i ms) : LongI nx l (i + 1) (pushed ms (ms.length - 1) ⟨nx + ((i + 1 : Nat) : Int), l⟩) := by
  have hlen := h.len
  have hpos : 0 < ms.length := by omega
  have ht : ms.take (ms.length - 1 + 1) = ms := by rw [Nat.sub_add_cancel hpos, List.take_length]
  unfold pushed
  rw [ht]
  by_cases hb : 65 < (ms ++ [(⟨nx + ((i + 1 : Nat) : Int), l⟩ : S27)]).length
  · rw [if_pos hb]
    have hb' : 65 < ms.length + 1 := by simpa using hb
    have hl : ((ms ++ [(⟨nx + ((i + 1 : Nat) : Int), l⟩ : S27)]).drop 1).length = 65 := by simp; omega
    refine ⟨by rw [hl]; omega, fun j hj => ?_⟩
    rw [hl] at hj
    rw [rd27_drop, rd27_app, hl]
    by_cases hj2 : j + 1 < ms.length
    · rw [if_pos hj2, h.at_ (j + 1) hj2]
      have : i + 1 - ms.length + (j + 1) = i + 1 + 1 - 65 + j := by omega
      rw [this]
    · rw [if_neg hj2, if_pos (by omega)]
      have : i + 1 + 1 - 65 + j = i + 1 := by omega
      rw [this]
  · rw [if_neg hb]
    have hb' : ¬ 65 < ms.length + 1 := by simpa using hb
    have hl : (ms ++ [(⟨nx + ((i + 1 : Nat) : Int), l⟩ : S27)]).length = ms.length + 1 := by simp
    refine ⟨by rw [hl]; omega, fun j hj => ?_⟩
    rw [hl] at hj
    rw [rd27_app, hl]
    by_cases hj2 : j < ms.length
    · rw [if_pos hj2, h.at_ j hj2]
      have : i + 1 - ms.length + j = i + 1 + 1 - (ms.length + 1) + j := by omega
      rw [this]
    · rw [if_neg hj2, if_pos (by omega)]
      have : i + 1 + 1 - (ms.length + 1) + j = i + 1 := by omega
      rw [this]
structure LongW (w : World) (pb : Nat) (D : Nat → Prop) (ms : List S27) (now : Nat) (nx : Int) (A : Option Addr) (l : List S76) (c : Nat) (W : World) : Prop where
  b : Below w.heap.size w W
  gp : w.heap.size ≤ pb
  nD : ¬ D pb
  p : PastR W D pb ms now
  m : ModW pb w.heap.size A c ⟨nx, l⟩ W
theorem LongW.below {w : World} {pb : Nat} {D : Nat → Prop} {ms : List S27} {now : Nat} {nx : Int} {A : Option Addr} {l : List S76} {c : Nat} {W W' : World} (h : LongW w pb D ms now nx A l c W) (hb : Below W.heap.size W W') : LongW w pb D ms now nx A l c W' :=
  ⟨below_step h.b hb, h.gp, h.nD, h.p.below hb, h.m.below hb⟩
theorem LongW.move {w : World} {pb : Nat} {D D' : Nat → Prop} {ms ms' : List S27} {now now' : Nat} {nx : Int} {A : Option Addr} {l : List S76} {c : Nat} {W W' : World} (h : LongW w pb D ms now nx A l c W) (hw : Wr (· = pb) W W') (hp : PastR W' D' pb ms' now') (hD : ¬ D' pb) : LongW w pb D' ms' now' nx A l c W' :=
  ⟨below_wrT h.b hw (fun k hk _ => by have := h.gp; omega), h.gp, hD, hp, h.m.wr hw⟩
theorem one_C {w : World} {g : Nat} {na : Int} {A : Option Addr} {l : List S76} {c : Nat} (hk : w.heap[g]? = some (.cells #[.int .i64 na, .slice A l.length c] 27 (0, 0))) (ha : Kd.C k76 w A l.length l) (hc : l.length ≤ c) : Kd.C k27 w (some ⟨g, 0, none⟩) 1 [⟨na, l⟩] := by
  refine ⟨rfl, by omega, fun _ => ⟨_, rfl, fun j p hj => ?_⟩⟩
  match j, hj with
  | 0, hj =>
    obtain rfl := Option.some.inj hj
    refine ⟨_, rfl, k27_mk w ⟨na, l⟩ hc ha, fun i u hu => ?_⟩
    rw [add_plain]
    match i, hu with
    | 0, hu => obtain rfl := Option.some.inj hu; exact blk_cell hk 0
    | 1, hu => obtain rfl := Option.some.inj hu; exact blk_cell hk 1
end Go.Proofs.Ytlopfkkegjajlaa
namespace Go.Proofs.Ytlopfkkegjajlaa
open Go.RowKit Go.Proofs.YtlopfkkegjajlaaW.PrintWords PHistoryTouched
theorem bl_irrefl : ∀ x : List UInt8, Op.bytesLess x x = false
  | [] => rfl
  | a :: x => by simp [Op.bytesLess, bl_irrefl x]
theorem bl_trans : ∀ x y z : List UInt8, Op.bytesLess x y = true → Op.bytesLess y z = true → Op.bytesLess x z = true
  | _, _, [], _, h => by simp [Op.bytesLess] at h
  | _, [], _ :: _, h, _ => by simp [Op.bytesLess] at h
  | [], _ :: _, _ :: _, _, _ => rfl
  | a :: x, b :: y, c :: z, h1, h2 => by
    simp only [Op.bytesLess, Bool.or_eq_true, Bool.and_eq_true, decide_eq_true_eq, beq_iff_eq, UInt8.lt_iff_toNat_lt] at h1 h2 ⊢
    rcases h1 with h1 | ⟨rfl, h1⟩
    · rcases h2 with h2 | ⟨rfl, h2⟩
      · left; omega
      · left; exact h1
    · rcases h2 with h2 | ⟨rfl, h2⟩
      · left; exact h2
      · right; exact ⟨rfl, bl_trans x y z h1 h2⟩
theorem bl_total : ∀ x y : List UInt8, Op.bytesLess x y = false → Op.bytesLess y x = false → x = y
  | [], [], _, _ => rfl
  | [], _ :: _, h, _ => by simp [Op.bytesLess] at h
  | _ :: _, [], _, h => by simp [Op.bytesLess] at h
  | a :: x, b :: y, h1, h2 => by
    simp only [Op.bytesLess, Bool.or_eq_false_iff, Bool.and_eq_false_iff, decide_eq_false_iff_not, beq_eq_false_iff_ne, UInt8.lt_iff_toNat_lt, ne_eq] at h1 h2
    have hab : a = b := UInt8.toNat_inj.1 (by omega)
    subst hab
    have h3 : Op.bytesLess x y = false := by rcases h1.2 with h | h; exact absurd rfl h; exact h
    have h4 : Op.bytesLess y x = false := by rcases h2.2 with h | h; exact absurd rfl h; exact h
    rw [bl_total x y h3 h4]
theorem ba_ext {a b : ByteArray} (h : a.toList = b.toList) : a = b := ba_eq.1 h
theorem less_irrefl (a : ByteArray) : lessB a a = false := bl_irrefl _
theorem less_trans {a b c : ByteArray} (h : lessB a b = true) (h' : lessB b c = true) : lessB a c = true := bl_trans _ _ _ h h'
theorem less_total {a b : ByteArray} (h : lessB a b = false) (h' : lessB b a = false) : a = b := ba_ext (bl_total _ _ h h')
def cmpB (a b : ByteArray) : Int := if lessB a b then -1 else if lessB b a then 1 else 0
theorem cmpB_neg (a b : ByteArray) : cmpB a b < 0 ↔ lessB a b = true := by
  unfold cmpB; split
  · simp_all
  · split <;> simp_all
theorem cmpB_zero (a b : ByteArray) : cmpB a b = 0 ↔ a = b := by
  unfold cmpB
  constructor
  · intro h
    split at h
    · omega
    · split at h
      · omega
      · exact less_total (by simp_all) (by simp_all)
  · rintro rfl
    simp [less_irrefl]
theorem compare_any (a b : ByteArray) (w : World) : Calls Try.prog 58 #[.string a, .string b] w fun e w' => e = .returned (.int .i64 (cmpB a b)) ∧ Below w.heap.size w w' := by
  have HB : Hid (Below w.heap.size w w) := Below.refl _ _
  cases hls : lessB a b with
  | true =>
    have h1 : Op.bytesLess a.toList b.toList = true := hls
    have HC : Hid (cmpB a b = -1) := by unfold cmpB; rw [hls]; exact hidm rfl
    clear hls
    go_enter Try.func58, Try.ntmps58
    go_wp2_with fail
    go_ret
    exact ⟨by rw [HC.out]; rfl, HB.out⟩
  | false =>
    have h1 : Op.bytesLess a.toList b.toList = false := hls
    cases hgs : lessB b a with
    | true =>
      have h2 : (a.toList == b.toList) = false := by
        rw [beq_eq_false_iff_ne]; intro h
        rw [ba_ext h, less_irrefl] at hgs; cases hgs
      have HC : Hid (cmpB a b = 1) := by unfold cmpB; rw [hls, hgs]; exact hidm rfl
      have h3 : (!(Op.bytesLess a.toList b.toList || a.toList == b.toList)) = true := by rw [h1, h2]; rfl
      clear hls hgs
      go_enter Try.func58, Try.ntmps58
      go_wp2_with fail
      go_ret
      exact ⟨by rw [HC.out]; rfl, HB.out⟩
    | false =>
      have h2 : (a.toList == b.toList) = true := by
        rw [less_total hls hgs]; simp
      have HC : Hid (cmpB a b = 0) := by unfold cmpB; rw [hls, hgs]; exact hidm rfl
      have h3 : (!(Op.bytesLess a.toList b.toList || a.toList == b.toList)) = false := by rw [h1, h2]; rfl
      clear hls hgs
      go_enter Try.func58, Try.ntmps58
      go_wp2_with fail
      go_ret
      exact ⟨by rw [HC.out]; rfl, HB.out⟩
theorem put1_any (a b : ByteArray) (c : Value) (d : Int) (h : Hid (cmpB a b = d)) (w : World) : Calls Try.prog 57 #[.agg #[.string a, c], .string b] w fun e w' => e = .returned (.int .i64 d) ∧ Below w.heap.size w w' := by
  have HB : Hid (Below w.heap.size w (w.alloc (.cells #[.string a, c] 82))) := below_alloc (Below.refl _ _) _
  have q0 : (w.alloc (.cells #[.string a, c] 82)).cell? ⟨w.heap.size, 0, none⟩ = some (.string a) := blk_cell (blk_new w (.cells #[.string a, c] 82)) 0
  go_enter Try.func57, Try.ntmps57
  go_wp2_with fail
  refine (compare_any a b _).mono ?_
  rintro e w' ⟨rfl, hb⟩
  have HB2 := hidm (below_step HB.out hb)
  clear hb q0
  go_wp2_with fail
  go_ret
  exact ⟨by rw [h.out]; rfl, HB2.out⟩
def PUp (ps : List S82) : Prop := ∀ i j : Nat, i < j → j < ps.length → lessB (rd_T82 ps i).f0 (rd_T82 ps j).f0 = true
structure PFound (ps : List S82) (s : ByteArray) (p : Nat) (b : Bool) : Prop where
  le : p ≤ ps.length
  yes : b = true → p < ps.length ∧ (rd_T82 ps p).f0 = s
  lo : ∀ q : Nat, q < p → lessB (rd_T82 ps q).f0 s = true
  hi : b = false → ∀ q : Nat, p ≤ q → q < ps.length → lessB s (rd_T82 ps q).f0 = true
theorem pfound_of {ps : List S82} {s : ByteArray} {p : Nat} (hu : PUp ps) (hp : p ≤ ps.length) (hlo : ∀ q : Nat, q < p → lessB (rd_T82 ps q).f0 s = true) (hhi : ∀ q : Nat, p ≤ q → q < ps.length → lessB (rd_T82 ps q).f0 s = false) {b : Bool}
    (hb : b = true ↔ p < ps.length ∧ (rd_T82 ps p).f0 = s) : PFound ps s p b := by
  refine ⟨hp, hb.1, hlo, fun hf q hq hql => ?_⟩
  have hp' : p < ps.length := by omega
  have hne : (rd_T82 ps p).f0 ≠ s := fun h => by rw [hb.2 ⟨hp', h⟩] at hf; cases hf
  have h1 : lessB s (rd_T82 ps p).f0 = true := by
    cases h2 : lessB s (rd_T82 ps p).f0 with
    | true => rfl
    | false => exact absurd (less_total (hhi p (Nat.le_refl _) hp') h2) hne
  rcases Nat.lt_or_ge p q with h | h
  · exact less_trans h1 (hu p q h hql)
  · obtain rfl : p = q := by omega
    exact h1
def PSearchPost (ps : List S82) (s : ByteArray) (w : World) (e : Ending) (w' : World) : Prop := ∃ (p : Nat) (b : Bool), e = .returned (.tuple #[.int .i64 (p : Int), .bool b]) ∧ PFound ps s p b ∧ Below w.heap.size w w'
set_option maxRecDepth 100000 in
set_option maxHeartbeats 1000000 in
theorem psearch_any (A : Option Addr) (ps : List S82) (cp : Nat) (s : ByteArray) (w : World) (hr : Kd.C k82 w A ps.length ps) (hu : PUp ps) (hl : ps.length ≤ 1048576) :
    Calls Try.prog 56 #[.slice A ps.length cp, .string s, .func (.func 57) #[] #[]] w (PSearchPost ps s w) := by
  have HR := hidm hr
  have HU := hidm hu
  clear hr hu
  go_enter Try.func56, Try.ntmps56
  go_wp2
  go_loopw [9, 10] (fun a b W => ∃ i j : Nat, i ≤ j ∧ j ≤ ps.length ∧ a = .int .i64 (i : Int) ∧ b = .int .i64 (j : Int) ∧ Hid (Below w.heap.size w W)
    ∧ Hid ((∀ q : Nat, q < i → lessB (rd_T82 ps q).f0 s = true) ∧ (∀ q : Nat, j ≤ q → q < ps.length → lessB (rd_T82 ps q).f0 s = false))) (fun a b _ => (intOf b).toNat - (intOf a).toNat)
  case atStart => exact ⟨0, ps.length, Nat.zero_le _, Nat.le_refl _, rfl, rfl, Below.refl _ _, fun q hq => by omega, fun q h1 h2 => by omega⟩
  case round =>
    obtain ⟨i, j, hij, hj, rfl, rfl, HB, HF⟩ := hrel
    by_cases hlt : i < j
    · obtain ⟨m, hm⟩ : ∃ m : Nat, (i + j) / 2 = m := ⟨_, rfl⟩
      have hm0 : i ≤ m := by omega
      have hm1 : m < j := by omega
      obtain ⟨ad, rfl, hx0, hx1⟩ := at_T82 HR.out m (by omega) (by omega)
      replace hx0 := pw_cell_below HB.out hx0
      replace hx1 := pw_cell_below HB.out hx1
      rw [show ((m : Int)).toNat = m from rfl] at hx0 hx1
      have hme : ((i : Int) + (j : Int)) / 2 = (m : Int) := by omega
      have hlt' : (i : Int) < (j : Int) := by omega
      have hm2 : (0 : Int) ≤ (m : Int) := by omega
      have hm3 : (m : Int) < (ps.length : Int) := by omega
      obtain ⟨d, HD⟩ : ∃ d, Hid (cmpB (rd_T82 ps m).f0 s = d) := ⟨_, rfl⟩
      have HN : Hid (d < 0 ↔ lessB (rd_T82 ps m).f0 s = true) := by rw [← HD.out]; exact cmpB_neg _ _
      by_cases hc : d < 0
      · have HF' : Hid ((∀ q : Nat, q < m + 1 → lessB (rd_T82 ps q).f0 s = true) ∧ (∀ q : Nat, j ≤ q → q < ps.length → lessB (rd_T82 ps q).f0 s = false)) := ⟨fun q hq => by
          have h1 := HN.out.1 hc
          rcases Nat.lt_or_ge q m with h | h
          · exact less_trans (HU.out q m h (by omega)) h1
          · obtain rfl : q = m := by omega
            exact h1, HF.out.2⟩
        clear HN HF
        go_wp2_with (first | (go_at_call 57; refine (put1_any _ _ _ d HD _).mono ?_; rintro e w' ⟨rfl, hb⟩; have HB2 : Hid (Below w.heap.size w w') := below_step HB.out hb; clear HB))
        go_roundw
        case rel => exact ⟨m + 1, j, by omega, hj, by go_num, rfl, HB2, HF'⟩
        case measure => simp [intOf]; omega
      · have HF' : Hid ((∀ q : Nat, q < i → lessB (rd_T82 ps q).f0 s = true) ∧ (∀ q : Nat, m ≤ q → q < ps.length → lessB (rd_T82 ps q).f0 s = false)) := ⟨HF.out.1, fun q hq hql => by
          have h1 : lessB (rd_T82 ps m).f0 s = false := by
            cases h : lessB (rd_T82 ps m).f0 s with
            | false => rfl
            | true => exact absurd (HN.out.2 h) hc
          rcases Nat.lt_or_ge m q with h | h
          · cases h2 : lessB (rd_T82 ps q).f0 s with
            | false => rfl
            | true => rw [less_trans (HU.out m q h hql) h2] at h1; cases h1
          · obtain rfl : m = q := by omega
            exact h1⟩
        clear HN HF
        go_wp2_with (first | (go_at_call 57; refine (put1_any _ _ _ d HD _).mono ?_; rintro e w' ⟨rfl, hb⟩; have HB2 : Hid (Below w.heap.size w w') := below_step HB.out hb; clear HB))
        go_roundw
        case rel => exact ⟨i, m, by omega, by omega, rfl, by go_num, HB2, HF'⟩
        case measure => simp [intOf]; omega
    · have hlt' : ¬ (i : Int) < (j : Int) := by omega
      by_cases hn : i < ps.length
      · obtain ⟨ad, rfl, hx0, hx1⟩ := at_T82 HR.out i (by omega) (by omega)
        replace hx0 := pw_cell_below HB.out hx0
        replace hx1 := pw_cell_below HB.out hx1
        rw [show ((i : Int)).toNat = i from rfl] at hx0 hx1
        have hn1 : (i : Int) < (ps.length : Int) := by omega
        have hn0 : (0 : Int) ≤ (i : Int) := by omega
        obtain ⟨d, HD⟩ : ∃ d, Hid (cmpB (rd_T82 ps i).f0 s = d) := ⟨_, rfl⟩
        have HQ : Hid (PFound ps s i (d == 0)) := pfound_of HU.out (by omega) HF.out.1 (fun q h1 h2 => HF.out.2 q (by omega) h2) (by
          rw [beq_iff_eq, ← HD.out, cmpB_zero]
          exact ⟨fun h => ⟨hn, h⟩, fun h => h.2⟩)
        generalize hdb : (d == 0) = b at HQ
        go_wp2_with (first | (go_at_call 57; refine (put1_any _ _ _ d HD _).mono ?_; rintro e w' ⟨rfl, hb⟩; have HB2 : Hid (Below w.heap.size w w') := below_step HB.out hb; clear HB))
        go_ret2
        exact ⟨i, b, rfl, HQ.out, HB2.out⟩
      · have HQ : Hid (PFound ps s i false) := pfound_of HU.out (by omega) HF.out.1 (fun q h1 h2 => HF.out.2 q (by omega) h2) (by simp; intro h; omega)
        have hn1 : ¬ (i : Int) < (ps.length : Int) := by omega
        go_wp2_with fail
        go_ret2
        exact ⟨i, false, rfl, HQ.out, HB.out⟩
theorem drop1_any (a : ByteArray) (c : Value) (s : ByteArray) (bx : Nat) (w : World) (hk : w.heap[bx]? = some (.cells #[.string s] 9 (0, 0))) :
    Calls Try.prog 61 #[.agg #[.string a, c], .pointer (some ⟨bx, 0, none⟩)] w fun e w' => e = .returned (.bool (tv (a = s))) ∧ Below w.heap.size w w' := by
  have HB : Hid (Below w.heap.size w (w.alloc (.cells #[.string a, c] 82))) := below_alloc (Below.refl _ _) _
  have q0 : (w.alloc (.cells #[.string a, c] 82)).cell? ⟨w.heap.size, 0, none⟩ = some (.string a) := blk_cell (blk_new w (.cells #[.string a, c] 82)) 0
  have q1 : (w.alloc (.cells #[.string a, c] 82)).cell? ⟨bx, 0, none⟩ = some (.string s) := blk_cell (blk_alloc hk _) 0
  have HE : Hid ((a.toList == s.toList) = tv (a = s)) := by
    by_cases h : a = s
    · rw [tv_yes h, h]; exact hidm (by simp)
    · rw [tv_no h]; exact hidm (by rw [beq_eq_false_iff_ne]; exact fun h' => h (ba_ext h'))
  clear hk
  go_enter Try.func61, Try.ntmps61
  go_wp2_with fail
  go_ret
  exact ⟨by rw [← HE.out]; rfl, HB.out⟩
end Go.Proofs.Ytlopfkkegjajlaa
namespace Go.Proofs.Ytlopfkkegjajlaa
open Go.RowKit Go.Proofs.YtlopfkkegjajlaaW.PrintWords PHistoryTouched
theorem wr_setRow (w : World) (g : Nat) (cs : Array Value) : Wr (· = g) w (w.setRow g cs) := ⟨rfl, rfl, rfl, by simp [World.setRow], fun k _ hn => setRow_other w g k cs hn⟩
theorem run_copyS {P : Program} (w : World) (dT sT ty elem : TypeId) (sz : Nat) (hsz0 : 0 < sz) (hu : P.underlying dT = some (.slice elem)) (hs : (P.info? elem).map (·.size) = some sz) (dp sp : Option Addr) (dLen dCap sLen sCap : Nat)
    (g off : Nat) (cur : List Value) (t : TypeId) (hg : w.heap[g]? = some (.cells cur.toArray t (0, 0))) (cs : List Value) (hn : cs.length = Nat.min sLen dLen * sz)
    (hpos : 0 < cs.length → dp = some ⟨g, off, none⟩ ∧ ∃ ad, sp = some ad ∧ ∀ j v, cs[j]? = some v → w.cell? (ad.add j) = some v)
    (hfit : off + cs.length ≤ cur.length) (h1 : ∀ v ∈ cs, v.oneCell' = true) :
    ∃ w', (Builtin.copy_ #[dT, sT] ty #[.slice dp dLen dCap, .slice sp sLen sCap]).run P w = .ok (goInt (Nat.min sLen dLen)) w' ∧ w'.heap[g]? = some (.cells (splice cur off cs).toArray t (0, 0)) ∧ Wr (· = g) w w' := by
  cases hq : P.info? elem with
  | none => simp [hq] at hs
  | some i =>
    have hi : i.size = sz := by simpa [hq] using hs
    by_cases h0 : cs.length = 0
    · obtain rfl : cs = [] := List.eq_nil_of_length_eq_zero h0
      have hm : Nat.min sLen dLen = 0 := by
        have : Nat.min sLen dLen * sz = 0 := by simpa using hn.symm
        rcases Nat.mul_eq_zero.1 this with h | h
        · exact h
        · omega
      refine ⟨w, ?_, by simpa [splice] using hg, Wr.refl _ _⟩
      cases dp <;> cases sp <;> simp [Builtin.copy_, run_underlying hu, Builtin.lenOf, Builtin.firstCells, sizeOf, typeInfo, hq, hm, storeCells, loadCells, loadCellsFrom]
    · obtain ⟨rfl, ad, rfl, hsrc⟩ := hpos (by omega)
      have hl := run_loadCells_list (P := P) w ad cs hsrc
      have hst := run_storeCells_at P g off t cs 0 cur.toArray w hg (by simpa using hfit) h1
      refine ⟨_, ?_, ?_, wr_setRow w g (splice cur off cs).toArray⟩
      · simp only [Nat.add_zero] at hst
        simp [Builtin.copy_, run_underlying hu, Builtin.lenOf, Builtin.firstCells, sizeOf, typeInfo, hq, hi, ← hn, hl, hst, splice]
      · exact setRow_heap w g _ _ t _ hg
theorem splice_two {α : Type} (Z X D : List α) (a : Nat) (h : a + X.length + D.length ≤ Z.length) : (splice (splice Z (a + X.length) D) a X).take (a + X.length + D.length) = Z.take a ++ X ++ D ∧ (splice (splice Z a X) (a + X.length) D).take (a + X.length + D.length) = Z.take a ++ X ++ D := by
  have e1 : (Z.take a).length = a := by simp; omega
  constructor
  · unfold splice
    rw [List.take_append_of_le_length (l₁ := Z.take (a + X.length)) (by simp; omega), List.take_take, Nat.min_eq_left (by omega), List.drop_append_of_le_length (by simp; omega)]
    have e2 : (Z.take (a + X.length)).drop (a + X.length) = [] := List.drop_eq_nil_of_le (by simp; omega)
    rw [e2, List.nil_append, ← List.append_assoc, ← List.append_assoc, List.take_append_of_le_length (by simp; omega)]
    exact List.take_of_length_le (by simp; omega)
  · unfold splice
    rw [← List.append_assoc (Z.take a), List.take_append_of_le_length (l₁ := Z.take a ++ X) (by simp; omega), List.take_of_length_le (l := Z.take a ++ X) (by simp; omega), ← List.append_assoc, List.take_append_of_le_length (by simp; omega)]
    exact List.take_of_length_le (by simp; omega)
def InsPost (base e sz : Nat) (v : Value) (n : Nat) (ys : List Value) (W : World) (en : Ending) (w' : World) : Prop :=
  ∃ v', en = .returned v' ∧ w'.ownsRow base e sz v' (n + 1) ys ∧ Wr (fun k => v.ownBlock = some k) W w' ∧ (v'.ownBlock = v.ownBlock ∨ ∃ b, v'.ownBlock = some b ∧ W.heap.size ≤ b)
theorem ins_at {base e sz g n c i : Nat} {cur xc R : List Value} {W w' : World} {v : Value} {b cap : Nat} (hv : v = .slice (some ⟨g, 0, none⟩) n c) (hb : base ≤ b) (hat : b = g ∨ W.heap.size ≤ b) (hm : cap ≤ maxLen) (hn : n + 1 ≤ cap) (hR : w'.heap[b]? = some (.cells R.toArray e (0, 0))) (hRl : R.length = cap * sz)
    (hi : i ≤ n) (hRt : R.take ((n + 1) * sz) = cur.take (i * sz) ++ xc ++ (cur.drop (i * sz)).take ((n - i) * sz)) (hw : Wr (· = g) W w') :
    InsPost base e sz v n ((cur.take (n * sz)).take (i * sz) ++ xc ++ (cur.take (n * sz)).drop (i * sz)) W (.returned (.slice (some ⟨b, 0, none⟩) (n + 1 : Nat) cap)) w' := by
  have h1 : i * sz ≤ n * sz := Nat.mul_le_mul_right _ hi
  have e1 : (cur.take (n * sz)).take (i * sz) = cur.take (i * sz) := by rw [List.take_take, Nat.min_eq_left h1]
  have e2 : (cur.take (n * sz)).drop (i * sz) = (cur.drop (i * sz)).take ((n - i) * sz) := by rw [List.drop_take, Nat.sub_mul]
  have h2 : (n + 1) * sz ≤ cap * sz := Nat.mul_le_mul_right _ hn
  rw [e1, e2, ← hRt]
  refine ⟨_, rfl, ⟨by rw [List.length_take, hRl]; exact Nat.min_eq_left h2, .inr ⟨b, cap, R.toArray, rfl, hb, hR, hn, hm, by simpa using hRl, by simp⟩⟩, hw.mono (fun k _ hk => by subst hk; rw [hv]; rfl), ?_⟩
  rcases hat with rfl | hat
  · exact .inl (by rw [hv]; rfl)
  · exact .inr ⟨b, rfl, hat⟩
theorem alloc_wr (w : World) (o : Obj) (S : Nat → Prop) : Wr S w (w.alloc o) := Wr.of_below (below_alloc (Below.refl _ _) _)
theorem drew_wr (w : World) (S : Nat → Prop) : Wr S w w.drew := ⟨rfl, rfl, rfl, Nat.le_refl _, fun _ _ _ => rfl⟩
set_option maxRecDepth 100000 in
set_option maxHeartbeats 4000000 in
theorem insProps_shift (g n c i vb : Nat) (cur xc D : List Value) (w : World) (hi : i < n) (hc : n + 1 ≤ c) (hm : c ≤ maxLen) (hg : w.heap[g]? = some (.cells cur.toArray 82 (0, 0))) (hcl : cur.length = c * 2)
    (hD : D = (cur.drop (i * 2)).take ((n - i) * 2)) (hD1 : ∀ u ∈ D, u.oneCell' = true) (hv : w.heap[vb]? = some (.cells xc.toArray 82 (0, 0))) (hxl : xc.length = 2) (hx1 : ∀ u ∈ xc, u.oneCell' = true) (hne : vb ≠ g) :
    Calls Try.prog 59 #[.slice (some ⟨g, 0, none⟩) n c, .int .i64 i, .slice (some ⟨vb, 0, none⟩) 1 1] w fun e w' =>
      e = .returned (.slice (some ⟨g, 0, none⟩) (n + 1 : Nat) c) ∧ w'.heap[g]? = some (.cells (splice (splice cur ((i + 1) * 2) D) (i * 2) xc).toArray 82 (0, 0)) ∧ Wr (· = g) w w' := by
  have hDl : D.length = (n - i) * 2 := by rw [hD]; simp; omega
  have hDg : ∀ (j : Nat) (u : Value), D[j]? = some u → cur[i * 2 + j]? = some u := fun j u hj => by
    rw [hD, List.getElem?_take] at hj
    split at hj
    · rwa [List.getElem?_drop] at hj
    · cases hj
  have hmL : maxLen ≤ 9223372036854775807 := by unfold maxLen; omega
  have hsz : (Try.prog.info? 82).map (·.size) = some 2 := by kernel_rfl
  have hov : ∀ lb cb, (callFunc 77 #[.slice (some ⟨vb, 0, none⟩) 1 1, .slice (some ⟨g, (i + 1) * 2, none⟩) lb cb]).run Try.prog w = .ok (.value (.bool false)) w := fun lb cb => by
    rw [run_callFunc_extern Try.func77 (by kernel_rfl) (by kernel_rfl) (by kernel_rfl) (e := Extern.SlicesOverlaps.overlaps #[73, 73] #[4]) (by kernel_rfl),
      Lib.run_overlaps_apart w 73 4 82 Try.underlying73 2 (fun w => rfl) ⟨vb, 0, none⟩ ⟨g, (i + 1) * 2, none⟩ 1 1 lb cb hne 82 82 2 (c * 2) (by simp [World.shape?, hv, hxl]) (by simp [World.shape?, hg, hcl]) (by omega) (by simp [World.frozen?, hv]) (by simp [World.frozen?, hv])]
    rfl
  have hz1 : ¬ ((1 : Int) = 0) := by omega
  have hz2 : ¬ ((i : Int) = (n : Int)) := by omega
  have hw0 : IntKind.i64.wrap ((n : Int) + 1) = ((n + 1 : Nat) : Int) := by rw [IntKind.wrap_i64]; omega
  have hw1 : IntKind.i64.wrap ((i : Int) + 1) = ((i + 1 : Nat) : Int) := by rw [IntKind.wrap_i64]; omega
  have hb0 : ¬ ((c : Int) < ((n + 1 : Nat) : Int)) := by omega
  have hin : i ≤ n := by omega
  have hb2 : ¬ (c = i + 1) := by omega
  have hb3 : i ≤ n + 1 := by omega
  have hb8 : (i : Int) ≤ (n : Int) + 1 := by omega
  have hb9 : (i : Int) + 1 ≤ (n : Int) + 1 := by omega
  have hb4 : ¬ (c = i) := by omega
  have hb5 : i + 1 ≤ n + 1 := by omega
  have hb6 : n + 1 ≤ c := hc
  have hb7 : (0 : Int) ≤ (i : Int) + 1 := by omega
  have mixed : Try.prog.follows .mixedOrders = true := by kernel_rfl
  go_enter Try.func59, Try.ntmps59
  go_wp2_with (simp only [hov])
  obtain ⟨W1, hr1, hg1, hW1⟩ := run_copyS (P := Try.prog) w.drew 73 73 3 82 2 (by omega) Try.underlying73 hsz (some ⟨g, (i + 1) * 2, none⟩) (some ⟨g, (i) * 2, none⟩) (n - i) (c - (i + 1)) (n + 1 - i) (c - i) g ((i + 1) * 2) cur 82 hg D
    (by rw [hDl]; congr 1; simp only [Nat.min_def]; split <;> omega) (fun _ => ⟨by simp, ⟨g, (i) * 2, none⟩, rfl, fun j u hj => by
      have h2 : w.heap[g]? = some (.cells cur.toArray 82 (0, 0)) := hg
      rw [Addr.add_lit]
      show w.cell? _ = _
      rw [blk_cell h2]
      simpa using hDg j u hj⟩) (by rw [hDl, hcl, ← Nat.add_mul]; exact Nat.mul_le_mul_right _ (by omega)) hD1
  have HG1 := hidm hg1
  have HW1 : Hid (Wr (· = g) w W1) := (drew_wr w (· = g)).trans hW1 (fun _ _ h => h)
  have hlen1 : (splice cur ((i + 1) * 2) D).length = c * 2 := by rw [length_splice _ _ _ (by rw [hDl, hcl, ← Nat.add_mul]; exact Nat.mul_le_mul_right _ (by omega)), hcl]
  obtain ⟨W2, hr2, hg2, hW2⟩ := run_copyS (P := Try.prog) W1 73 73 3 82 2 (by omega) Try.underlying73 hsz (some ⟨g, (i) * 2, none⟩) (some ⟨vb, 0, none⟩) (n + 1 - i) (c - i) 1 1 g (i * 2) (splice cur ((i + 1) * 2) D) 82 hg1 xc
    (by rw [hxl, show Nat.min 1 (n + 1 - i) = 1 from by simp only [Nat.min_def]; split <;> omega]) (fun _ => ⟨by simp, ⟨vb, 0, none⟩, rfl, fun j u hj => by
      have h2 : W1.heap[vb]? = some (.cells xc.toArray 82 (0, 0)) := (HW1.out.block vb (blk_lt hv) hne).trans hv
      rw [Addr.add_lit, blk_cell h2]
      simpa using hj⟩) (by rw [hlen1, hxl]; have := Nat.mul_le_mul_right 2 (show i + 1 ≤ c from by omega); rw [Nat.add_mul] at this; omega) hx1
  have HG2 := hidm hg2
  have HW2 : Hid (Wr (· = g) w W2) := HW1.out.trans hW2 (fun _ _ h => h)
  clear hg1 hW1 hg2 hW2 hlen1 hg hv HG1 HW1
  go_region_law_o (refine step_copy_runI rfl _ _ 73 73 rfl _ _ (by simp [Act.eval, Act.put]) (by simp [Act.eval, Act.put]) hr1 ?_)
  go_wp2_with (at_builtin; refine wpList_copy_runI _ rfl _ _ 73 73 rfl _ _ rfl rfl hr2 ?_)
  go_ret
  exact ⟨rfl, HG2.out, HW2.out⟩
set_option maxRecDepth 100000 in
set_option maxHeartbeats 4000000 in
theorem insProps_grow (g n i vb : Nat) (cur xc D : List Value) (w : World) (hi : i < n) (hl : (n + 1) * 32 ≤ 140737488355328) (hg : w.heap[g]? = some (.cells cur.toArray 82 (0, 0))) (hcl : cur.length = n * 2)
    (hD : D = (cur.drop (i * 2)).take ((n - i) * 2)) (hD1 : ∀ u ∈ D, u.oneCell' = true) (hv : w.heap[vb]? = some (.cells xc.toArray 82 (0, 0))) (hxl : xc.length = 2) (hx1 : ∀ u ∈ xc, u.oneCell' = true) :
    Calls Try.prog 59 #[.slice (some ⟨g, 0, none⟩) n n, .int .i64 i, .slice (some ⟨vb, 0, none⟩) 1 1] w fun e w' => ∃ (G : Nat) (R : List Value), e = .returned (.slice (some ⟨w.heap.size, 0, none⟩) (n + 1 : Nat) G) ∧ w'.heap[w.heap.size]? = some (.cells R.toArray 82 (0, 0)) ∧ n + 1 ≤ G ∧ G ≤ maxLen ∧ R.length = G * 2 ∧ R.take ((n + 1) * 2) = cur.take (i * 2) ++ xc ++ D ∧ Wr (· = g) w w' := by
  have hDl : D.length = (n - i) * 2 := by rw [hD]; simp; omega
  have hDg : ∀ (j : Nat) (u : Value), D[j]? = some u → cur[i * 2 + j]? = some u := fun j u hj => by
    rw [hD, List.getElem?_take] at hj
    split at hj
    · rwa [List.getElem?_drop] at hj
    · cases hj
  have hsz : (Try.prog.info? 82).map (·.size) = some 2 := by kernel_rfl
  obtain ⟨i0, hi0, hzz⟩ := Option.map_eq_some_iff.1 info82
  simp only [Prod.mk.injEq] at hzz
  obtain ⟨hz0, hzs, hzb⟩ := hzz
  have hzs' : i0.size = 2 := hzs
  have hgw := blk_lt hg
  have hvw := blk_lt hv
  have hkk : (n : Int) + 1 - (i : Int) = ((n + 1 - i : Nat) : Int) := by omega
  have hik : i + (n + 1 - i) = n + 1 := by omega
  have hold : (Builtin.firstCells i0.size i (.slice (some ⟨g, 0, none⟩) i n)).run Try.prog w.drew = .ok (cur.take (i * 2)).toArray w.drew := by
    rw [hzs']
    exact run_firstCells_some w.drew 2 i ⟨g, 0, none⟩ i n (cur.take (i * 2)) (by rw [List.length_take, hcl]; exact Nat.min_eq_left (Nat.mul_le_mul_right _ (by omega))) (fun j u hj => by
      rw [Addr.add_lit]
      rw [List.getElem?_take] at hj
      split at hj
      · show w.cell? _ = _
        rw [blk_cell hg]; simpa using hj
      · cases hj)
  have hrz : ∀ ty, (Builtin.append_ #[73, 3] ty #[.slice (some ⟨g, 0, none⟩) i n, .int .i64 ((n : Int) + 1 - (i : Int))]).run Try.prog w =
      .ok (.slice (some ⟨w.heap.size, 0, none⟩) (n + 1 : Nat) (grownCap w (n + 1) n 82)) (w.drew.alloc (.cells ((cur.take (i * 2)).toArray ++ Builtin.zeroCells (Value.cells (.agg #[.string ⟨#[]⟩, .string ⟨#[]⟩])) (n + 1 - i) ++ Builtin.zeroCells (Value.cells (.agg #[.string ⟨#[]⟩, .string ⟨#[]⟩])) (grownCap w (n + 1) n 82 - (n + 1))) 82)) := fun ty => by
    have h := Lib.run_append_grow_zeros w 73 3 ty 82 i0 _ .i64 .i64 Try.underlying73 Try.underlying3 hi0 hz0 (some ⟨g, 0, none⟩) i n (cur.take (i * 2)).toArray.toList (by simpa using hold) (n + 1 - i) (by omega) (by rw [hzs']; omega) (by omega) (by omega) (by rw [hzb]; have := Nat.mul_le_mul_right 32 (show n + 1 - i ≤ n + 1 from by omega); omega) (by rw [hzb, hik]; exact growslice_fits (by omega) hl)
    rw [hik] at h
    rw [hkk]
    simpa using h
  obtain ⟨G, hG⟩ : ∃ G, G = grownCap w (n + 1) n 82 := ⟨_, rfl⟩
  have hGn : n + 1 ≤ G := by rw [hG]; exact grownCap_ge w _ _ _
  have hGm : G ≤ maxLen := by rw [hG]; exact grownCap_le_maxLen w (n + 1) n 82 (by unfold maxLen; omega)
  obtain ⟨ROW, hROW⟩ : ∃ ROW : List Value, ROW = ((cur.take (i * 2)).toArray ++ Builtin.zeroCells (Value.cells (.agg #[.string ⟨#[]⟩, .string ⟨#[]⟩])) (n + 1 - i) ++ Builtin.zeroCells (Value.cells (.agg #[.string ⟨#[]⟩, .string ⟨#[]⟩])) (G - (n + 1))).toList := ⟨_, rfl⟩
  have hRA : (cur.take (i * 2)).toArray ++ Builtin.zeroCells (Value.cells (.agg #[.string ⟨#[]⟩, .string ⟨#[]⟩])) (n + 1 - i) ++ Builtin.zeroCells (Value.cells (.agg #[.string ⟨#[]⟩, .string ⟨#[]⟩])) (G - (n + 1)) = ROW.toArray := by rw [hROW]
  rw [← hG, hRA] at hrz
  have hRl : ROW.length = G * 2 := by
    rw [hROW]
    simp [Builtin.zeroCells, Value.cells, hcl]
    omega
  have hRt : ROW.take (i * 2) = cur.take (i * 2) := by
    rw [hROW]
    simp only [Array.toList_append, List.append_assoc]
    rw [List.take_append_of_le_length (by simp [hcl]; omega)]
    exact List.take_of_length_le (by simp; omega)
  obtain ⟨W1, hW1⟩ : ∃ W1, W1 = w.drew.alloc (.cells ROW.toArray 82) := ⟨_, rfl⟩
  rw [← hW1] at hrz
  have k1 : W1.heap[w.heap.size]? = some (.cells ROW.toArray 82 (0, 0)) := by rw [hW1]; exact blk_new w.drew _
  have kg : W1.heap[g]? = some (.cells cur.toArray 82 (0, 0)) := by rw [hW1]; exact blk_alloc (w := w.drew) hg _
  have kv : W1.heap[vb]? = some (.cells xc.toArray 82 (0, 0)) := by rw [hW1]; exact blk_alloc (w := w.drew) hv _
  have hWW1 : Wr (· = g) w W1 := by rw [hW1]; exact (drew_wr w (· = g)).trans (alloc_wr _ _ (· = g)) (fun _ _ h => h)
  have hsplit : i * 2 + xc.length + D.length = (n + 1) * 2 := by rw [hxl, hDl]; omega
  have hfit : (n + 1) * 2 ≤ ROW.length := by rw [hRl]; exact Nat.mul_le_mul_right _ hGn
  obtain ⟨W2, hr2, hg2, hW2⟩ := run_copyS (P := Try.prog) W1 73 73 3 82 2 (by omega) Try.underlying73 hsz (some ⟨w.heap.size, (i) * 2, none⟩) (some ⟨vb, 0, none⟩) (n + 1 - i) (G - i) 1 1 w.heap.size (i * 2) ROW 82 k1 xc
    (by rw [hxl, show Nat.min 1 (n + 1 - i) = 1 from by simp only [Nat.min_def]; split <;> omega]) (fun _ => ⟨by simp, ⟨vb, 0, none⟩, rfl, fun j u hj => by
      rw [Addr.add_lit, blk_cell kv]
      simpa using hj⟩) (by omega) hx1
  have kg2 : W2.heap[g]? = some (.cells cur.toArray 82 (0, 0)) := (hW2.block g (blk_lt kg) (by omega)).trans kg
  have hlen2 : (splice ROW (i * 2) xc).length = ROW.length := length_splice _ _ _ (by omega)
  obtain ⟨W3, hr3, hg3, hW3⟩ := run_copyS (P := Try.prog) W2.drew 73 73 3 82 2 (by omega) Try.underlying73 hsz (some ⟨w.heap.size, (i + 1) * 2, none⟩) (some ⟨g, (i) * 2, none⟩) (n - i) (G - (i + 1)) (n - i) (n - i) w.heap.size (i * 2 + xc.length) (splice ROW (i * 2) xc) 82 hg2 D
    (by rw [hDl]; congr 1; simp only [Nat.min_def]; split <;> omega) (fun _ => ⟨by rw [hxl]; simp only [Option.some.injEq, Addr.mk.injEq, true_and, and_true]; omega, ⟨g, (i) * 2, none⟩, rfl, fun j u hj => by
      rw [Addr.add_lit]
      show W2.cell? _ = _
      rw [blk_cell kg2]
      simpa using hDg j u hj⟩) (by rw [hlen2]; omega) hD1
  have HG3 : Hid (W3.heap[w.heap.size]? = some (.cells (splice (splice ROW (i * 2) xc) (i * 2 + xc.length) D).toArray 82 (0, 0))) := hg3
  have HL3 : Hid ((splice (splice ROW (i * 2) xc) (i * 2 + xc.length) D).length = G * 2 ∧ (splice (splice ROW (i * 2) xc) (i * 2 + xc.length) D).take ((n + 1) * 2) = cur.take (i * 2) ++ xc ++ D) := by
    refine ⟨by rw [length_splice _ _ _ (by rw [hlen2]; omega), hlen2, hRl], ?_⟩
    rw [← hsplit, (splice_two ROW xc D (i * 2) (by omega)).2, hRt]
  have HW3 : Hid (Wr (· = g) w W3) := by
    have h3 : Wr (· = w.heap.size) W1 W3 := hW2.trans ((drew_wr W2 (· = w.heap.size)).trans hW3 (fun _ _ h => h)) (fun _ _ h => h)
    exact hWW1.trans h3 (fun k hk e => by subst e; omega)
  generalize splice (splice ROW (i * 2) xc) (i * 2 + xc.length) D = R at HG3 HL3
  have hGL := hidm hGm
  have hz1 : ¬ ((1 : Int) = 0) := by omega
  have hz2 : ¬ ((i : Int) = (n : Int)) := by omega
  have hw0 : IntKind.i64.wrap ((n : Int) + 1) = ((n + 1 : Nat) : Int) := by rw [IntKind.wrap_i64]; omega
  have hw1 : IntKind.i64.wrap ((i : Int) + 1) = ((i + 1 : Nat) : Int) := by rw [IntKind.wrap_i64]; omega
  have hb0 : (n : Int) < ((n + 1 : Nat) : Int) := by omega
  have hin : i ≤ n := by omega
  have hb2 : ¬ (G = i + 1) := by omega
  have hb3 : i ≤ n + 1 := by omega
  have hb8 : (i : Int) ≤ (n : Int) + 1 := by omega
  have hb9 : (i : Int) + 1 ≤ (n : Int) + 1 := by omega
  have hb4 : ¬ (G = i) := by omega
  have hb5 : i + 1 ≤ n + 1 := by omega
  have hb6 : ¬ (n = i) := by omega
  have hb7 : (0 : Int) ≤ (i : Int) + 1 := by omega
  have hmL : maxLen ≤ 9223372036854775807 := by unfold maxLen; omega
  have mixed : Try.prog.follows .mixedOrders = true := by kernel_rfl
  have HX : Hid (n + 1 ≤ G) := hGn
  clear hkk hik hold hROW hRA hRl hRt hG hW1 k1 kg kv hWW1 hsplit hfit hg2 hW2 kg2 hlen2 hg3 hW3 hD hDl hDg hcl hxl hg hv hzs hzs' hzb hz0 hi0 hD1 hx1
  go_enter Try.func59, Try.ntmps59
  go_wp2_with (first
    | (at_builtin; refine Lib.wpList_append_run _ rfl _ _ _ _ rfl _ _ rfl rfl _ _ (hrz _) ?_)
    | (at_builtin; refine wpList_copy_runI _ rfl _ _ 73 73 rfl _ _ rfl rfl hr2 ?_))
  go_region_law_o (refine step_copy_runI rfl _ _ 73 73 rfl _ _ (by simp [Act.eval, Act.put]) (by simp [Act.eval, Act.put]) hr3 ?_)
  go_wp2
  go_ret
  exact ⟨G, R, rfl, HG3.out, HX.out, hGL.out, HL3.out.1, HL3.out.2, HW3.out⟩
set_option maxRecDepth 100000 in
set_option maxHeartbeats 4000000 in
theorem insProps_any (base : Nat) (v : Value) (n i : Nat) (ys xc : List Value) (W : World) (HO : W.ownsRow base 82 2 v n ys) (hb : base ≤ W.heap.size) (hi : i ≤ n) (hn : n ≤ 1048576) (hxl : xc.length = 2) (hx1 : ∀ u ∈ xc, u.oneCell' = true) (hy1 : ∀ u ∈ ys, u.oneCell' = true) :
    Calls Try.prog 59 #[v, .int .i64 i, .slice (some ⟨W.heap.size, 0, none⟩) 1 1] (W.alloc (.cells xc.toArray 82)) (InsPost base 82 2 v n (ys.take (i * 2) ++ xc ++ ys.drop (i * 2)) W) := by
  rcases Nat.lt_or_ge i n with hlt | hge
  · rcases HO.2 with ⟨_, rfl⟩ | ⟨g, c, cur, rfl, hg, hh, hnc, hm, hsz, rfl⟩
    · omega
    · have hh' : W.heap[g]? = some (.cells cur.toList.toArray 82 (0, 0)) := by simpa using hh
      have kg : (W.alloc (.cells xc.toArray 82)).heap[g]? = some (.cells cur.toList.toArray 82 (0, 0)) := blk_alloc hh' _
      have kv : (W.alloc (.cells xc.toArray 82)).heap[W.heap.size]? = some (.cells xc.toArray 82 (0, 0)) := blk_new W _
      have hgl := blk_lt hh
      have hcl : cur.toList.length = c * 2 := by simpa using hsz
      have hD1 : ∀ u ∈ (cur.toList.drop (i * 2)).take ((n - i) * 2), u.oneCell' = true := fun u hu => hy1 u (by
        have e : (cur.toList.take (n * 2)).drop (i * 2) = (cur.toList.drop (i * 2)).take ((n - i) * 2) := by rw [List.drop_take, Nat.sub_mul]
        rw [← e] at hu
        exact List.mem_of_mem_drop hu)
      have hDl : ((cur.toList.drop (i * 2)).take ((n - i) * 2)).length = (n - i) * 2 := by
        rw [List.length_take, List.length_drop, hcl, ← Nat.sub_mul]
        exact Nat.min_eq_left (Nat.mul_le_mul_right _ (by omega))
      have hsum : i * 2 + xc.length + ((cur.toList.drop (i * 2)).take ((n - i) * 2)).length = (n + 1) * 2 := by rw [hxl, hDl]; omega
      rcases Nat.lt_or_ge n c with h1 | h1
      · refine (insProps_shift g n c i W.heap.size cur.toList xc _ (W.alloc (.cells xc.toArray 82)) hlt h1 hm kg hcl rfl hD1 kv hxl hx1 (by omega)).mono ?_
        rintro e w' ⟨rfl, hg', hw'⟩
        have hfit : i * 2 + xc.length + ((cur.toList.drop (i * 2)).take ((n - i) * 2)).length ≤ cur.toList.length := by rw [hsum, hcl]; exact Nat.mul_le_mul_right _ h1
        have hl1 : (i + 1) * 2 = i * 2 + xc.length := by rw [hxl]; omega
        rw [hl1] at hg'
        refine ins_at rfl hg (.inl rfl) hm h1 hg' ?_ hi ?_ ((alloc_wr W _ _).trans hw' (fun _ _ h => h))
        · rw [length_splice _ _ _ (by rw [length_splice _ _ _ hfit]; omega), length_splice _ _ _ hfit, hcl]
        · rw [← hsum]; exact (splice_two cur.toList xc _ (i * 2) hfit).1
      · obtain rfl : c = n := by omega
        refine (insProps_grow g c i W.heap.size cur.toList xc _ (W.alloc (.cells xc.toArray 82)) hlt (by omega) kg hcl rfl hD1 kv hxl hx1).mono ?_
        rintro e w' ⟨G, R, rfl, hg', h2, h3, h4, h5, hw'⟩
        exact ins_at rfl (b := (W.alloc (.cells xc.toArray 82)).heap.size) (by simp; omega) (.inr (by simp)) h3 h2 hg' h4 hi h5 ((alloc_wr W _ _).trans hw' (fun _ _ h => h))
  · obtain rfl : i = n := by omega
    have hyl := HO.1
    have e1 : ys.take (i * 2) ++ xc ++ ys.drop (i * 2) = ys ++ xc := by rw [List.take_of_length_le (by omega), List.drop_eq_nil_of_le (by omega), List.append_nil]
    rw [e1]
    clear e1
    obtain ⟨Y, hY⟩ : ∃ Y, Y = ys ++ xc := ⟨_, rfl⟩
    have HOO := hidm HO
    have HYY := hidm hY
    rw [← hY]
    have hv : ∃ A c, v = .slice A i c ∧ i ≤ c := by
      rcases HO.2 with ⟨rfl, rfl⟩ | ⟨g, c, cur, rfl, _, _, hc, _⟩
      · exact ⟨none, 0, rfl, Nat.le_refl _⟩
      · exact ⟨_, c, rfl, hc⟩
    obtain ⟨A, c, rfl, hc⟩ := hv
    have hz1 : ¬ ((1 : Int) = 0) := by omega
    clear HO hY hyl
    have HX1 := hidm hx1
    clear hx1 hy1
    by_cases hci : c = i
    all_goals
      (first | subst c | skip)
      go_enter Try.func59, Try.ntmps59
      go_wp2_with (at_builtin; refine print_append_cells (w0 := W) base rfl (.tmp 23) (.tmp 24) 73 82 (.agg #[.string ⟨#[]⟩, .string ⟨#[]⟩]) 2 32 rfl Try.underlying73 info82 rfl (by decide) (by decide) _ i ys xc rfl rfl hxl HX1.out HOO.out (Below.refl _ _) hb (by omega) (fun v1 w1 ho1 hb1 hg1 hat1 => ?_); have HP : Hid (InsPost base 82 2 (.slice A i _) i Y W (.returned v1) w1) := ⟨v1, rfl, by rw [HYY.out]; exact ho1, ⟨hb1.os, hb1.tape, hb1.output, hg1.size, fun k hk hn => hg1.block k hk (fun e => hn e.symm)⟩, hat1⟩; clear ho1 hb1 hg1 hat1)
      go_ret
      exact HP.out
set_option maxRecDepth 100000 in
set_option maxHeartbeats 4000000 in
theorem insInts_shift (g n c i vb : Nat) (cur xc D : List Value) (w : World) (hi : i < n) (hc : n + 1 ≤ c) (hm : c ≤ maxLen) (hg : w.heap[g]? = some (.cells cur.toArray 3 (0, 0))) (hcl : cur.length = c * 1)
    (hD : D = (cur.drop (i * 1)).take ((n - i) * 1)) (hD1 : ∀ u ∈ D, u.oneCell' = true) (hv : w.heap[vb]? = some (.cells xc.toArray 3 (0, 0))) (hxl : xc.length = 1) (hx1 : ∀ u ∈ xc, u.oneCell' = true) (hne : vb ≠ g) :
    Calls Try.prog 82 #[.slice (some ⟨g, 0, none⟩) n c, .int .i64 i, .slice (some ⟨vb, 0, none⟩) 1 1] w fun e w' =>
      e = .returned (.slice (some ⟨g, 0, none⟩) (n + 1 : Nat) c) ∧ w'.heap[g]? = some (.cells (splice (splice cur ((i + 1) * 1) D) (i * 1) xc).toArray 3 (0, 0)) ∧ Wr (· = g) w w' := by
  have hDl : D.length = (n - i) * 1 := by rw [hD]; simp; omega
  have hDg : ∀ (j : Nat) (u : Value), D[j]? = some u → cur[i * 1 + j]? = some u := fun j u hj => by
    rw [hD, List.getElem?_take] at hj
    split at hj
    · rwa [List.getElem?_drop] at hj
    · cases hj
  have hmL : maxLen ≤ 9223372036854775807 := by unfold maxLen; omega
  have hsz : (Try.prog.info? 3).map (·.size) = some 1 := by kernel_rfl
  have hov : ∀ lb cb, (callFunc 101 #[.slice (some ⟨vb, 0, none⟩) 1 1, .slice (some ⟨g, i + 1, none⟩) lb cb]).run Try.prog w = .ok (.value (.bool false)) w := fun lb cb => by
    rw [run_callFunc_extern Try.func101 (by kernel_rfl) (by kernel_rfl) (by kernel_rfl) (e := Extern.SlicesOverlaps.overlaps #[54, 54] #[4]) (by kernel_rfl),
      Lib.run_overlaps_apart w 54 4 3 Try.underlying54 1 (fun w => rfl) ⟨vb, 0, none⟩ ⟨g, i + 1, none⟩ 1 1 lb cb hne 3 3 1 (c * 1) (by simp [World.shape?, hv, hxl]) (by simp [World.shape?, hg, hcl]) (by omega) (by simp [World.frozen?, hv]) (by simp [World.frozen?, hv])]
    rfl
  have hz1 : ¬ ((1 : Int) = 0) := by omega
  have hz2 : ¬ ((i : Int) = (n : Int)) := by omega
  have hw0 : IntKind.i64.wrap ((n : Int) + 1) = ((n + 1 : Nat) : Int) := by rw [IntKind.wrap_i64]; omega
  have hw1 : IntKind.i64.wrap ((i : Int) + 1) = ((i + 1 : Nat) : Int) := by rw [IntKind.wrap_i64]; omega
  have hb0 : ¬ ((c : Int) < ((n + 1 : Nat) : Int)) := by omega
  have hin : i ≤ n := by omega
  have hb2 : ¬ (c = i + 1) := by omega
  have hb3 : i ≤ n + 1 := by omega
  have hb8 : (i : Int) ≤ (n : Int) + 1 := by omega
  have hb9 : (i : Int) + 1 ≤ (n : Int) + 1 := by omega
  have hb4 : ¬ (c = i) := by omega
  have hb5 : i + 1 ≤ n + 1 := by omega
  have hb6 : n + 1 ≤ c := hc
  have hb7 : (0 : Int) ≤ (i : Int) + 1 := by omega
  have mixed : Try.prog.follows .mixedOrders = true := by kernel_rfl
  go_enter Try.func82, Try.ntmps82
  go_wp2_with (simp only [hov])
  obtain ⟨W1, hr1, hg1, hW1⟩ := run_copyS (P := Try.prog) w.drew 54 54 3 3 1 (by omega) Try.underlying54 hsz (some ⟨g, i + 1, none⟩) (some ⟨g, i, none⟩) (n - i) (c - (i + 1)) (n + 1 - i) (c - i) g ((i + 1) * 1) cur 3 hg D
    (by rw [hDl]; congr 1; simp only [Nat.min_def]; split <;> omega) (fun _ => ⟨by simp, ⟨g, i, none⟩, rfl, fun j u hj => by
      have h2 : w.heap[g]? = some (.cells cur.toArray 3 (0, 0)) := hg
      rw [Addr.add_lit]
      show w.cell? _ = _
      rw [blk_cell h2]
      simpa using hDg j u hj⟩) (by rw [hDl, hcl, ← Nat.add_mul]; exact Nat.mul_le_mul_right _ (by omega)) hD1
  have HG1 := hidm hg1
  have HW1 : Hid (Wr (· = g) w W1) := (drew_wr w (· = g)).trans hW1 (fun _ _ h => h)
  have hlen1 : (splice cur ((i + 1) * 1) D).length = c * 1 := by rw [length_splice _ _ _ (by rw [hDl, hcl, ← Nat.add_mul]; exact Nat.mul_le_mul_right _ (by omega)), hcl]
  obtain ⟨W2, hr2, hg2, hW2⟩ := run_copyS (P := Try.prog) W1 54 54 3 3 1 (by omega) Try.underlying54 hsz (some ⟨g, i, none⟩) (some ⟨vb, 0, none⟩) (n + 1 - i) (c - i) 1 1 g (i * 1) (splice cur ((i + 1) * 1) D) 3 hg1 xc
    (by rw [hxl, show Nat.min 1 (n + 1 - i) = 1 from by simp only [Nat.min_def]; split <;> omega]) (fun _ => ⟨by simp, ⟨vb, 0, none⟩, rfl, fun j u hj => by
      have h2 : W1.heap[vb]? = some (.cells xc.toArray 3 (0, 0)) := (HW1.out.block vb (blk_lt hv) hne).trans hv
      rw [Addr.add_lit, blk_cell h2]
      simpa using hj⟩) (by rw [hlen1, hxl]; have := Nat.mul_le_mul_right 1 (show i + 1 ≤ c from by omega); rw [Nat.add_mul] at this; omega) hx1
  have HG2 := hidm hg2
  have HW2 : Hid (Wr (· = g) w W2) := HW1.out.trans hW2 (fun _ _ h => h)
  clear hg1 hW1 hg2 hW2 hlen1 hg hv HG1 HW1
  go_region_law_o (refine step_copy_runI rfl _ _ 54 54 rfl _ _ (by simp [Act.eval, Act.put]) (by simp [Act.eval, Act.put]) hr1 ?_)
  go_wp2_with (at_builtin; refine wpList_copy_runI _ rfl _ _ 54 54 rfl _ _ rfl rfl hr2 ?_)
  go_ret
  exact ⟨rfl, HG2.out, HW2.out⟩
set_option maxRecDepth 100000 in
set_option maxHeartbeats 4000000 in
theorem insInts_grow (g n i vb : Nat) (cur xc D : List Value) (w : World) (hi : i < n) (hl : (n + 1) * 8 ≤ 140737488355328) (hg : w.heap[g]? = some (.cells cur.toArray 3 (0, 0))) (hcl : cur.length = n * 1)
    (hD : D = (cur.drop (i * 1)).take ((n - i) * 1)) (hD1 : ∀ u ∈ D, u.oneCell' = true) (hv : w.heap[vb]? = some (.cells xc.toArray 3 (0, 0))) (hxl : xc.length = 1) (hx1 : ∀ u ∈ xc, u.oneCell' = true) :
    Calls Try.prog 82 #[.slice (some ⟨g, 0, none⟩) n n, .int .i64 i, .slice (some ⟨vb, 0, none⟩) 1 1] w fun e w' => ∃ (G : Nat) (R : List Value), e = .returned (.slice (some ⟨w.heap.size, 0, none⟩) (n + 1 : Nat) G) ∧ w'.heap[w.heap.size]? = some (.cells R.toArray 3 (0, 0)) ∧ n + 1 ≤ G ∧ G ≤ maxLen ∧ R.length = G * 1 ∧ R.take ((n + 1) * 1) = cur.take (i * 1) ++ xc ++ D ∧ Wr (· = g) w w' := by
  have hDl : D.length = (n - i) * 1 := by rw [hD]; simp; omega
  have hDg : ∀ (j : Nat) (u : Value), D[j]? = some u → cur[i * 1 + j]? = some u := fun j u hj => by
    rw [hD, List.getElem?_take] at hj
    split at hj
    · rwa [List.getElem?_drop] at hj
    · cases hj
  have hsz : (Try.prog.info? 3).map (·.size) = some 1 := by kernel_rfl
  obtain ⟨i0, hi0, hzz⟩ := Option.map_eq_some_iff.1 info3
  simp only [Prod.mk.injEq] at hzz
  obtain ⟨hz0, hzs, hzb⟩ := hzz
  have hzs' : i0.size = 1 := hzs
  have hgw := blk_lt hg
  have hvw := blk_lt hv
  have hkk : (n : Int) + 1 - (i : Int) = ((n + 1 - i : Nat) : Int) := by omega
  have hik : i + (n + 1 - i) = n + 1 := by omega
  have hold : (Builtin.firstCells i0.size i (.slice (some ⟨g, 0, none⟩) i n)).run Try.prog w.drew = .ok (cur.take (i * 1)).toArray w.drew := by
    rw [hzs']
    exact run_firstCells_some w.drew 1 i ⟨g, 0, none⟩ i n (cur.take (i * 1)) (by rw [List.length_take, hcl]; exact Nat.min_eq_left (Nat.mul_le_mul_right _ (by omega))) (fun j u hj => by
      rw [Addr.add_lit]
      rw [List.getElem?_take] at hj
      split at hj
      · show w.cell? _ = _
        rw [blk_cell hg]; simpa using hj
      · cases hj)
  have hrz : ∀ ty, (Builtin.append_ #[54, 3] ty #[.slice (some ⟨g, 0, none⟩) i n, .int .i64 ((n : Int) + 1 - (i : Int))]).run Try.prog w =
      .ok (.slice (some ⟨w.heap.size, 0, none⟩) (n + 1 : Nat) (grownCap w (n + 1) n 3)) (w.drew.alloc (.cells ((cur.take (i * 1)).toArray ++ Builtin.zeroCells (Value.cells (.int .i64 0)) (n + 1 - i) ++ Builtin.zeroCells (Value.cells (.int .i64 0)) (grownCap w (n + 1) n 3 - (n + 1))) 3)) := fun ty => by
    have h := Lib.run_append_grow_zeros w 54 3 ty 3 i0 _ .i64 .i64 Try.underlying54 Try.underlying3 hi0 hz0 (some ⟨g, 0, none⟩) i n (cur.take (i * 1)).toArray.toList (by simpa using hold) (n + 1 - i) (by omega) (by rw [hzs']; omega) (by omega) (by omega) (by rw [hzb]; have := Nat.mul_le_mul_right 8 (show n + 1 - i ≤ n + 1 from by omega); omega) (by rw [hzb, hik]; exact growslice_fits (by omega) hl)
    rw [hik] at h
    rw [hkk]
    simpa using h
  obtain ⟨G, hG⟩ : ∃ G, G = grownCap w (n + 1) n 3 := ⟨_, rfl⟩
  have hGn : n + 1 ≤ G := by rw [hG]; exact grownCap_ge w _ _ _
  have hGm : G ≤ maxLen := by rw [hG]; exact grownCap_le_maxLen w (n + 1) n 3 (by unfold maxLen; omega)
  obtain ⟨ROW, hROW⟩ : ∃ ROW : List Value, ROW = ((cur.take (i * 1)).toArray ++ Builtin.zeroCells (Value.cells (.int .i64 0)) (n + 1 - i) ++ Builtin.zeroCells (Value.cells (.int .i64 0)) (G - (n + 1))).toList := ⟨_, rfl⟩
  have hRA : (cur.take (i * 1)).toArray ++ Builtin.zeroCells (Value.cells (.int .i64 0)) (n + 1 - i) ++ Builtin.zeroCells (Value.cells (.int .i64 0)) (G - (n + 1)) = ROW.toArray := by rw [hROW]
  rw [← hG, hRA] at hrz
  have hRl : ROW.length = G * 1 := by
    rw [hROW]
    simp [Builtin.zeroCells, Value.cells, hcl]
    omega
  have hRt : ROW.take (i * 1) = cur.take (i * 1) := by
    rw [hROW]
    simp only [Array.toList_append, List.append_assoc]
    rw [List.take_append_of_le_length (by simp [hcl]; omega)]
    exact List.take_of_length_le (by simp; omega)
  obtain ⟨W1, hW1⟩ : ∃ W1, W1 = w.drew.alloc (.cells ROW.toArray 3) := ⟨_, rfl⟩
  rw [← hW1] at hrz
  have k1 : W1.heap[w.heap.size]? = some (.cells ROW.toArray 3 (0, 0)) := by rw [hW1]; exact blk_new w.drew _
  have kg : W1.heap[g]? = some (.cells cur.toArray 3 (0, 0)) := by rw [hW1]; exact blk_alloc (w := w.drew) hg _
  have kv : W1.heap[vb]? = some (.cells xc.toArray 3 (0, 0)) := by rw [hW1]; exact blk_alloc (w := w.drew) hv _
  have hWW1 : Wr (· = g) w W1 := by rw [hW1]; exact (drew_wr w (· = g)).trans (alloc_wr _ _ (· = g)) (fun _ _ h => h)
  have hsplit : i * 1 + xc.length + D.length = (n + 1) * 1 := by rw [hxl, hDl]; omega
  have hfit : (n + 1) * 1 ≤ ROW.length := by rw [hRl]; exact Nat.mul_le_mul_right _ hGn
  obtain ⟨W2, hr2, hg2, hW2⟩ := run_copyS (P := Try.prog) W1 54 54 3 3 1 (by omega) Try.underlying54 hsz (some ⟨w.heap.size, i, none⟩) (some ⟨vb, 0, none⟩) (n + 1 - i) (G - i) 1 1 w.heap.size (i * 1) ROW 3 k1 xc
    (by rw [hxl, show Nat.min 1 (n + 1 - i) = 1 from by simp only [Nat.min_def]; split <;> omega]) (fun _ => ⟨by simp, ⟨vb, 0, none⟩, rfl, fun j u hj => by
      rw [Addr.add_lit, blk_cell kv]
      simpa using hj⟩) (by omega) hx1
  have kg2 : W2.heap[g]? = some (.cells cur.toArray 3 (0, 0)) := (hW2.block g (blk_lt kg) (by omega)).trans kg
  have hlen2 : (splice ROW (i * 1) xc).length = ROW.length := length_splice _ _ _ (by omega)
  obtain ⟨W3, hr3, hg3, hW3⟩ := run_copyS (P := Try.prog) W2.drew 54 54 3 3 1 (by omega) Try.underlying54 hsz (some ⟨w.heap.size, i + 1, none⟩) (some ⟨g, i, none⟩) (n - i) (G - (i + 1)) (n - i) (n - i) w.heap.size (i * 1 + xc.length) (splice ROW (i * 1) xc) 3 hg2 D
    (by rw [hDl]; congr 1; simp only [Nat.min_def]; split <;> omega) (fun _ => ⟨by rw [hxl]; simp only [Option.some.injEq, Addr.mk.injEq, true_and, and_true]; omega, ⟨g, i, none⟩, rfl, fun j u hj => by
      rw [Addr.add_lit]
      show W2.cell? _ = _
      rw [blk_cell kg2]
      simpa using hDg j u hj⟩) (by rw [hlen2]; omega) hD1
  have HG3 : Hid (W3.heap[w.heap.size]? = some (.cells (splice (splice ROW (i * 1) xc) (i * 1 + xc.length) D).toArray 3 (0, 0))) := hg3
  have HL3 : Hid ((splice (splice ROW (i * 1) xc) (i * 1 + xc.length) D).length = G * 1 ∧ (splice (splice ROW (i * 1) xc) (i * 1 + xc.length) D).take ((n + 1) * 1) = cur.take (i * 1) ++ xc ++ D) := by
    refine ⟨by rw [length_splice _ _ _ (by rw [hlen2]; omega), hlen2, hRl], ?_⟩
    rw [← hsplit, (splice_two ROW xc D (i * 1) (by omega)).2, hRt]
  have HW3 : Hid (Wr (· = g) w W3) := by
    have h3 : Wr (· = w.heap.size) W1 W3 := hW2.trans ((drew_wr W2 (· = w.heap.size)).trans hW3 (fun _ _ h => h)) (fun _ _ h => h)
    exact hWW1.trans h3 (fun k hk e => by subst e; omega)
  generalize splice (splice ROW (i * 1) xc) (i * 1 + xc.length) D = R at HG3 HL3
  have hGL := hidm hGm
  have hz1 : ¬ ((1 : Int) = 0) := by omega
  have hz2 : ¬ ((i : Int) = (n : Int)) := by omega
  have hw0 : IntKind.i64.wrap ((n : Int) + 1) = ((n + 1 : Nat) : Int) := by rw [IntKind.wrap_i64]; omega
  have hw1 : IntKind.i64.wrap ((i : Int) + 1) = ((i + 1 : Nat) : Int) := by rw [IntKind.wrap_i64]; omega
  have hb0 : (n : Int) < ((n + 1 : Nat) : Int) := by omega
  have hin : i ≤ n := by omega
  have hb2 : ¬ (G = i + 1) := by omega
  have hb3 : i ≤ n + 1 := by omega
  have hb8 : (i : Int) ≤ (n : Int) + 1 := by omega
  have hb9 : (i : Int) + 1 ≤ (n : Int) + 1 := by omega
  have hb4 : ¬ (G = i) := by omega
  have hb5 : i + 1 ≤ n + 1 := by omega
  have hb6 : ¬ (n = i) := by omega
  have hb7 : (0 : Int) ≤ (i : Int) + 1 := by omega
  have hmL : maxLen ≤ 9223372036854775807 := by unfold maxLen; omega
  have mixed : Try.prog.follows .mixedOrders = true := by kernel_rfl
  have HX : Hid (n + 1 ≤ G) := hGn
  clear hkk hik hold hROW hRA hRl hRt hG hW1 k1 kg kv hWW1 hsplit hfit hg2 hW2 kg2 hlen2 hg3 hW3 hD hDl hDg hcl hxl hg hv hzs hzs' hzb hz0 hi0 hD1 hx1
  go_enter Try.func82, Try.ntmps82
  go_wp2_with (first
    | (at_builtin; refine Lib.wpList_append_run _ rfl _ _ _ _ rfl _ _ rfl rfl _ _ (hrz _) ?_)
    | (at_builtin; refine wpList_copy_runI _ rfl _ _ 54 54 rfl _ _ rfl rfl hr2 ?_))
  go_region_law_o (refine step_copy_runI rfl _ _ 54 54 rfl _ _ (by simp [Act.eval, Act.put]) (by simp [Act.eval, Act.put]) hr3 ?_)
  go_wp2
  go_ret
  exact ⟨G, R, rfl, HG3.out, HX.out, hGL.out, HL3.out.1, HL3.out.2, HW3.out⟩
set_option maxRecDepth 100000 in
set_option maxHeartbeats 4000000 in
theorem insInts_any (base : Nat) (v : Value) (n i : Nat) (ys xc : List Value) (W : World) (HO : W.ownsRow base 3 1 v n ys) (hb : base ≤ W.heap.size) (hi : i ≤ n) (hn : n ≤ 1048576) (hxl : xc.length = 1) (hx1 : ∀ u ∈ xc, u.oneCell' = true) (hy1 : ∀ u ∈ ys, u.oneCell' = true) :
    Calls Try.prog 82 #[v, .int .i64 i, .slice (some ⟨W.heap.size, 0, none⟩) 1 1] (W.alloc (.cells xc.toArray 3)) (InsPost base 3 1 v n (ys.take (i * 1) ++ xc ++ ys.drop (i * 1)) W) := by
  rcases Nat.lt_or_ge i n with hlt | hge
  · rcases HO.2 with ⟨_, rfl⟩ | ⟨g, c, cur, rfl, hg, hh, hnc, hm, hsz, rfl⟩
    · omega
    · have hh' : W.heap[g]? = some (.cells cur.toList.toArray 3 (0, 0)) := by simpa using hh
      have kg : (W.alloc (.cells xc.toArray 3)).heap[g]? = some (.cells cur.toList.toArray 3 (0, 0)) := blk_alloc hh' _
      have kv : (W.alloc (.cells xc.toArray 3)).heap[W.heap.size]? = some (.cells xc.toArray 3 (0, 0)) := blk_new W _
      have hgl := blk_lt hh
      have hcl : cur.toList.length = c * 1 := by simpa using hsz
      have hD1 : ∀ u ∈ (cur.toList.drop (i * 1)).take ((n - i) * 1), u.oneCell' = true := fun u hu => hy1 u (by
        have e : (cur.toList.take (n * 1)).drop (i * 1) = (cur.toList.drop (i * 1)).take ((n - i) * 1) := by rw [List.drop_take, Nat.sub_mul]
        rw [← e] at hu
        exact List.mem_of_mem_drop hu)
      have hDl : ((cur.toList.drop (i * 1)).take ((n - i) * 1)).length = (n - i) * 1 := by
        rw [List.length_take, List.length_drop, hcl, ← Nat.sub_mul]
        exact Nat.min_eq_left (Nat.mul_le_mul_right _ (by omega))
      have hsum : i * 1 + xc.length + ((cur.toList.drop (i * 1)).take ((n - i) * 1)).length = (n + 1) * 1 := by rw [hxl, hDl]; omega
      rcases Nat.lt_or_ge n c with h1 | h1
      · refine (insInts_shift g n c i W.heap.size cur.toList xc _ (W.alloc (.cells xc.toArray 3)) hlt h1 hm kg hcl rfl hD1 kv hxl hx1 (by omega)).mono ?_
        rintro e w' ⟨rfl, hg', hw'⟩
        have hfit : i * 1 + xc.length + ((cur.toList.drop (i * 1)).take ((n - i) * 1)).length ≤ cur.toList.length := by rw [hsum, hcl]; exact Nat.mul_le_mul_right _ h1
        have hl1 : (i + 1) * 1 = i * 1 + xc.length := by rw [hxl]; omega
        rw [hl1] at hg'
        refine ins_at rfl hg (.inl rfl) hm h1 hg' ?_ hi ?_ ((alloc_wr W _ _).trans hw' (fun _ _ h => h))
        · rw [length_splice _ _ _ (by rw [length_splice _ _ _ hfit]; omega), length_splice _ _ _ hfit, hcl]
        · rw [← hsum]; exact (splice_two cur.toList xc _ (i * 1) hfit).1
      · obtain rfl : c = n := by omega
        refine (insInts_grow g c i W.heap.size cur.toList xc _ (W.alloc (.cells xc.toArray 3)) hlt (by omega) kg hcl rfl hD1 kv hxl hx1).mono ?_
        rintro e w' ⟨G, R, rfl, hg', h2, h3, h4, h5, hw'⟩
        exact ins_at rfl (b := (W.alloc (.cells xc.toArray 3)).heap.size) (by simp; omega) (.inr (by simp)) h3 h2 hg' h4 hi h5 ((alloc_wr W _ _).trans hw' (fun _ _ h => h))
  · obtain rfl : i = n := by omega
    have hyl := HO.1
    have e1 : ys.take (i * 1) ++ xc ++ ys.drop (i * 1) = ys ++ xc := by rw [List.take_of_length_le (by omega), List.drop_eq_nil_of_le (by omega), List.append_nil]
    rw [e1]
    clear e1
    obtain ⟨Y, hY⟩ : ∃ Y, Y = ys ++ xc := ⟨_, rfl⟩
    have HOO := hidm HO
    have HYY := hidm hY
    rw [← hY]
    have hv : ∃ A c, v = .slice A i c ∧ i ≤ c := by
      rcases HO.2 with ⟨rfl, rfl⟩ | ⟨g, c, cur, rfl, _, _, hc, _⟩
      · exact ⟨none, 0, rfl, Nat.le_refl _⟩
      · exact ⟨_, c, rfl, hc⟩
    obtain ⟨A, c, rfl, hc⟩ := hv
    have hz1 : ¬ ((1 : Int) = 0) := by omega
    clear HO hY hyl
    have HX1 := hidm hx1
    clear hx1 hy1
    by_cases hci : c = i
    all_goals
      (first | subst c | skip)
      go_enter Try.func82, Try.ntmps82
      go_wp2_with (at_builtin; refine print_append_cells (w0 := W) base rfl (.tmp 23) (.tmp 24) 54 3 (.int .i64 0) 1 8 rfl Try.underlying54 info3 rfl (by decide) (by decide) _ i ys xc rfl rfl hxl HX1.out HOO.out (Below.refl _ _) hb (by omega) (fun v1 w1 ho1 hb1 hg1 hat1 => ?_); have HP : Hid (InsPost base 3 1 (.slice A i _) i Y W (.returned v1) w1) := ⟨v1, rfl, by rw [HYY.out]; exact ho1, ⟨hb1.os, hb1.tape, hb1.output, hg1.size, fun k hk hn => hg1.block k hk (fun e => hn e.symm)⟩, hat1⟩; clear ho1 hb1 hg1 hat1)
      go_ret
      exact HP.out
end Go.Proofs.Ytlopfkkegjajlaa
namespace Go.Proofs.Ytlopfkkegjajlaa
open Go.RowKit Go.Proofs.YtlopfkkegjajlaaW.PrintWords PHistoryTouched
def enc82 (ps : List S82) : List Value := ps.flatMap fun p => [.string p.f0, .string p.f1]
theorem enc82_cons (p : S82) (ps : List S82) : enc82 (p :: ps) = .string p.f0 :: .string p.f1 :: enc82 ps := rfl
theorem enc82_len : ∀ ps : List S82, (enc82 ps).length = ps.length * 2
  | [] => rfl
  | p :: ps => by rw [enc82_cons, List.length_cons, List.length_cons, enc82_len ps, List.length_cons]; omega
theorem enc82_app (l m : List S82) : enc82 (l ++ m) = enc82 l ++ enc82 m := List.flatMap_append
theorem enc82_drop : ∀ (k : Nat) (ps : List S82), (enc82 ps).drop (k * 2) = enc82 (ps.drop k)
  | 0, ps => by simp
  | k + 1, [] => by simp [enc82]
  | k + 1, p :: ps => by rw [enc82_cons, show (k + 1) * 2 = k * 2 + 1 + 1 by omega, List.drop_succ_cons, List.drop_succ_cons, List.drop_succ_cons, enc82_drop k ps]
theorem enc82_take : ∀ (k : Nat) (ps : List S82), (enc82 ps).take (k * 2) = enc82 (ps.take k)
  | 0, ps => by simp [enc82]
  | k + 1, [] => by simp [enc82]
  | k + 1, p :: ps => by rw [enc82_cons, show (k + 1) * 2 = k * 2 + 1 + 1 by omega, List.take_succ_cons, List.take_succ_cons, List.take_succ_cons, enc82_cons, enc82_take k ps]
theorem enc82_one (ps : List S82) : ∀ u ∈ enc82 ps, u.oneCell' = true := fun u hu => by
  obtain ⟨p, _, h⟩ := List.mem_flatMap.1 hu
  rcases List.mem_cons.1 h with rfl | h
  · rfl
  · rw [List.mem_singleton.1 h]; rfl
theorem enc82_of : ∀ (ps : List S82) (cs : List Value), cs.length = ps.length * 2 → (∀ (j : Nat) (p : S82), ps[j]? = some p → (cs.drop (j * 2)).take 2 = [.string p.f0, .string p.f1]) → cs = enc82 ps
  | [], cs, hl, _ => List.eq_nil_of_length_eq_zero (by simpa using hl)
  | p :: ps, cs, hl, h => by
    have h0 := h 0 p rfl
    match cs, hl, h0 with
    | a :: b :: cs, hl, h0 =>
      simp at h0
      rw [enc82_cons, h0.1, h0.2]
      congr 2
      refine enc82_of ps cs (by simp at hl; omega) (fun j q hq => ?_)
      have := h (j + 1) q (by simpa using hq)
      rw [show (j + 1) * 2 = j * 2 + 1 + 1 by omega, List.drop_succ_cons, List.drop_succ_cons] at this
      exact this
theorem own82 {e base : Nat} {ok : Nat → Prop} {w : World} {v : Value} {ps : List S82} (h : k82.R e w base ok v ps) : w.ownsRow base e 2 v ps.length (enc82 ps) := by
  obtain ⟨_, inner, ho, hr⟩ := h
  have : inner = enc82 ps := enc82_of ps inner hr.1 (fun j p hj => k82_open (w := w) (k82.K_of_M (hr.2 j p hj)))
  rw [← this]; exact ho
theorem R82 {e base : Nat} {ok : Nat → Prop} {w : World} {v : Value} {ps : List S82} (h : w.ownsRow base e 2 v ps.length (enc82 ps)) (hok : ∀ k, v.ownBlock = some k → ok k) : k82.R e w base ok v ps :=
  ⟨hok, enc82 ps, h, enc82_len ps, fun j p hj => by
    have hj' := (List.getElem?_eq_some_iff.1 hj).1
    have e1 : ((enc82 ps).drop (j * 2)).take 2 = [.string p.f0, .string p.f1] := by
      rw [show 2 = 1 * 2 from rfl, show j * (1 * 2) = j * 2 from rfl, enc82_drop, enc82_take, List.drop_eq_getElem_cons hj']
      have := (List.getElem?_eq_some_iff.1 hj).2
      rw [this]; rfl
    show k82.M _ _ _ _ (((enc82 ps).drop (j * 2)).take 2)
    rw [e1]
    exact ⟨_, _, rfl, rfl, rfl⟩⟩
theorem drop82 {ps : List S82} {j : Nat} (h : j < ps.length) : ps.drop j = rd_T82 ps j :: ps.drop (j + 1) := by
  rw [List.drop_eq_getElem_cons h]
  simp [rd_T82, List.getD_eq_getElem?_getD, List.getElem?_eq_getElem h]
theorem take82 {ps : List S82} {j : Nat} (h : j < ps.length) : ps.take (j + 1) = ps.take j ++ [rd_T82 ps j] := by
  rw [List.take_succ_eq_append_getElem h]
  simp [rd_T82, List.getD_eq_getElem?_getD, List.getElem?_eq_getElem h]
abbrev dropV (bx : Nat) : Value := .func (.func 61) #[] #[.pointer (some ⟨bx, 0, none⟩)]
def IdxPost (ps : List S82) (s : ByteArray) (w : World) (e : Ending) (w' : World) : Prop := ∃ r : Int, e = .returned (.int .i64 r) ∧ Below w.heap.size w w' ∧ ((r = -1 ∧ ∀ j : Nat, j < ps.length → (rd_T82 ps j).f0 ≠ s) ∨ ∃ p : Nat, r = p ∧ p < ps.length ∧ (rd_T82 ps p).f0 = s ∧ ∀ j : Nat, j < p → (rd_T82 ps j).f0 ≠ s)
set_option maxRecDepth 100000 in
set_option maxHeartbeats 1000000 in
theorem idxFunc_any (A : Option Addr) (ps : List S82) (cp bx : Nat) (s : ByteArray) (w : World) (hr : Kd.C k82 w A ps.length ps) (hk : w.heap[bx]? = some (.cells #[.string s] 9 (0, 0))) (hl : ps.length ≤ 1048576) :
    Calls Try.prog 79 #[.slice A ps.length cp, dropV bx] w (IdxPost ps s w) := by
  have HR := hidm hr
  have HK := hidm hk
  clear hr hk
  go_enter Try.func79, Try.ntmps79
  go_wp2
  go_loopw [8] (fun i W => ∃ k : Nat, k ≤ ps.length ∧ i = .int .i64 k ∧ Hid (Below w.heap.size w W) ∧ Hid (∀ j : Nat, j < k → (rd_T82 ps j).f0 ≠ s)) (fun i _ => ps.length - (intOf i).toNat)
  case atStart => exact ⟨0, Nat.zero_le _, rfl, Below.refl _ _, fun j hj => by omega⟩
  case round =>
    obtain ⟨k, hk, rfl, HB, HF⟩ := hrel
    by_cases hlt : k < ps.length
    · obtain ⟨ad, rfl, hx0, hx1⟩ := at_T82 HR.out k (by omega) (by omega)
      replace hx0 := pw_cell_below HB.out hx0
      replace hx1 := pw_cell_below HB.out hx1
      rw [show ((k : Int)).toNat = k from rfl] at hx0 hx1
      have hk0 : (0 : Int) ≤ (k : Int) := by omega
      have hk1 : (k : Int) < (ps.length : Int) := by omega
      obtain ⟨b, HBB⟩ : ∃ b, Hid (tv ((rd_T82 ps k).f0 = s) = b) := ⟨_, rfl⟩
      have HKW : Hid (wr.heap[bx]? = some (.cells #[.string s] 9 (0, 0))) := blk_below HK.out HB.out
      cases b with
      | true =>
        have he : Hid ((rd_T82 ps k).f0 = s) := tv_iff.1 HBB.out
        go_wp2_with (first | (go_at_call 61; refine (drop1_any _ _ s bx _ HKW.out).mono ?_; rintro e w' ⟨rfl, hb⟩; rw [HBB.out]; have HB2 : Hid (Below w.heap.size w w') := below_step HB.out hb; clear hb HB))
        go_ret
        exact ⟨k, rfl, HB2.out, .inr ⟨k, rfl, hlt, he.out, HF.out⟩⟩
      | false =>
        have HF' : Hid (∀ j : Nat, j < k + 1 → (rd_T82 ps j).f0 ≠ s) := fun j hj => by
          rcases Nat.lt_or_ge j k with h | h
          · exact HF.out j h
          · obtain rfl : j = k := by omega
            exact tv_niff.1 HBB.out
        clear HF
        go_wp2_with (first | (go_at_call 61; refine (drop1_any _ _ s bx _ HKW.out).mono ?_; rintro e w' ⟨rfl, hb⟩; rw [HBB.out]; have HB2 : Hid (Below w.heap.size w w') := below_step HB.out hb; clear hb HB))
        go_roundw
        case rel => exact ⟨k + 1, by omega, by go_num, HB2, HF'⟩
        case measure => simp [intOf]; omega
    · go_wp2_with fail
      go_ret
      exact ⟨-1, rfl, HB.out, .inl ⟨rfl, fun j hj => HF.out j (by omega)⟩⟩
end Go.Proofs.Ytlopfkkegjajlaa
namespace Go.Proofs.Ytlopfkkegjajlaa
open Go.RowKit Go.Proofs.YtlopfkkegjajlaaW.PrintWords PHistoryTouched
noncomputable def dropL (s : ByteArray) (ps : List S82) : List S82 := ps.filter fun p => !tv (p.f0 = s)
theorem dropL_snoc (s : ByteArray) {ps : List S82} {j : Nat} (h : j < ps.length) : dropL s (ps.take (j + 1)) = dropL s (ps.take j) ++ (if tv ((rd_T82 ps j).f0 = s) then [] else [rd_T82 ps j]) := by
  unfold dropL
  rw [take82 h, List.filter_append]
  congr 1
  cases hb : tv ((rd_T82 ps j).f0 = s) <;> simp [hb]
theorem dropL_none (s : ByteArray) {ps : List S82} : ∀ j : Nat, j ≤ ps.length → (∀ k : Nat, k < j → (rd_T82 ps k).f0 ≠ s) → dropL s (ps.take j) = ps.take j := by
  intro j
  induction j with
  | zero => intro _ _; simp [dropL]
  | succ j ih =>
    intro h hn
    rw [dropL_snoc s (by omega), ih (by omega) (fun k hk => hn k (by omega)), tv_no (hn j (by omega)), take82 (by omega)]
    rfl
structure DI (ps : List S82) (s : ByteArray) (c i j : Nat) (cur : List Value) : Prop where
  len : cur.length = c * 2
  cnt : i = (dropL s (ps.take j)).length
  lt : i < j
  lo : cur.take (i * 2) = enc82 (dropL s (ps.take j))
  hi : (cur.drop (j * 2)).take ((ps.length - j) * 2) = enc82 (ps.drop j)
theorem DI.start {ps : List S82} {s : ByteArray} {c p : Nat} {cur : List Value} (hl : cur.length = c * 2) (hcu : cur.take (ps.length * 2) = enc82 ps) (hp : p < ps.length) (he : (rd_T82 ps p).f0 = s) (hn : ∀ j : Nat, j < p → (rd_T82 ps j).f0 ≠ s) : DI ps s c p (p + 1) cur := by
  have e : dropL s (ps.take (p + 1)) = ps.take p := by rw [dropL_snoc s hp, dropL_none s p (by omega) hn, tv_yes he]; simp
  refine ⟨hl, by rw [e, List.length_take]; omega, by omega, ?_, ?_⟩
  · rw [e, ← enc82_take, ← hcu, List.take_take, Nat.min_eq_left (Nat.mul_le_mul_right _ (by omega))]
  · rw [← enc82_drop, ← hcu, List.drop_take, Nat.sub_mul]
theorem DI.at_ {ps : List S82} {s : ByteArray} {c i j : Nat} {cur : List Value} (h : DI ps s c i j cur) (hj : j < ps.length) : cur[j * 2]? = some (.string (rd_T82 ps j).f0) ∧ cur[j * 2 + 1]? = some (.string (rd_T82 ps j).f1) := by
  have h1 := h.hi
  rw [drop82 hj, enc82_cons] at h1
  have g : ∀ k : Nat, k < 2 → cur[j * 2 + k]? = ((cur.drop (j * 2)).take ((ps.length - j) * 2))[k]? := fun k hk => by
    rw [List.getElem?_take, if_pos (by omega), List.getElem?_drop]
  refine ⟨?_, ?_⟩
  · have := g 0 (by omega); rw [h1] at this; simpa using this
  · have := g 1 (by omega); rw [h1] at this; simpa using this
theorem DI.skip {ps : List S82} {s : ByteArray} {c i j : Nat} {cur : List Value} (h : DI ps s c i j cur) (hj : j < ps.length) (he : (rd_T82 ps j).f0 = s) : DI ps s c i (j + 1) cur := by
  have e : dropL s (ps.take (j + 1)) = dropL s (ps.take j) := by rw [dropL_snoc s hj, tv_yes he]; simp
  have h1 := h.hi
  rw [drop82 hj, enc82_cons] at h1
  refine ⟨h.len, by rw [e]; exact h.cnt, by have := h.lt; omega, by rw [e]; exact h.lo, ?_⟩
  have h2 := congrArg (List.drop 2) h1
  rw [List.drop_take, List.drop_drop] at h2
  rw [show (j + 1) * 2 = j * 2 + 2 by omega, show (ps.length - (j + 1)) * 2 = (ps.length - j) * 2 - 2 by omega]
  simpa using h2
theorem DI.keep {ps : List S82} {s : ByteArray} {c i j : Nat} {cur : List Value} (h : DI ps s c i j cur) (hj : j < ps.length) (hc : ps.length ≤ c) (he : (rd_T82 ps j).f0 ≠ s) : DI ps s c (i + 1) (j + 1) ((cur.set (i * 2) (.string (rd_T82 ps j).f0)).set (i * 2 + 1) (.string (rd_T82 ps j).f1)) := by
  have e : dropL s (ps.take (j + 1)) = dropL s (ps.take j) ++ [rd_T82 ps j] := by rw [dropL_snoc s hj, tv_no he]; simp
  have hlt := h.lt
  have h1 := h.hi
  have hlen := h.len
  rw [drop82 hj, enc82_cons] at h1
  refine ⟨by simp [h.len], by rw [e, List.length_append, ← h.cnt]; rfl, by omega, ?_, ?_⟩
  · rw [e, enc82_app, ← h.lo]
    apply List.ext_getElem?
    intro k
    rw [List.getElem?_take, List.getElem?_append, List.length_take, Nat.min_eq_left (by omega), List.getElem?_take]
    by_cases k1 : k < i * 2
    · rw [if_pos (by omega), if_pos k1, if_pos k1, List.getElem?_set_ne (by omega), List.getElem?_set_ne (by omega)]
    · rw [if_neg k1]
      by_cases k2 : k = i * 2
      · subst k2
        rw [if_pos (by omega), List.getElem?_set_ne (by omega), List.getElem?_set_self (by omega)]
        simp [enc82]
      · by_cases k3 : k = i * 2 + 1
        · subst k3
          rw [if_pos (by omega), List.getElem?_set_self (by simp; omega)]
          simp [enc82]
        · rw [if_neg (by omega), List.getElem?_eq_none]
          simp [enc82]; omega
  · have h2 := congrArg (List.drop 2) h1
    rw [List.drop_take, List.drop_drop] at h2
    rw [show (j + 1) * 2 = j * 2 + 2 by omega, show (ps.length - (j + 1)) * 2 = (ps.length - j) * 2 - 2 by omega, List.drop_set_of_lt (by omega), List.drop_set_of_lt (by omega)]
    simpa using h2
theorem DI.done {ps : List S82} {s : ByteArray} {c i : Nat} {cur : List Value} (h : DI ps s c i ps.length cur) : i = (dropL s ps).length ∧ cur.take (i * 2) = enc82 (dropL s ps) := by
  have h1 := h.cnt
  have h2 := h.lo
  rw [List.take_length] at h1 h2
  exact ⟨h1, h2⟩
theorem run_clear82 (w : World) (g o n c : Nat) (hn : 0 < n) (cur : List Value) (hg : w.heap[g]? = some (.cells cur.toArray 82 (0, 0))) (hfit : o + n * 2 ≤ cur.length) :
    ∃ w' R, (∀ ty, (Builtin.clear_ #[73] ty #[.slice (some ⟨g, o, none⟩) n c]).run Try.prog w = .ok (.tuple #[]) w') ∧ w'.heap[g]? = some (.cells (R : List Value).toArray 82 (0, 0)) ∧ R.length = cur.length ∧ R.take o = cur.take o ∧ Wr (· = g) w w' := by
  have hz : ∀ w, (zeroValue 82).run Try.prog w = .ok (.agg #[.string ⟨#[]⟩, .string ⟨#[]⟩]) w := fun w => by kernel_rfl
  obtain ⟨Z, hZ⟩ : ∃ Z, Z = (Builtin.zeroCells (Value.cells (.agg #[.string ⟨#[]⟩, .string ⟨#[]⟩])) n).toList := ⟨_, rfl⟩
  have hl : Z.length = n * 2 := by rw [hZ]; simp [Builtin.zeroCells, Value.cells]
  have h1 : ∀ v ∈ Z, v.oneCell' = true := fun v hv => by
    have : v = .string ⟨#[]⟩ := by
      rw [hZ] at hv
      obtain ⟨k, hk, rfl⟩ := List.getElem_of_mem hv
      simp [Builtin.zeroCells, Value.cells]
      rcases Nat.mod_two_eq_zero_or_one k with h | h <;> simp [h]
    rw [this]; rfl
  have hst := run_storeCells_at (P := Try.prog) g o 82 Z 0 cur.toArray w hg (by rw [hl]; simpa using hfit) h1
  obtain ⟨m, rfl⟩ : ∃ m, n = m + 1 := ⟨n - 1, by omega⟩
  refine ⟨w.setRow g (cur.take o ++ Z ++ cur.drop (o + Z.length)).toArray, cur.take o ++ Z ++ cur.drop (o + Z.length), fun ty => ?_, setRow_heap w g _ _ 82 _ hg, ?_, ?_, wr_setRow w g _⟩
  · simp only [Nat.add_zero] at hst
    simp [Builtin.clear_, run_underlying Try.underlying73, hz, ← hZ, hst]
  · simp only [List.length_append, hl, List.length_take, List.length_drop]; omega
  · rw [List.append_assoc, List.take_append_of_le_length (by simp; omega), List.take_take, Nat.min_self]
def DelPost (base : Nat) (v : Value) (qs : List S82) (w : World) (e : Ending) (w' : World) : Prop := ∃ v', e = .returned v' ∧ w'.ownsRow base 82 2 v' qs.length (enc82 qs) ∧ Wr (fun k => v.ownBlock = some k) w w' ∧ v'.ownBlock = v.ownBlock
set_option maxRecDepth 100000 in
set_option maxHeartbeats 4000000 in
theorem delFunc_any (base : Nat) (v : Value) (ps : List S82) (bx : Nat) (s : ByteArray) (w : World) (ho : w.ownsRow base 82 2 v ps.length (enc82 ps)) (hr : ∃ A c, v = .slice A ps.length c ∧ Kd.C k82 w A ps.length ps) (hk : w.heap[bx]? = some (.cells #[.string s] 9 (0, 0))) (hl : ps.length ≤ 1048576) :
    Calls Try.prog 60 #[v, dropV bx] w (DelPost base v (dropL s ps) w) := by
  obtain ⟨A, c, rfl, hr⟩ := hr
  have HR := hidm hr
  have HK := hidm hk
  have HO := hidm ho
  clear hr hk ho
  obtain ⟨D, HD⟩ : ∃ D, Hid (dropL s ps = D) := ⟨_, rfl⟩
  rw [HD.out]
  go_enter Try.func60, Try.ntmps60
  go_wp2_with fail
  refine (idxFunc_any A ps c bx s w HR.out HK.out hl).mono ?_
  rintro e w1 ⟨r, rfl, hb, hcase⟩
  rcases hcase with ⟨rfl, hn⟩ | ⟨p, rfl, hp, he, hn⟩
  · have HP : Hid (DelPost base (.slice A ps.length c) D w (.returned (.slice A ps.length c)) w1) := by
      have e : dropL s ps = ps := by have := dropL_none s (ps := ps) ps.length (Nat.le_refl _) hn; rwa [List.take_length] at this
      have e2 : D = ps := HD.out.symm.trans e
      subst e2
      exact ⟨_, rfl, own_move HO.out (fun k hk => hb.block k (own_lt HO.out k hk)), Wr.of_below hb, rfl⟩
    clear hn hb
    go_wp2_with fail
    go_ret
    exact HP.out
  · rcases HO.out.2 with ⟨_, h0⟩ | ⟨g, c', cur0, hv, hg, hh, hc, hm, hsz, htk⟩
    · omega
    · injection hv with h1 h2 h3
      subst h1 h3
      have HDI : Hid (DI ps s c p (p + 1) cur0.toList) := DI.start (by simpa using hsz) htk hp he hn
      have HG : Hid (w1.heap[g]? = some (.cells cur0.toList.toArray 82 (0, 0))) := by
        have := blk_below hh hb
        rw [Array.toArray_toList]; exact this
      have HW : Hid (Wr (· = g) w w1) := Wr.of_below hb
      have HGW : Hid (g < w.heap.size) := blk_lt hh
      have HBX : Hid (bx < w.heap.size ∧ bx ≠ g) := ⟨blk_lt HK.out, fun e => by
        have := HK.out
        rw [e, hh] at this
        cases this⟩
      have hm63 : c ≤ 9223372036854775807 := by unfold maxLen at hm; omega
      have HM := hidm hm
      have HBG := hidm hg
      have hp0 : ((p : Int) == -1) = false := by simp
      generalize cur0.toList = cur1 at HDI HG
      clear hn hb he hh hsz htk hm hg h2
      go_wp2_with fail
      go_loopw [5, 6, 7] (fun a b _ W => ∃ i j : Nat, i < j ∧ j ≤ ps.length ∧ a = .int .i64 i ∧ b = .int .i64 j ∧ ∃ cur, Hid (W.heap[g]? = some (.cells (cur : List Value).toArray 82 (0, 0))) ∧ Hid (DI ps s c i j cur) ∧ Hid (Wr (· = g) w W)) (fun _ b _ _ => ps.length - (intOf b).toNat)
      case atStart => exact ⟨p, p + 1, by omega, by omega, rfl, by go_num, cur1, HG, HDI, HW⟩
      case round =>
        obtain ⟨i, j, hij, hj, rfl, rfl, cur, HG, HDI, HW⟩ := hrel
        by_cases hlt : j < ps.length
        · have hat := HDI.out.at_ hlt
          have x0 : wr.cell? ⟨g, j * 2, none⟩ = some (.string (rd_T82 ps j).f0) := by rw [blk_cell HG.out]; simpa using hat.1
          have x1 : wr.cell? ⟨g, j * 2 + 1, none⟩ = some (.string (rd_T82 ps j).f1) := by rw [blk_cell HG.out]; simpa using hat.2
          have hj0 : (0 : Int) ≤ (j : Int) := by omega
          have hj1 : (j : Int) < (ps.length : Int) := by omega
          have hj2 : (j : Int).toNat = j := by omega
          have hi0 : (0 : Int) ≤ (i : Int) := by omega
          have hi1 : (i : Int) < (ps.length : Int) := by omega
          have hi2 : (i : Int).toNat = i := by omega
          obtain ⟨b, HBB⟩ : ∃ b, Hid (tv ((rd_T82 ps j).f0 = s) = b) := ⟨_, rfl⟩
          have K2 : Hid ((wr.alloc (.cells #[.string (rd_T82 ps j).f0, .string (rd_T82 ps j).f1] 82)).heap[bx]? = some (.cells #[.string s] 9 (0, 0))) := blk_alloc ((HW.out.block bx HBX.out.1 HBX.out.2).trans HK.out) _
          have K3 : Hid ((wr.alloc (.cells #[.string (rd_T82 ps j).f0, .string (rd_T82 ps j).f1] 82)).heap[wr.heap.size]? = some (.cells #[.string (rd_T82 ps j).f0, .string (rd_T82 ps j).f1] 82 (0, 0))) := blk_new _ _
          have K4 : Hid ((wr.alloc (.cells #[.string (rd_T82 ps j).f0, .string (rd_T82 ps j).f1] 82)).heap[g]? = some (.cells cur.toArray 82 (0, 0))) := blk_alloc HG.out _
          have HW2 : Hid (Wr (· = g) w (wr.alloc (.cells #[.string (rd_T82 ps j).f0, .string (rd_T82 ps j).f1] 82))) := HW.out.step (below_alloc (Below.refl _ _) _)
          have hlen := HDI.out.len
          obtain ⟨u0, hu0⟩ : ∃ u0, cur[i * 2]? = some u0 := ⟨_, List.getElem?_eq_getElem (by omega)⟩
          obtain ⟨u1, hu1⟩ : ∃ u1, cur[i * 2 + 1]? = some u1 := ⟨_, List.getElem?_eq_getElem (by omega)⟩
          have HU : Hid (cur[i * 2]? = some u0 ∧ cur[i * 2 + 1]? = some u1) := ⟨hu0, hu1⟩
          clear hat hlen hu0 hu1 HW HG
          cases b with
          | true =>
            have HDI' : Hid (DI ps s c i (j + 1) cur) := HDI.out.skip hlt (tv_iff.1 HBB.out)
            go_wp2_with (first | (go_at_call 61; clear x0 x1; generalize (World.alloc _ _) = W at K2 K3 K4 HW2 ⊢; refine (drop1_any _ _ s bx _ K2.out).mono ?_; rintro e w' ⟨rfl, hb⟩; rw [HBB.out]; have HW3 : Hid (Wr (· = g) w w') := HW2.out.step hb; have HG3 : Hid (w'.heap[g]? = some (.cells cur.toArray 82 (0, 0))) := blk_below K4.out hb; clear hb K2 K3 K4 HW2))
            go_roundw
            case rel => exact ⟨i, j + 1, by omega, by omega, rfl, by go_num, cur, HG3, HDI', HW3⟩
            case measure => simp [intOf]; omega
          | false =>
            have HDI' : Hid (DI ps s c (i + 1) (j + 1) ((cur.set (i * 2) (.string (rd_T82 ps j).f0)).set (i * 2 + 1) (.string (rd_T82 ps j).f1))) := HDI.out.keep hlt hc (tv_niff.1 HBB.out)
            go_wp2_with (first | (go_at_call 61; clear x0 x1; generalize wr.heap.size = gn at K3 ⊢; generalize (World.alloc _ _) = W at K2 K3 K4 HW2 ⊢; refine (drop1_any _ _ s bx _ K2.out).mono ?_; rintro e w' ⟨rfl, hb⟩; rw [HBB.out]; have HW3 : Hid (Wr (· = g) w w') := HW2.out.step hb; have hG3 : w'.heap[g]? = some (.cells cur.toArray 82 (0, 0)) := blk_below K4.out hb; have k3 := blk_below K3.out hb; have y0 : w'.cell? ⟨gn, 0, none⟩ = some (.string (rd_T82 ps j).f0) := blk_cell k3 0; have y1 : w'.cell? ⟨gn, 1, none⟩ = some (.string (rd_T82 ps j).f1) := blk_cell k3 1; have z0 : w'.cell? ⟨g, i * 2, none⟩ = some u0 := (by rw [blk_cell hG3]; simpa using HU.out.1); have z1 : w'.cell? ⟨g, i * 2 + 1, none⟩ = some u1 := (by rw [blk_cell hG3]; simpa using HU.out.2); have ff : ∀ q, w'.frozen? ⟨g, q, none⟩ = false := blk_frozen hG3; have HG3 := Lib.hid hG3; clear hG3 k3; clear hb K2 K3 K4 HW2))
            go_roundw
            case rel => exact ⟨i + 1, j + 1, by omega, by omega, by go_num, by go_num, _, (by have := blk_put (blk_put HG3.out (i * 2) (.string (rd_T82 ps j).f0) rfl) (i * 2 + 1) (.string (rd_T82 ps j).f1) rfl; exact hidm (by simpa using this)), HDI', (HW3.out.set g _ _ (.inl rfl)).set g _ _ (.inl rfl)⟩
            case measure => simp [intOf]; omega
        · obtain rfl : j = ps.length := by omega
          have hd := HDI.out.done
          have hlen := HDI.out.len
          obtain ⟨W2, R, hrun, hg2, hRl, hRt, hw2⟩ := run_clear82 wr g (i * 2) (ps.length - i) (c - i) (by omega) cur HG.out (by omega)
          have HP : Hid (DelPost base (.slice (some ⟨g, 0, none⟩) ps.length c) D w (.returned (.slice (some ⟨g, 0, none⟩) i c)) W2) := by
            have e2 : D = dropL s ps := HD.out.symm
            subst e2
            refine ⟨_, rfl, ?_, (HW.out.trans hw2 (fun _ _ h => h)).mono (fun k _ hk => by subst hk; rfl), rfl⟩
            rw [← hd.1, ← hd.2, ← hRt]
            exact ⟨by simp; omega, .inr ⟨g, c, R.toArray, rfl, HBG.out, hg2, by omega, HM.out, by simpa using hRl.trans hlen, by simp⟩⟩
          have hi0 : (0 : Int) ≤ (i : Int) := by omega
          have hi1 : (i : Int) ≤ (ps.length : Int) := by omega
          have hi3 : i ≤ ps.length := by omega
          have hi4 : i ≤ c := by omega
          have hi5 : ¬ (c = i) := by omega
          clear hd hlen hg2 hRl hRt hw2 HDI
          go_wp2_with (simp only [hrun])
          go_ret
          exact HP.out
end Go.Proofs.Ytlopfkkegjajlaa
namespace Go.Proofs.Ytlopfkkegjajlaa
open Go.RowKit Go.Proofs.YtlopfkkegjajlaaW.PrintWords PHistoryTouched
abbrev zero7 : Array Value := #[.int .i64 0, .string ⟨#[]⟩, .int .i64 0, .string ⟨#[]⟩, .slice none 0 0, .slice none 0 0, .slice none 0 0]
def OwnPost (n : S76) (w : World) (e : Ending) (w' : World) : Prop := ∃ v4 v5 v6, e = .returned (.agg #[.int .i64 n.f0, .string n.f1, .int .i64 n.f2, .string n.f3, v4, v5, v6]) ∧ k82.R 82 w' w.heap.size (fun _ => True) v4 n.f4 ∧ (Kd.int .i64).R 3 w' w.heap.size (fun _ => True) v5 n.f5 ∧ k84.R 84 w' w.heap.size (fun _ => True) v6 n.f6 ∧ Below w.heap.size w w'
theorem wipe {α : Type} (L M : List α) (h : M.length = L.length) : splice L 0 M = M := by
  unfold splice; simp [h]
set_option maxRecDepth 100000 in
set_option maxHeartbeats 4000000 in
theorem own_any (n : S76) (A4 A5 A6 : Option Addr) (c4 c5 c6 : Nat) (w : World) (hn : NodeR w n A4 c4 A5 c5 A6 c6) (s4 : n.f4.length ≤ 1048576) (s5 : n.f5.length ≤ 1048576) (s6 : n.f6.length ≤ 1048576) : Calls Try.prog 76 #[nodeV n A4 c4 A5 c5 A6 c6] w (OwnPost n w) := by
  have HN := hidm hn
  have HX : Hid (Boxed2 w (.cells (nodeCs n A4 c4 A5 c5 A6 c6) 76) (.cells zero7 76) ((w.alloc (.cells (nodeCs n A4 c4 A5 c5 A6 c6) 76)).alloc (.cells zero7 76))) := boxed2 w _ _
  have HS4 := hidm s4
  have HS6 := hidm s6
  clear hn s4 s6
  have hmk := print_make (P := Try.prog) 54 3 .i64 8 Try.underlying54 info3 (by decide) n.f5.length (by omega)
  go_enter Try.func76, Try.ntmps76
  go_wp2_with fail
  generalize ((w.alloc (.cells (nodeCs n A4 c4 A5 c5 A6 c6) 76)).alloc (.cells zero7 76)) = W at HX ⊢
  have y4 : ∀ x : BW W, x.1.cell? ⟨w.heap.size, 4, none⟩ = some (.slice A4 n.f4.length c4) := bw_cell (blk_cell HX.out.k1 4)
  have y6 : ∀ x : BW W, x.1.cell? ⟨w.heap.size, 6, none⟩ = some (.slice A6 n.f6.length c6) := bw_cell (blk_cell HX.out.k1 6)
  refine wp_region_noPanic ?_
  refine wp_region_hold (C := fun w' => ∃ x : BW W, w' = x.1) 7 [] [0, 1, 3, 4, 6] [2, 5] (by kernel_rfl) (by kernel_rfl) (by kernel_rfl) (by kernel_rfl) (fun _ _ _ _ _ h => (h : False).elim) ⟨⟨{ W with drawn := W.drawn + 1 }, ⟨rfl, rfl, rfl, Nat.le_refl _, fun _ _ => rfl⟩⟩, rfl⟩ ?_
  simp only [pickOps, Option.elim_some, List.getElem?_cons_succ, List.getElem?_cons_zero, List.drop_succ_cons, List.drop_zero]
  repeat (go_big_quiet_step (fail))
  refine wpQuiet_nil ?_
  rintro _ ⟨x, rfl⟩
  clear y4 y6
  have HX1 : Hid (Boxed2 w (.cells (nodeCs n A4 c4 A5 c5 A6 c6) 76) (.cells zero7 76) x.1) := HX.out.below x.2
  refine ⟨_, rfl, rfl, .inl ⟨65, #[.slice A4 n.f4.length c4], ?_, ?_⟩⟩
  · go_simp
  refine (cloneProps A4 n.f4 c4 x.1 (Kd.C_below HN.out.r4 HX1.out.b) (by have := HS4.out; omega)).mono ?_
  rintro e w3 ⟨v4, rfl, h4, hb3⟩
  obtain ⟨B4, d4, rfl⟩ := Kd.R_slice h4
  refine ⟨_, rfl, ⟨⟨w3, below_step x.2 hb3⟩, rfl⟩, ?_⟩
  simp only [Act.put, List.getElem_toArray, List.getElem_cons_succ, List.getElem_cons_zero, List.setIfInBounds_toArray, List.set_cons_zero, List.set_cons_succ]
  have HX3 : Hid (Boxed2 w (.cells (nodeCs n A4 c4 A5 c5 A6 c6) 76) (.cells zero7 76) w3) := HX1.out.below hb3
  have HXB : Hid (∃ y : BW W, w3 = y.1) := ⟨⟨w3, below_step x.2 hb3⟩, rfl⟩
  have H4 : Hid (k82.R 82 w3 w.heap.size (fun _ => True) (.slice B4 n.f4.length d4) n.f4) := Kd.R_lower h4 HX1.out.b.size
  clear HX1 h4 hb3 HX x
  refine ⟨_, rfl, rfl, .inl ⟨67, #[.slice A6 n.f6.length c6], ?_, ?_⟩⟩
  · go_simp
  refine (cloneRefs A6 n.f6 c6 w3 (Kd.C_below HN.out.r6 HX3.out.b) (by have := HS6.out; omega)).mono ?_
  rintro e w5 ⟨v6, rfl, h6, hb5⟩
  obtain ⟨B6, d6, rfl⟩ := Kd.R_slice h6
  have HXB5 : Hid (∃ y : BW W, w5 = y.1) := by
    obtain ⟨⟨y, hy⟩, rfl⟩ := HXB.out
    exact ⟨⟨w5, below_step hy hb5⟩, rfl⟩
  refine ⟨_, rfl, HXB5.out, ?_⟩
  simp only [Act.put, List.getElem_toArray, List.getElem_cons_succ, List.getElem_cons_zero, List.setIfInBounds_toArray, List.set_cons_zero, List.set_cons_succ]
  have HX5 : Hid (Boxed2 w (.cells (nodeCs n A4 c4 A5 c5 A6 c6) 76) (.cells zero7 76) w5) := HX3.out.below hb5
  have G4 : Hid (k82.R 82 w5 w.heap.size (fun k => True ∧ k ≠ w.heap.size) (.slice B4 n.f4.length d4) n.f4) := Kd.R_types (Kd.R_below H4.out hb5) HX5.out.k1 (by decide)
  have G6 : Hid (k84.R 84 w5 w.heap.size (fun k => True ∧ k ≠ w.heap.size) (.slice B6 n.f6.length d6) n.f6) := Kd.R_types (Kd.R_lower h6 HX3.out.b.size) HX5.out.k1 (by decide)
  have k7 : ((w5.setCell ⟨w.heap.size, 4, none⟩ (.slice B4 n.f4.length d4)).setCell ⟨w.heap.size, 6, none⟩ (.slice B6 n.f6.length d6)).heap[w.heap.size]? = some (.cells #[.int .i64 n.f0, .string n.f1, .int .i64 n.f2, .string n.f3, .slice B4 n.f4.length d4, .slice A5 n.f5.length c5, .slice B6 n.f6.length d6] 76 (0, 0)) := blk_put (blk_put HX5.out.k1 4 _ rfl) 6 _ rfl
  have k8 : ((w5.setCell ⟨w.heap.size, 4, none⟩ (.slice B4 n.f4.length d4)).setCell ⟨w.heap.size, 6, none⟩ (.slice B6 n.f6.length d6)).heap[w.heap.size + 1]? = some (.cells zero7 76 (0, 0)) := blk_far (blk_far HX5.out.k2 (by show w.heap.size + 1 ≠ w.heap.size; omega) _) (by show w.heap.size + 1 ≠ w.heap.size; omega) _
  have HB7 : Hid (Below w.heap.size w ((w5.setCell ⟨w.heap.size, 4, none⟩ (.slice B4 n.f4.length d4)).setCell ⟨w.heap.size, 6, none⟩ (.slice B6 n.f6.length d6))) := (HX5.out.b.setCell (Nat.le_refl _) _).setCell (Nat.le_refl _) _
  have J4 : Hid (k82.R 82 ((w5.setCell ⟨w.heap.size, 4, none⟩ (.slice B4 n.f4.length d4)).setCell ⟨w.heap.size, 6, none⟩ (.slice B6 n.f6.length d6)) w.heap.size (fun k => True ∧ k ≠ w.heap.size) (.slice B4 n.f4.length d4) n.f4) := Kd.R_far (Kd.R_far G4.out (fun k hk => hk.2) _) (fun k hk => hk.2) _
  have J6 : Hid (k84.R 84 ((w5.setCell ⟨w.heap.size, 4, none⟩ (.slice B4 n.f4.length d4)).setCell ⟨w.heap.size, 6, none⟩ (.slice B6 n.f6.length d6)) w.heap.size (fun k => True ∧ k ≠ w.heap.size) (.slice B6 n.f6.length d6) n.f6) := Kd.R_far (Kd.R_far G6.out (fun k hk => hk.2) _) (fun k hk => hk.2) _
  have K7 := hidm k7
  have K8 := hidm k8
  have t4 : w5.cell? ⟨w.heap.size, 4, none⟩ = some (.slice A4 n.f4.length c4) := blk_cell HX5.out.k1 4
  have t6 : w5.cell? ⟨w.heap.size, 6, none⟩ = some (.slice A6 n.f6.length c6) := blk_cell HX5.out.k1 6
  have ff : ∀ i, w5.frozen? ⟨w.heap.size, i, none⟩ = false := blk_frozen HX5.out.k1
  clear HX3 HXB HXB5 h6 hb5 H4 HX5 G4 G6 k7 k8 HS4 HS6
  show wpList _ _ _ _ _ _
  go_wp2_with fail
  refine NoPanic.normal ?_
  clear t4 t6 ff
  generalize ((w5.setCell ⟨w.heap.size, 4, none⟩ (.slice B4 n.f4.length d4)).setCell ⟨w.heap.size, 6, none⟩ (.slice B6 n.f6.length d6)) = W7 at K7 K8 HB7 J4 J6 ⊢
  have q5 : W7.cell? ⟨w.heap.size, 5, none⟩ = some (.slice A5 n.f5.length c5) := blk_cell K7.out 5
  have q5' : (W7.alloc (.cells (madeCells #[.int .i64 0] n.f5.length) 3)).cell? ⟨w.heap.size, 5, none⟩ = some (.slice A5 n.f5.length c5) := blk_cell (blk_alloc K7.out _) 5
  have gm := blk_new W7 (.cells (madeCells #[.int .i64 0] n.f5.length) 3)
  rw [made_nums] at gm
  obtain ⟨W8, hrun, hg8, hW8⟩ := run_copyS (P := Try.prog) (W7.alloc (.cells (madeCells #[.int .i64 0] n.f5.length) 3)) 54 54 3 3 1 (by omega) Try.underlying54 (by kernel_rfl) (some ⟨W7.heap.size, 0, none⟩) A5 n.f5.length n.f5.length n.f5.length c5 W7.heap.size 0 (nums .i64 (List.replicate n.f5.length 0)) 3
    (by rw [made_nums]; exact gm) (nums .i64 n.f5) (by simp [nums]) (fun h0 => by
      have hl : 0 < n.f5.length := by simpa [nums] using h0
      have hC := Kd.C_below HN.out.r5 (below_alloc HB7.out (.cells (madeCells #[.int .i64 0] n.f5.length) 3))
      obtain ⟨ad, hA, _⟩ := kid_at hC 0 hl
      refine ⟨rfl, ad, hA, fun j v hj => ?_⟩
      have hj' : j < n.f5.length := by
        have := (List.getElem?_eq_some_iff.1 hj).1
        simpa [nums] using this
      obtain ⟨ad', hA', hc⟩ := kid_at hC j hj'
      rw [hA] at hA'
      cases hA'
      rw [hc]
      simp only [nums, List.getElem?_map, List.getElem?_eq_getElem hj', Option.map_some, Option.some.injEq] at hj
      rw [← hj]
      simp [rd, List.getD_eq_getElem?_getD, List.getElem?_eq_getElem hj']) (by simp [nums]) (fun v hv => by
      obtain ⟨z, _, rfl⟩ := List.mem_map.1 hv
      rfl)
  rw [wipe _ _ (by simp [nums])] at hg8
  clear gm
  have hsz := blk_lt K8.out
  have hB8 := Below.trans (below_alloc HB7.out (.cells (madeCells #[.int .i64 0] n.f5.length) 3)) (Wr.below (B := w.heap.size) hW8 (by simp; omega) (fun k hk => by omega))
  have old : ∀ (k : Nat) (o : Obj), W7.heap[k]? = some o → W8.heap[k]? = some o := fun k o hk => by
    rw [hW8.block k (by have := blk_lt hk; simp; omega) (by have := blk_lt hk; omega)]
    have h2 := blk_lt hk
    simp only [World.alloc, Array.getElem?_push]
    rw [if_neg (by omega)]; exact hk
  have k9 := old _ _ K7.out
  have k10 := old _ _ K8.out
  have L4 : Hid (k82.R 82 W8 w.heap.size (fun k => True ∧ k ≠ w.heap.size) (.slice B4 n.f4.length d4) n.f4) := Kd.R_step J4.out (fun k _ hk => by
    rw [Array.getElem?_eq_getElem hk]; exact old k _ (Array.getElem?_eq_getElem hk))
  have L6 : Hid (k84.R 84 W8 w.heap.size (fun k => True ∧ k ≠ w.heap.size) (.slice B6 n.f6.length d6) n.f6) := Kd.R_step J6.out (fun k _ hk => by
    rw [Array.getElem?_eq_getElem hk]; exact old k _ (Array.getElem?_eq_getElem hk))
  have L5 : Hid ((Kd.int .i64).R 3 W8 w.heap.size (fun k => True) (.slice (some ⟨W7.heap.size, 0, none⟩) n.f5.length n.f5.length) n.f5) :=
    ints_R ⟨by simp, .inr ⟨W7.heap.size, n.f5.length, _, rfl, HB7.out.size, hg8, Nat.le_refl _, by unfold maxLen; omega, by simp [nums], by simp [nums, List.take_of_length_le]⟩⟩
  obtain ⟨gm, hgm⟩ : ∃ gm, W7.heap.size = gm := ⟨_, rfl⟩
  rw [hgm] at L5 hrun
  have HB8 := hidm hB8
  have NF := putNode_blk (W := W8.setCell ⟨w.heap.size, 5, none⟩ (.slice (some ⟨gm, 0, none⟩) n.f5.length n.f5.length)) _ _ _ _ _ _ _ (.int .i64 n.f0) (.string n.f1) (.int .i64 n.f2) (.string n.f3) (.slice B4 n.f4.length d4) (.slice (some ⟨gm, 0, none⟩) n.f5.length n.f5.length) (.slice B6 n.f6.length d6) (blk_far k10 (by show w.heap.size + 1 ≠ w.heap.size; omega) _)
  unfold putNode at NF
  simp only [List.getD_cons_zero, List.getD_cons_succ] at NF
  have r0 := blk_cell NF 0
  have r1 := blk_cell NF 1
  have r2 := blk_cell NF 2
  have r3 := blk_cell NF 3
  have r4 := blk_cell NF 4
  have r5 := blk_cell NF 5
  have r6 := blk_cell NF 6
  have kp := blk_put k9 5 (.slice (some ⟨gm, 0, none⟩) n.f5.length n.f5.length) rfl
  have kz := blk_far (g := w.heap.size + 1) k10 (p := ⟨w.heap.size, 5, none⟩) (by show w.heap.size + 1 ≠ w.heap.size; omega) (.slice (some ⟨gm, 0, none⟩) n.f5.length n.f5.length)
  have p0 := blk_cell kp 0
  have p1 := blk_cell kp 1
  have p2 := blk_cell kp 2
  have p3 := blk_cell kp 3
  have p4 := blk_cell kp 4
  have p5 := blk_cell kp 5
  have p6 := blk_cell kp 6
  have q5 := blk_cell k9 5
  have f5 := blk_frozen k9 5
  have z0 := blk_cell kz 0
  have z1 := blk_cell kz 1
  have z2 := blk_cell kz 2
  have z3 := blk_cell kz 3
  have z4 := blk_cell kz 4
  have z5 := blk_cell kz 5
  have z6 := blk_cell kz 6
  have fz := fun i => blk_frozen kz i
  have f1 : ∀ (k : Nat), k ≠ gm → k < W8.heap.size → k < (W8.setCell ⟨w.heap.size, 5, none⟩ (.slice (some ⟨gm, 0, none⟩) n.f5.length n.f5.length)).heap.size := fun k _ h => by simpa using h
  have HGN : Hid (gm ≠ w.heap.size ∧ gm ≠ w.heap.size + 1) := by rw [← hgm]; exact ⟨by omega, by omega⟩
  clear f1
  obtain ⟨F, hF⟩ : ∃ F, F = (((((((W8.setCell ⟨w.heap.size, 5, none⟩ (.slice (some ⟨gm, 0, none⟩) n.f5.length n.f5.length)).setCell ⟨w.heap.size + 1, 0, none⟩ (.int .i64 n.f0)).setCell ⟨w.heap.size + 1, 1, none⟩ (.string n.f1)).setCell ⟨w.heap.size + 1, 2, none⟩ (.int .i64 n.f2)).setCell ⟨w.heap.size + 1, 3, none⟩ (.string n.f3)).setCell ⟨w.heap.size + 1, 4, none⟩ (.slice B4 n.f4.length d4)).setCell ⟨w.heap.size + 1, 5, none⟩ (.slice (some ⟨gm, 0, none⟩) n.f5.length n.f5.length)).setCell ⟨w.heap.size + 1, 6, none⟩ (.slice B6 n.f6.length d6) := ⟨_, rfl⟩
  have HP : Hid (OwnPost n w (.returned (.agg #[.int .i64 n.f0, .string n.f1, .int .i64 n.f2, .string n.f3, .slice B4 n.f4.length d4, .slice (some ⟨gm, 0, none⟩) n.f5.length n.f5.length, .slice B6 n.f6.length d6])) F) := by
    have hfar : ∀ k, k ≠ w.heap.size → k ≠ w.heap.size + 1 → F.heap[k]? = W8.heap[k]? := fun k h1 h2 => by
      rw [hF]
      rw [Below.heap_setCell _ ⟨w.heap.size + 1, 6, none⟩ _ k h2, Below.heap_setCell _ ⟨w.heap.size + 1, 5, none⟩ _ k h2, Below.heap_setCell _ ⟨w.heap.size + 1, 4, none⟩ _ k h2, Below.heap_setCell _ ⟨w.heap.size + 1, 3, none⟩ _ k h2, Below.heap_setCell _ ⟨w.heap.size + 1, 2, none⟩ _ k h2, Below.heap_setCell _ ⟨w.heap.size + 1, 1, none⟩ _ k h2, Below.heap_setCell _ ⟨w.heap.size + 1, 0, none⟩ _ k h2, Below.heap_setCell _ ⟨w.heap.size, 5, none⟩ _ k h1]
    have hs1 : w.heap.size ≤ w.heap.size + 1 := Nat.le_succ _
    refine ⟨_, _, _, rfl, ?_, ?_, ?_, ?_⟩
    · exact Kd.R_mono (Kd.R_move (Kd.R_types L4.out k10 (by decide)) (fun k hk => hfar k hk.1.2 hk.2)) (fun _ _ => trivial)
    · exact Kd.R_mono (Kd.R_move (Kd.R_types (Kd.R_types L5.out k9 (by decide)) k10 (by decide)) (fun k hk => hfar k hk.1.2 hk.2)) (fun _ _ => trivial)
    · exact Kd.R_mono (Kd.R_move (Kd.R_types L6.out k10 (by decide)) (fun k hk => hfar k hk.1.2 hk.2)) (fun _ _ => trivial)
    · rw [hF]
      exact (((((((HB8.out.setCell (Nat.le_refl _) _).setCell hs1 _).setCell hs1 _).setCell hs1 _).setCell hs1 _).setCell hs1 _).setCell hs1 _).setCell hs1 _
  rw [← hF] at r0 r1 r2 r3 r4 r5 r6
  have HFF := hidm hF
  clear hg8 hW8 hsz hB8 old k9 k10 L4 L5 L6 NF kp kz hF K7 K8 HB7 J4 J6 HB8 HGN
  go_wp2_with fail
  rw [← HFF.out]
  simp [bodyPost, results, Try.results76, go_sem, r0, r1, r2, r3, r4, r5, r6]
  exact HP.out
end Go.Proofs.Ytlopfkkegjajlaa
namespace Go.Proofs.Ytlopfkkegjajlaa
open Go.RowKit Go.Proofs.YtlopfkkegjajlaaW.PrintWords PHistoryTouched
theorem rd_get {l : List S76} {j : Nat} (h : j < l.length) : rd_T76 l j = l[j] := by simp [rd_T76, List.getD_eq_getElem?_getD, List.getElem?_eq_getElem h]
theorem rdm_in {l : List S76} {j : Nat} (h : j < l.length) : rd_T76 l j ∈ l := by rw [rd_get h]; exact List.getElem_mem h
theorem in_rdm {l : List S76} {a : S76} (h : a ∈ l) : ∃ j : Nat, j < l.length ∧ rd_T76 l j = a := by
  obtain ⟨j, hj, e⟩ := List.getElem_of_mem h
  exact ⟨j, hj, by rw [rd_get hj]; exact e⟩
theorem rd_set_self {l : List S76} {q : Nat} (n : S76) (h : q < l.length) : rd_T76 (l.set q n) q = n := by rw [rd_get (by simpa using h)]; simp
theorem rd_set_ne {l : List S76} {q j : Nat} (n : S76) (hj : j < l.length) (h : j ≠ q) : rd_T76 (l.set q n) j = rd_T76 l j := by
  rw [rd_get (by simpa using hj), rd_get hj, List.getElem_set_ne (Ne.symm h)]
theorem rd_left {l m : List S76} {j : Nat} (h : j < l.length) : rd_T76 (l ++ m) j = rd_T76 l j := by
  rw [rd_get (by simp; omega), rd_get h, List.getElem_append_left h]
theorem rd_last {l : List S76} {n : S76} : rd_T76 (l ++ [n]) l.length = n := by rw [rd_get (by simp)]; simp
structure Ext (l l' : List S76) : Prop where
  len : l.length ≤ l'.length
  f0 : ∀ j : Nat, j < l.length → (rd_T76 l' j).f0 = (rd_T76 l j).f0
  f2 : ∀ j : Nat, j < l.length → (rd_T76 l' j).f2 = (rd_T76 l j).f2
theorem deep_ext {l l' : List S76} (h : Ext l l') : ∀ (k : Nat) (n n' : S76), n'.f2 = n.f2 → DeepOk l k n → DeepOk l' k n'
  | 0, _, _, _, hd => hd.elim
  | k + 1, n, n', e, hd => by
    rcases hd with h0 | ⟨p, hp, he, hd⟩
    · exact .inl (by rw [e]; exact h0)
    · exact .inr ⟨p, Nat.lt_of_lt_of_le hp h.len, by rw [h.f0 p hp, e]; exact he, deep_ext h k _ _ (h.f2 p hp) hd⟩
theorem deep_mono {l : List S76} : ∀ (k : Nat) (n : S76), DeepOk l k n → DeepOk l (k + 1) n
  | 0, _, hd => hd.elim
  | k + 1, n, hd => by
    rcases hd with h0 | ⟨p, hp, he, hd⟩
    · exact .inl h0
    · exact .inr ⟨p, hp, he, deep_mono k _ hd⟩
theorem deep_le {l : List S76} {k m : Nat} (h : k ≤ m) {n : S76} (hd : DeepOk l k n) : DeepOk l m n := by
  induction m with
  | zero => obtain rfl : k = 0 := by omega
            exact hd
  | succ m ih =>
    rcases Nat.lt_or_ge m k with h1 | h1
    · obtain rfl : k = m + 1 := by omega
      exact hd
    · exact deep_mono m n (ih h1)
theorem kids_same {l l' : List S76} (hl : l'.length = l.length) (h5 : ∀ j : Nat, j < l.length → (rd_T76 l' j).f5 = (rd_T76 l j).f5) : ∀ i : Nat, i ≤ l.length → kidsTo l' i = kidsTo l i := by
  intro i
  induction i with
  | zero => intro _; simp [kidsTo]
  | succ i ih =>
    intro h
    rw [kidsTo_succ l' i (by omega), kidsTo_succ l i (by omega), ih (by omega), h5 i (by omega)]
theorem kidsOk_ext {l l' : List S76} (hx : Ext l l') {n n' : S76} (h0 : n'.f0 = n.f0) (h5 : n'.f5 = n.f5) (h : KidsOk l n) : KidsOk l' n' := fun j hj => by
  rw [h5] at hj
  obtain ⟨p, hp, e1, e2⟩ := h j hj
  exact ⟨p, Nat.lt_of_lt_of_le hp hx.len, by rw [hx.f0 p hp, h5]; exact e1, by rw [hx.f2 p hp, h0]; exact e2⟩
theorem hangs_same {l l' : List S76} (hx : Ext l l') (hl : l'.length = l.length) (h5 : ∀ j : Nat, j < l.length → (rd_T76 l' j).f5 = (rd_T76 l j).f5) (h : HangsP l) : HangsP l' := by
  have hk := kids_same hl h5 l.length (Nat.le_refl _)
  refine ⟨fun i hi => ?_, fun i hi h2 => ?_, fun i hi h2 => ?_, fun i hi => ?_⟩ <;> rw [hl] at hi
  · exact kidsOk_ext hx (hx.f0 i hi) (h5 i hi) (h.kids i hi)
  · rw [hl, hk, hx.f0 i hi]; exact h.met0 i hi (by rw [← hx.f2 i hi]; exact h2)
  · rw [hl, hk, hx.f0 i hi]; exact h.met1 i hi (by rw [← hx.f2 i hi]; exact h2)
  · exact deep_ext hx 64 _ _ (hx.f2 i hi) (h.deep i hi)
theorem prev_ext {l l' : List S76} (hx : Ext l l') {i : Nat} (hi : i ≤ l.length) : prevId l' i = prevId l i := by
  cases i with
  | zero => rfl
  | succ i => rw [prevId_succ, prevId_succ, hx.f0 i (by omega)]
theorem ext_set {l : List S76} {q : Nat} {n : S76} (hq : q < l.length) (h0 : n.f0 = (rd_T76 l q).f0) (h2 : n.f2 = (rd_T76 l q).f2) : Ext l (l.set q n) :=
  ⟨by simp, fun j hj => by
    by_cases h : j = q
    · subst h; rw [rd_set_self n hq, h0]
    · rw [rd_set_ne n hj h], fun j hj => by
    by_cases h : j = q
    · subst h; rw [rd_set_self n hq, h2]
    · rw [rd_set_ne n hj h]⟩
theorem check_put {nx : Int} {l : List S76} {q : Nat} {ps : List S82} (hc : CheckP nx l) (hq : q < l.length) (hp : ∀ k : Nat, k < ps.length → PropOk ps k) : CheckP nx (l.set q { rd_T76 l q with f4 := ps }) := by
  have hx : Ext l (l.set q { rd_T76 l q with f4 := ps }) := ext_set hq rfl rfl
  have hl : (l.set q { rd_T76 l q with f4 := ps }).length = l.length := by simp
  refine ⟨hc.lo, hc.hi, by rw [hl]; exact hc.len, fun i hi => ?_, fun i hi => ?_, hangs_same hx hl (fun j hj => ?_) hc.hangs⟩
  · rw [hl] at hi; rw [prev_ext hx (by omega), hx.f0 i hi]; exact hc.ids i hi
  · rw [hl] at hi; rw [hl]
    by_cases h : i = q
    · subst h; rw [rd_set_self _ hq]
      have ha := hc.alone i hi
      exact ⟨ha.word, ha.root, ha.role, ha.kids, hp, ha.refs⟩
    · rw [rd_set_ne _ hi h]; exact hc.alone i hi
  · by_cases h : j = q
    · subst h; rw [rd_set_self _ hq]
    · rw [rd_set_ne _ hj h]
theorem alone_mono {nx nx' : Int} {len len' : Nat} {n : S76} (h : AloneP nx len n) (h1 : nx ≤ nx') (h2 : len ≤ len') : AloneP nx' len' n :=
  ⟨h.word, h.root, h.role, Nat.le_trans h.kids h2, h.props, fun k hk => ⟨(h.refs k hk).word, (h.refs k hk).lo, Int.lt_of_lt_of_le (h.refs k hk).hi h1, (h.refs k hk).up⟩⟩
structure Added (nx : Int) (l l' : List S76) (n : S76) : Prop where
  ext : Ext l l'
  len : l'.length = l.length + 1
  last : rd_T76 l' l.length = n
  id : n.f0 = nx
  none : n.f5 = []
  kids : ∀ j : Nat, j < l.length → ∃ i, (rd_T76 l' j).f5 = (rd_T76 l j).f5.take i ++ (if (rd_T76 l j).f0 = n.f2 then [nx] else []) ++ (rd_T76 l j).f5.drop i
  rest : ∀ j : Nat, j < l.length → (rd_T76 l' j).f1 = (rd_T76 l j).f1 ∧ (rd_T76 l' j).f3 = (rd_T76 l j).f3 ∧ (rd_T76 l' j).f4 = (rd_T76 l j).f4 ∧ (rd_T76 l' j).f6 = (rd_T76 l j).f6
  under : n.f2 = 0 ∨ ∃ q : Nat, q < l.length ∧ (rd_T76 l q).f0 = n.f2 ∧ DeepOk l 63 (rd_T76 l q)
theorem count_in (x nx : Int) (c : Bool) (f : List Int) (i : Nat) : (f.take i ++ (if c = true then [nx] else []) ++ f.drop i).count x = f.count x + (if c = true ∧ x = nx then 1 else 0) := by
  rw [List.count_append, List.count_append]
  have h := List.count_append (a := x) (l₁ := f.take i) (l₂ := f.drop i)
  rw [List.take_append_drop] at h
  have h2 : (if c = true then [nx] else []).count x = if c = true ∧ x = nx then 1 else 0 := by
    cases c with
    | false => simp
    | true =>
      by_cases e : x = nx
      · simp [e]
      · simp [e, Ne.symm e]
  omega
theorem kid_lt {nx : Int} {l : List S76} (h : CheckP nx l) {j : Nat} (hj : j < l.length) {x : Int} (hx : x ∈ (rd_T76 l j).f5) : x < nx := by
  obtain ⟨k, hk, e⟩ := List.getElem_of_mem hx
  obtain ⟨p, hp, e1, _⟩ := h.hangs.kids j hj k hk
  have : rd (rd_T76 l j).f5 k = x := by rw [← e]; simp [rd, List.getD_eq_getElem?_getD, List.getElem?_eq_getElem hk]
  have h2 := (h.ids p hp).2
  rw [e1, this] at h2; exact h2
theorem Added.count_ne {nx : Int} {l l' : List S76} {n : S76} (h : Added nx l l' n) {x : Int} (hx : x ≠ nx) : ∀ i : Nat, i ≤ l.length → (kidsTo l' i).count x = (kidsTo l i).count x := by
  intro i
  induction i with
  | zero => intro _; simp [kidsTo]
  | succ i ih =>
    intro hi
    obtain ⟨k, e⟩ := h.kids i (by omega)
    have hc := count_in x nx (decide ((rd_T76 l i).f0 = n.f2)) (rd_T76 l i).f5 k
    simp only [decide_eq_true_eq] at hc
    rw [kidsTo_succ l' i (by have := h.len; omega), kidsTo_succ l i (by omega), List.count_append, List.count_append, ih (by omega), e, hc, if_neg (fun h => hx h.2)]
    rfl
theorem Added.count_nx {nx : Int} {l l' : List S76} {n : S76} (h : Added nx l l' n) (hc : CheckP nx l) (q : Nat) (hq : ∀ j : Nat, j < l.length → ((rd_T76 l j).f0 = n.f2 ↔ j = q)) : ∀ i : Nat, i ≤ l.length → (kidsTo l' i).count nx = if q < i then 1 else 0 := by
  intro i
  induction i with
  | zero => intro _; simp [kidsTo]
  | succ i ih =>
    intro hi
    obtain ⟨k, e⟩ := h.kids i (by omega)
    have hcn := count_in nx nx (decide ((rd_T76 l i).f0 = n.f2)) (rd_T76 l i).f5 k
    simp only [decide_eq_true_eq] at hcn
    have h0 : (rd_T76 l i).f5.count nx = 0 := List.count_eq_zero.2 (fun hm => by have := kid_lt hc (by omega) hm; omega)
    rw [kidsTo_succ l' i (by have := h.len; omega), List.count_append, ih (by omega), e, hcn, h0]
    by_cases h1 : i = q
    · rw [if_pos (show (rd_T76 l i).f0 = n.f2 ∧ True from ⟨(hq i (by omega)).2 h1, trivial⟩), if_neg (show ¬ q < i by omega), if_pos (show q < i + 1 by omega)]
    · rw [if_neg (show ¬ ((rd_T76 l i).f0 = n.f2 ∧ True) from fun h2 => h1 ((hq i (by omega)).1 h2.1))]
      by_cases h3 : q < i
      · rw [if_pos h3, if_pos (show q < i + 1 by omega)]
      · rw [if_neg h3, if_neg (show ¬ q < i + 1 by omega)]
theorem Added.all {nx : Int} {l l' : List S76} {n : S76} (h : Added nx l l' n) : kidsTo l' l'.length = kidsTo l' l.length := by
  rw [h.len, kidsTo_succ l' l.length (by have := h.len; omega), h.last, h.none, List.append_nil]
theorem check_add {nx : Int} {l l' : List S76} {n : S76} (hc : CheckP nx l) (h : Added nx l l' n) (hf : nx ≤ 1048576) (hl : l.length < 4096) (ha : AloneP (nx + 1) (l.length + 1) n) : CheckP (nx + 1) l' := by
  have hu := ids_up hc.hi hc.ids
  have hlo := hc.lo
  have hlast : ∀ i : Nat, i < l'.length → i < l.length ∨ i = l.length := fun i hi => by have := h.len; omega
  have hk63 : ∀ j : Nat, j < l.length → (rd_T76 l' j).f0 < nx := fun j hj => by rw [h.ext.f0 j hj]; exact (hc.ids j hj).2
  refine ⟨by omega, by omega, by rw [h.len]; omega, fun i hi => ?_, fun i hi => ?_, ⟨fun i hi => ?_, fun i hi h2 => ?_, fun i hi h2 => ?_, fun i hi => ?_⟩⟩ <;> rcases hlast i hi with hi' | rfl
  · rw [prev_ext h.ext (by omega), h.ext.f0 i hi']
    have := hc.ids i hi'
    exact ⟨this.1, by omega⟩
  · rw [prev_ext h.ext (Nat.le_refl _), h.last, h.id]
    refine ⟨?_, by omega⟩
    cases hl' : l.length with
    | zero => rw [prevId_zero]; omega
    | succ m => rw [prevId_succ]; exact (hc.ids m (by omega)).2
  · rw [h.len]
    have hb := alone_mono (hc.alone i hi') (show nx ≤ nx + 1 by omega) (Nat.le_succ _)
    obtain ⟨r1, r3, r4, r6⟩ := h.rest i hi'
    obtain ⟨k, e⟩ := h.kids i hi'
    refine ⟨by rw [r1]; exact hb.word, by rw [h.ext.f2 i hi', r3]; exact hb.root, by rw [r3]; exact hb.role, ?_, by rw [r4]; exact hb.props, by rw [r6]; exact hb.refs⟩
    have h5 := (hc.alone i hi').kids
    have h6 := congrArg List.length e
    have h7 : (rd_T76 l i).f5.length = ((rd_T76 l i).f5.take k).length + ((rd_T76 l i).f5.drop k).length := by rw [← List.length_append, List.take_append_drop]
    have h8 : (if (rd_T76 l i).f0 = n.f2 then [nx] else []).length ≤ 1 := by split <;> simp
    rw [List.length_append, List.length_append] at h6
    omega
  · rw [h.len, h.last]; exact ha
  · obtain ⟨k, e⟩ := h.kids i hi'
    intro j hj
    have hm : rd (rd_T76 l' i).f5 j ∈ (rd_T76 l' i).f5 := by
      have : rd (rd_T76 l' i).f5 j = (rd_T76 l' i).f5[j] := by simp [rd, List.getD_eq_getElem?_getD, List.getElem?_eq_getElem hj]
      rw [this]; exact List.getElem_mem hj
    generalize rd (rd_T76 l' i).f5 j = x at hm
    rw [e, List.append_assoc, List.mem_append, List.mem_append] at hm
    have old : x ∈ (rd_T76 l i).f5 → ∃ p : Nat, p < l'.length ∧ (rd_T76 l' p).f0 = x ∧ (rd_T76 l' p).f2 = (rd_T76 l' i).f0 := fun hx => by
      obtain ⟨a, ha', e'⟩ := List.getElem_of_mem hx
      obtain ⟨p, hp, e1, e2⟩ := hc.hangs.kids i hi' a ha'
      have e3 : rd (rd_T76 l i).f5 a = x := by rw [← e']; simp [rd, List.getD_eq_getElem?_getD, List.getElem?_eq_getElem ha']
      exact ⟨p, by rw [h.len]; omega, by rw [h.ext.f0 p hp, e1, e3], by rw [h.ext.f2 p hp, h.ext.f0 i hi', e2]⟩
    rcases hm with hm | hm | hm
    · exact old (List.mem_of_mem_take hm)
    · by_cases hq : (rd_T76 l i).f0 = n.f2
      · rw [if_pos hq] at hm
        obtain rfl := List.mem_singleton.1 hm
        exact ⟨l.length, by rw [h.len]; omega, by rw [h.last, h.id], by rw [h.last, h.ext.f0 i hi', hq]⟩
      · rw [if_neg hq] at hm; simp at hm
    · exact old (List.mem_of_mem_drop hm)
  · rw [h.last]; intro j hj; rw [h.none] at hj; simp at hj
  · rw [h.all, h.count_ne (by have := hk63 i hi'; omega) _ (Nat.le_refl _), h.ext.f0 i hi']
    exact hc.hangs.met0 i hi' (by rw [← h.ext.f2 i hi']; exact h2)
  · rw [h.last] at h2
    rw [h.all, h.last, h.id, h.count_nx hc l.length (fun j hj => ?_) _ (Nat.le_refl _), if_neg (by omega)]
    constructor
    · intro e; have := hu.lo j hj; omega
    · intro e; omega
  · rw [h.all, h.count_ne (by have := hk63 i hi'; omega) _ (Nat.le_refl _), h.ext.f0 i hi']
    exact hc.hangs.met1 i hi' (by rw [← h.ext.f2 i hi']; exact h2)
  · rw [h.last] at h2
    rcases h.under with h0 | ⟨q, hq, e, _⟩
    · exact absurd h0 h2
    · rw [h.all, h.last, h.id, h.count_nx hc q (fun j hj => ⟨fun e' => same_id hu hj hq (by rw [e', e]), fun e' => by rw [e', e]⟩) _ (Nat.le_refl _), if_pos hq]
  · exact deep_ext h.ext 64 _ _ (h.ext.f2 i hi') (hc.hangs.deep i hi')
  · rw [h.last]
    rcases h.under with h0 | ⟨q, hq, e, hd⟩
    · exact .inl h0
    · exact .inr ⟨q, by rw [h.len]; omega, by rw [h.ext.f0 q hq, e], deep_ext h.ext 63 _ _ (h.ext.f2 q hq) hd⟩
theorem up_one {L : List Int} {a : Int} (hL : L.Pairwise (· < ·)) (h : ∀ x ∈ L, x = a) : L = [] ∨ L = [a] := by
  cases L with
  | nil => exact .inl rfl
  | cons x L =>
    cases L with
    | nil => exact .inr (by rw [h x List.mem_cons_self])
    | cons y L =>
      have h1 := h x List.mem_cons_self
      have h2 := h y (by simp)
      have := (List.pairwise_cons.1 hL).1 y List.mem_cons_self
      omega
theorem up_two {L : List Int} {a b : Int} (hL : L.Pairwise (· < ·)) (hab : a < b) (h : ∀ x, x ∈ L ↔ x = a ∨ x = b) : L = [a, b] := by
  cases L with
  | nil => have := (h a).2 (.inl rfl); simp at this
  | cons x L =>
    obtain ⟨h1, h2⟩ := List.pairwise_cons.1 hL
    have hx : x = a := by
      rcases (h x).1 List.mem_cons_self with e | e
      · exact e
      · have ha := (h a).2 (.inl rfl)
        rcases List.mem_cons.1 ha with e' | e'
        · exact e'.symm
        · have := h1 a e'; omega
    subst hx
    rcases up_one (a := b) h2 (fun y hy => by
      rcases (h y).1 (List.mem_cons_of_mem _ hy) with e | e
      · have := h1 y hy; omega
      · exact e) with e | e
    · have hb := (h b).2 (.inr rfl)
      rw [e] at hb
      have := List.mem_singleton.1 hb
      omega
    · rw [e]
theorem touched_put {l : List S76} {q : Nat} {n : S76} (hl : Up l) (hl' : Up (l.set q n)) (hq : q < l.length) (h0 : n.f0 = (rd_T76 l q).f0) : refT l (l.set q n) = [] ∨ refT l (l.set q n) = [(rd_T76 l q).f0] := by
  refine up_one (refT_up hl hl').1 (fun x hx => ?_)
  rcases (mem_refT hl hl' x).1 hx with ⟨a, ha, e, hn⟩ | ⟨b, hb, e, hn⟩
  · obtain ⟨j, hj, rfl⟩ := in_rdm ha
    by_cases h : j = q
    · rw [← e, h]
    · exact absurd (by rw [← rd_set_ne n hj h]; exact rdm_in (by simpa using hj)) hn
  · obtain ⟨j, hj, rfl⟩ := in_rdm hb
    have hj' : j < l.length := by simpa using hj
    by_cases h : j = q
    · subst h; rw [← e, rd_set_self n hq, h0]
    · rw [rd_set_ne n hj' h] at hn; exact absurd (rdm_in hj') hn
theorem touched_add0 {nx : Int} {l : List S76} {n : S76} (hc : CheckP nx l) (h0 : n.f0 = nx) (hl' : Up (l ++ [n])) : refT l (l ++ [n]) = [nx] := by
  have hl := up_of_check hc
  have hn : n ∉ l := fun hm => by
    obtain ⟨j, hj, rfl⟩ := in_rdm hm
    have := (hc.ids j hj).2; omega
  rcases up_one (a := nx) (refT_up hl hl').1 (fun x hx => by
    rcases (mem_refT hl hl' x).1 hx with ⟨a, ha, e, hn'⟩ | ⟨b, hb, e, hn'⟩
    · exact absurd (List.mem_append_left _ ha) hn'
    · rcases List.mem_append.1 hb with h | h
      · exact absurd h hn'
      · rw [List.mem_singleton.1 h] at e; omega) with e | e
  · have := (mem_refT hl hl' nx).2 (.inr ⟨n, by simp, h0, hn⟩)
    rw [e] at this; simp at this
  · exact e
theorem touched_add1 {nx : Int} {l : List S76} {q : Nat} {p n : S76} (hc : CheckP nx l) (hq : q < l.length) (h0 : n.f0 = nx) (hp0 : p.f0 = (rd_T76 l q).f0) (hp : p ≠ rd_T76 l q) (hl' : Up (l.set q p ++ [n])) : refT l (l.set q p ++ [n]) = [(rd_T76 l q).f0, nx] := by
  have hl := up_of_check hc
  have hid := (hc.ids q hq).2
  have hlt : ∀ a ∈ l, a.f0 < nx := fun a ha => by
    obtain ⟨j, hj, rfl⟩ := in_rdm ha
    exact (hc.ids j hj).2
  refine up_two (refT_up hl hl').1 hid (fun x => ?_)
  rw [mem_refT hl hl' x]
  constructor
  · rintro (⟨a, ha, e, hn⟩ | ⟨b, hb, e, hn⟩)
    · obtain ⟨j, hj, rfl⟩ := in_rdm ha
      by_cases h : j = q
      · left; rw [← e, h]
      · exact absurd (List.mem_append_left _ (by rw [← rd_set_ne p hj h]; exact rdm_in (by simpa using hj))) hn
    · rcases List.mem_append.1 hb with h | h
      · obtain ⟨j, hj, rfl⟩ := in_rdm h
        have hj' : j < l.length := by simpa using hj
        by_cases h : j = q
        · subst h; left; rw [← e, rd_set_self p hq, hp0]
        · rw [rd_set_ne p hj' h] at hn; exact absurd (rdm_in hj') hn
      · right; rw [← e, List.mem_singleton.1 h, h0]
  · rintro (rfl | rfl)
    · refine .inl ⟨rd_T76 l q, rdm_in hq, rfl, fun hm => ?_⟩
      have hpm : p ∈ l.set q p ++ [n] := List.mem_append_left _ (by
        have := rdm_in (l := l.set q p) (j := q) (by simpa using hq)
        rwa [rd_set_self p hq] at this)
      exact hp (hl'.inj hpm hm hp0)
    · exact .inr ⟨n, by simp, h0, fun hm => by have := hlt n hm; omega⟩
end Go.Proofs.Ytlopfkkegjajlaa
namespace Go.Proofs.Ytlopfkkegjajlaa
open Go.RowKit Go.Proofs.YtlopfkkegjajlaaW.PrintWords PHistoryTouched
structure TwL (W : World) (B : Nat) (l : List S76) (v : Value) (lab : Nat → Nat) (inner : List Value) : Prop where
  own : W.ownsRow B 76 7 v l.length inner
  lab0 : ∀ k, v.ownBlock = some k → lab k = 0
  node : ∀ j : Nat, j < l.length → k76.M W B (fun k => lab k = j + 1) (rd_T76 l j) ((inner.drop (j * 7)).take 7)
theorem TwL.R {W : World} {B : Nat} {l : List S76} {v : Value} {lab : Nat → Nat} {inner : List Value} (h : TwL W B l v lab inner) : k76.R 76 W B (fun _ => True) v l :=
  ⟨fun _ _ => trivial, inner, h.own, h.own.1, fun j p hj => by
    have hj' := (List.getElem?_eq_some_iff.1 hj).1
    have e : rd_T76 l j = p := by simp [rd_T76, List.getD_eq_getElem?_getD, hj]
    have := h.node j hj'
    rw [e] at this
    exact k76.M_mono (fun k hk => ⟨trivial, fun e => by have := h.lab0 k e.symm; omega⟩) this⟩
theorem TwL.nil (W : World) (B : Nat) : TwL W B [] (.slice none 0 0) (fun _ => 0) [] := ⟨⟨rfl, .inl ⟨rfl, rfl⟩⟩, fun _ _ => rfl, fun j hj => by simp at hj⟩
theorem TwL.below {W W' : World} {B : Nat} {l : List S76} {v : Value} {lab : Nat → Nat} {inner : List Value} (h : TwL W B l v lab inner) (hb : Below W.heap.size W W') : TwL W' B l v lab inner :=
  ⟨own_move h.own (fun k hk => hb.block k (own_lt h.own k hk)), h.lab0, fun j hj => Kd.M_below (h.node j hj) hb⟩
theorem drop_take_app {α : Type} {L M : List α} {j n : Nat} (h : L.length = n * 7) (hj : j < n) : ((L ++ M).drop (j * 7)).take 7 = (L.drop (j * 7)).take 7 := by
  rw [List.drop_append_of_le_length (by omega), List.take_append_of_le_length (by simp; omega)]
theorem TwL.snoc {W w1 w2 : World} {B : Nat} {l : List S76} {v v1 : Value} {lab : Nat → Nat} {inner : List Value} {n : S76} {v4 v5 v6 : Value} (h : TwL W B l v lab inner) (hWB : B ≤ W.heap.size) (hb : Below W.heap.size W w1)
    (h4 : k82.R 82 w1 W.heap.size (fun _ => True) v4 n.f4) (h5 : (Kd.int .i64).R 3 w1 W.heap.size (fun _ => True) v5 n.f5) (h6 : k84.R 84 w1 W.heap.size (fun _ => True) v6 n.f6)
    (hown : w2.ownsRow B 76 7 v1 (l.length + 1) (inner ++ [.int .i64 n.f0, .string n.f1, .int .i64 n.f2, .string n.f3, v4, v5, v6])) (hg : w1.grownBy w2 v.ownBlock) (hat : v1.ownBlock = v.ownBlock ∨ ∃ b, v1.ownBlock = some b ∧ w1.heap.size ≤ b) :
    ∃ lab', TwL w2 B (l ++ [n]) v1 lab' (inner ++ [.int .i64 n.f0, .string n.f1, .int .i64 n.f2, .string n.f3, v4, v5, v6]) := by
  have hbs := hb.size
  refine ⟨fun k => if k < W.heap.size then lab k else if k < w1.heap.size then l.length + 1 else 0, by rw [List.length_append]; exact hown, fun k hk => ?_, fun j hj => ?_⟩
  · rcases hat with hat | ⟨b, hb', hle⟩
    · rw [hat] at hk
      have := own_lt h.own k hk
      rw [if_pos this]; exact h.lab0 k hk
    · rw [hb'] at hk
      injection hk with hk
      rw [if_neg (by omega), if_neg (by omega)]
  · have hvl : ∀ k, v.ownBlock = some k → k < W.heap.size ∧ lab k = 0 := fun k hk => ⟨own_lt h.own k hk, h.lab0 k hk⟩
    have hl7 : inner.length = l.length * 7 := h.own.1
    rcases Nat.lt_or_ge j l.length with h1 | h1
    · rw [rd_left h1, drop_take_app hl7 h1]
      have hm := Kd.M_below (h.node j h1) hb
      refine k76.M_mono (fun k hk => ?_) (Kd.M_grown (k76.M_bound (h.node j h1 |> fun x => x) |> fun x => Kd.M_below x hb) hg (fun k hk e => by have := hvl k e.symm; omega))
      rw [if_pos hk.2.2.1]; exact hk.1
    · have hj' : j = l.length := by simp at hj; omega
      subst hj'
      rw [rd_last, ← hl7, List.drop_left, List.take_of_length_le (by simp)]
      have mk := k76_mkM w1 W.heap.size (fun _ => True) n h4 h5 h6
      refine k76.M_lower hWB (k76.M_mono (fun k hk => ?_) (Kd.M_grown (k76.M_bound mk) hg (fun k hk e => by have := hvl k e.symm; omega)))
      rw [if_neg (by omega), if_pos hk.2.2.1]
theorem TwL.set {W : World} {B : Nat} {l : List S76} {v : Value} {lab : Nat → Nat} {inner : List Value} (h : TwL W B l v lab inner) {g t : Nat} {cells : Array Value} (hb : W.heap[g]? = some (.cells cells t (0, 0))) (ht : ∀ q, q ∈ 76 :: k76.E → q ≠ t) (j : Nat) (u : Value) : TwL (W.setCell ⟨g, j, none⟩ u) B l v lab inner :=
  ⟨own_setCell h.own (p := ⟨g, j, none⟩) (Kd.R_ne h.R hb (ht 76 List.mem_cons_self)) u, h.lab0, fun i hi => k76.M_mono (fun _ hk => hk.1) (Kd.M_far (p := ⟨g, j, none⟩) (Kd.M_types (h.node i hi) hb (fun q hq => ht q (List.mem_cons_of_mem _ hq))) (fun _ hk => hk.2) u)⟩
theorem own_slice {W : World} {B e sz n : Nat} {v : Value} {xs : List Value} (h : W.ownsRow B e sz v n xs) : ∃ A c, v = .slice A n c ∧ n ≤ c := by
  rcases h.2 with ⟨rfl, rfl⟩ | ⟨g, c, cur, rfl, _, _, hc, _⟩
  · exact ⟨none, 0, rfl, Nat.le_refl _⟩
  · exact ⟨_, c, rfl, hc⟩
def ATwinPost (nx : Int) (l : List S76) (w : World) (e : Ending) (w' : World) : Prop := ∃ v lab inner, e = .returned (.agg #[.int .i64 nx, v]) ∧ TwL w' w.heap.size l v lab inner ∧ Below w.heap.size w w'
structure ATwI (w : World) (nx : Int) (A : Option Addr) (l : List S76) (c : Nat) (k : Nat) (W : World) : Prop where
  b : Below w.heap.size w W
  k1 : W.heap[w.heap.size]? = some (.cells #[.int .i64 nx, .slice A l.length c] 27 (0, 0))
  k2 : W.heap[w.heap.size + 1]? = some (.cells #[.int .i64 0, .slice none 0 0] 27 (0, 0))
  r : ∃ v lab inner, W.heap[w.heap.size + 1 + 1]? = some (.cells #[.int .i64 nx, v] 27 (0, 0)) ∧ TwL W w.heap.size (l.take k) v lab inner
set_option maxRecDepth 100000 in
set_option maxHeartbeats 4000000 in
theorem atwin_any (nx : Int) (A : Option Addr) (l : List S76) (c : Nat) (w : World) (hr : Kd.C k76 w A l.length l) (hs : SmallL l) :
    Calls Try.prog 55 #[.agg #[.int .i64 nx, .slice A l.length c]] w (ATwinPost nx l w) := by
  have HR := hidm hr
  have HS := hidm hs
  have hln : l.length ≤ 1048576 := hs.n
  have HI0 : Hid (ATwI w nx A l c 0 ((((w.alloc (.cells #[.int .i64 nx, .slice A l.length c] 27)).alloc (.cells #[.int .i64 0, .slice none 0 0] 27)).alloc (.cells #[.int .i64 nx, .slice none 0 0] 27)))) := by
    have hx := boxed2 w (.cells #[.int .i64 nx, .slice A l.length c] 27) (.cells #[.int .i64 0, .slice none 0 0] 27)
    refine ⟨below_alloc hx.b _, blk_alloc hx.k1 _, blk_alloc hx.k2 _, .slice none 0 0, fun _ => 0, [], ?_, TwL.nil _ _⟩
    have := blk_new ((w.alloc (.cells #[.int .i64 nx, .slice A l.length c] 27)).alloc (.cells #[.int .i64 0, .slice none 0 0] 27)) (.cells #[.int .i64 nx, .slice none 0 0] 27)
    simpa using this
  clear hr hs
  go_enter Try.func55, Try.ntmps55
  go_wp2_with fail
  generalize (World.alloc (World.alloc (World.alloc _ _) _) _) = W0 at HI0 ⊢
  go_loopw [5, 12] (fun _ i W => ∃ k : Nat, k ≤ l.length ∧ i = .int .i64 k ∧ Hid (ATwI w nx A l c k W)) (fun _ i _ => l.length - (intOf i).toNat)
  case atStart => exact ⟨0, Nat.zero_le _, rfl, HI0⟩
  case round =>
    obtain ⟨k, hk, rfl, HI⟩ := hrel
    by_cases hlt : k < l.length
    · obtain ⟨ad, A4, c4, A5, c5, A6, c6, rfl, x0, x1, x2, x3, x4, x5, x6, hn⟩ := node_atN (Kd.C_below HR.out HI.out.b) k (by omega)
      have HN := hidm hn
      have S4 := hidm (HS.out.p k hlt)
      have S5 := hidm (HS.out.k k hlt)
      have S6 := hidm (HS.out.r k hlt)
      have hk0 : (0 : Int) ≤ (k : Int) := by omega
      have hk1 : (k : Int) < (l.length : Int) := by omega
      have TK : Hid (l.take (k + 1) = l.take k ++ [rd_T76 l k]) := take_rd hlt
      have HKL : Hid ((l.take k).length = k) := by rw [Hid, List.length_take]; omega
      clear hn
      generalize rd_T76 l k = n at *
      go_wp2_with fail
      clear x0 x1 x2 x3 x4 x5 x6
      have HN1 := hidm (HN.out.below (below_alloc (Below.refl _ _) (.cells (nodeCs n A4 c4 A5 c5 A6 c6) 76)))
      obtain ⟨v, lab, inner, h3, ht⟩ := HI.out.r
      have hb1 : Below wr.heap.size wr (wr.alloc (.cells (nodeCs n A4 c4 A5 c5 A6 c6) 76)) := below_alloc (Below.refl _ _) _
      have KN : Hid ((wr.alloc (.cells (nodeCs n A4 c4 A5 c5 A6 c6) 76)).heap[wr.heap.size]? = some (.cells (nodeCs n A4 c4 A5 c5 A6 c6) 76 (0, 0))) := blk_new _ _
      have K1 := hidm (blk_below HI.out.k1 hb1)
      have K2 := hidm (blk_below HI.out.k2 hb1)
      have K3 := hidm (blk_below h3 hb1)
      have HT := hidm (ht.below hb1)
      have HB := hidm (below_step HI.out.b hb1)
      clear HI h3 ht hb1 HN
      generalize (wr.alloc (.cells (nodeCs n A4 c4 A5 c5 A6 c6) 76)) = W1 at HN1 KN K1 K2 K3 HT HB ⊢
      generalize wr.heap.size = gn at KN ⊢
      obtain ⟨Av, cv, hv, _⟩ := Kd.R_reads HT.out.R
      rw [HKL.out] at hv
      subst hv
      have y3 : ∀ x : BW W1, x.1.cell? ⟨w.heap.size + 1 + 1, 1, none⟩ = some (.slice Av k cv) := bw_cell (blk_cell K3.out 1)
      have y0 : ∀ x : BW W1, x.1.cell? ⟨gn, 0, none⟩ = some (.int .i64 n.f0) := bw_cell (blk_cell KN.out 0)
      have y1 : ∀ x : BW W1, x.1.cell? ⟨gn, 1, none⟩ = some (.string n.f1) := bw_cell (blk_cell KN.out 1)
      have y2 : ∀ x : BW W1, x.1.cell? ⟨gn, 2, none⟩ = some (.int .i64 n.f2) := bw_cell (blk_cell KN.out 2)
      have y4 : ∀ x : BW W1, x.1.cell? ⟨gn, 3, none⟩ = some (.string n.f3) := bw_cell (blk_cell KN.out 3)
      have y5 : ∀ x : BW W1, x.1.cell? ⟨gn, 4, none⟩ = some (.slice A4 n.f4.length c4) := bw_cell (blk_cell KN.out 4)
      have y6 : ∀ x : BW W1, x.1.cell? ⟨gn, 5, none⟩ = some (.slice A5 n.f5.length c5) := bw_cell (blk_cell KN.out 5)
      have y7 : ∀ x : BW W1, x.1.cell? ⟨gn, 6, none⟩ = some (.slice A6 n.f6.length c6) := bw_cell (blk_cell KN.out 6)
      clear KN
      refine wp_region_noPanic ?_
      refine wp_region_hold (C := fun w' => ∃ x : BW W1, w' = x.1) 5 [] [0, 1, 2] [3, 4] (by kernel_rfl) (by kernel_rfl) (by kernel_rfl) (by kernel_rfl) (fun _ _ _ _ _ h => (h : False).elim) ⟨⟨{ W1 with drawn := W1.drawn + 1 }, ⟨rfl, rfl, rfl, Nat.le_refl _, fun _ _ => rfl⟩⟩, rfl⟩ ?_
      simp only [pickOps, Option.elim_some, List.getElem?_cons_succ, List.getElem?_cons_zero, List.drop_succ_cons, List.drop_zero]
      repeat (go_big_quiet_step (fail))
      refine wpQuiet_nil ?_
      rintro _ ⟨x, rfl⟩
      clear y0 y1 y2 y3 y4 y5 y6 y7
      replace HN1 := hidm (HN1.out.below x.2)
      replace K1 := hidm (blk_below K1.out x.2)
      replace K2 := hidm (blk_below K2.out x.2)
      replace K3 := hidm (blk_below K3.out x.2)
      replace HT := hidm (HT.out.below x.2)
      replace HB := hidm (below_step HB.out x.2)
      have HXC : Hid (∀ y, Below x.1.heap.size x.1 y → ∃ z : BW W1, y = z.1) := fun y hy => ⟨⟨y, below_step x.2 hy⟩, rfl⟩
      generalize x.1 = W2 at *
      refine ⟨_, rfl, rfl, .inl ⟨76, #[nodeV n A4 c4 A5 c5 A6 c6], ?_, ?_⟩⟩
      · go_simp
      refine (own_any n A4 A5 A6 c4 c5 c6 W2 HN1.out S4.out S5.out S6.out).mono ?_
      rintro e w3 ⟨v4, v5, v6, rfl, h4, h5, h6, hb3⟩
      refine ⟨_, rfl, HXC.out w3 hb3, ?_⟩
      simp only [Act.put, List.getElem_toArray, List.getElem_cons_succ, List.getElem_cons_zero, List.setIfInBounds_toArray, List.set_cons_zero, List.set_cons_succ]
      refine ⟨_, rfl, rfl, .inr ⟨.slice (some ⟨w3.heap.size, 0, none⟩) 1 1, w3.alloc (.cells [.int .i64 n.f0, .string n.f1, .int .i64 n.f2, .string n.f3, v4, v5, v6].toArray 76), by go_simp, HXC.out _ (below_alloc hb3 _), ?_⟩⟩
      simp only [Act.put, List.getElem_toArray, List.getElem_cons_succ, List.getElem_cons_zero, List.setIfInBounds_toArray, List.set_cons_zero, List.set_cons_succ]
      have HO3 : Hid (w3.ownsRow w.heap.size 76 7 (.slice Av k cv) k inner) := by
        have := (HT.out.below hb3).own
        rw [HKL.out] at this; exact this
      have K1' := hidm (blk_below K1.out hb3)
      have K2' := hidm (blk_below K2.out hb3)
      have K3' := hidm (blk_below K3.out hb3)
      have HR3 : Hid (k76.R 76 w3 w.heap.size (fun _ => True) (.slice Av k cv) (l.take k)) := (HT.out.below hb3).R
      have HB3 := hidm (below_step HB.out hb3)
      have H1 : Hid (∀ u ∈ ([.int .i64 n.f0, .string n.f1, .int .i64 n.f2, .string n.f3, v4, v5, v6] : List Value), u.oneCell' = true) := k76.K_one (k76.K_of_M (k76_mkM w3 W2.heap.size (fun _ => True) n h4 h5 h6))
      have HX : Hid (∀ v1 w1, w1.ownsRow w.heap.size 76 7 v1 ((l.take k).length + 1) (inner ++ [.int .i64 n.f0, .string n.f1, .int .i64 n.f2, .string n.f3, v4, v5, v6]) → w3.grownBy w1 (Value.slice Av k cv).ownBlock → (v1.ownBlock = (Value.slice Av k cv).ownBlock ∨ ∃ b, v1.ownBlock = some b ∧ w3.heap.size ≤ b) → ∃ lab', TwL w1 w.heap.size (l.take k ++ [n]) v1 lab' (inner ++ [.int .i64 n.f0, .string n.f1, .int .i64 n.f2, .string n.f3, v4, v5, v6])) :=
        fun v1 w1 ho hg hat => HT.out.snoc HB.out.size hb3 h4 h5 h6 ho hg hat
      clear h4 h5 h6 hb3 HT HB K1 K2 K3 HXC HN1
      show wpList _ _ _ _ _ _
      go_wp2_with ((
        at_builtin
        refine print_append_cells (w0 := w) w.heap.size rfl (.tmp 17) (.tmp 20) 25 76 (.agg zero7) 7 120 rfl Try.underlying25 info76 rfl (by decide) (by decide) (.slice Av k cv) k inner [.int .i64 n.f0, .string n.f1, .int .i64 n.f2, .string n.f3, v4, v5, v6] rfl rfl rfl H1.out HO3.out HB3.out HB3.out.size (by omega) (fun v1 w1 ho1 hb1 hg1 hat1 => ?_)
        obtain ⟨A1, c1, rfl, _⟩ := own_slice ho1
        have m1 : w1.heap[w.heap.size]? = _ := (hg1.block _ (blk_lt K1'.out) (Kd.R_ne HR3.out K1'.out (by decide))).trans K1'.out
        have m2 : w1.heap[w.heap.size + 1]? = _ := (hg1.block _ (blk_lt K2'.out) (Kd.R_ne HR3.out K2'.out (by decide))).trans K2'.out
        have m3 : w1.heap[w.heap.size + 1 + 1]? = _ := (hg1.block _ (blk_lt K3'.out) (Kd.R_ne HR3.out K3'.out (by decide))).trans K3'.out
        have HI2 : Hid (ATwI w nx (some ad) l c (k + 1) (w1.setCell ⟨w.heap.size + 1 + 1, 1, none⟩ (.slice A1 (k + 1) c1))) := by
          obtain ⟨lab', ht'⟩ := HX.out (.slice A1 (k + 1) c1) w1 (by rw [HKL.out]; exact ho1) hg1 hat1
          rw [← TK.out] at ht'
          exact ⟨hb1.setCell (show w.heap.size ≤ w.heap.size + 1 + 1 by omega) _, blk_far m1 (by show w.heap.size ≠ w.heap.size + 1 + 1; omega) _, blk_far m2 (by show w.heap.size + 1 ≠ w.heap.size + 1 + 1; omega) _, _, lab', _, blk_put m3 1 _ rfl, ht'.set m3 (by decide) 1 _⟩
        have z3 : w1.cell? ⟨w.heap.size + 1 + 1, 1, none⟩ = some (.slice Av k cv) := blk_cell m3 1
        have fz : ∀ i, w1.frozen? ⟨w.heap.size + 1 + 1, i, none⟩ = false := blk_frozen m3
        clear m1 m2 m3 ho1 hb1 hg1 hat1))
      refine NoPanic.normal ?_
      clear z3 fz
      go_wp2_with fail
      go_roundw
      case rel => exact ⟨k + 1, by omega, by go_num, HI2⟩
      case measure => simp [intOf]; omega
    · obtain rfl : k = l.length := by omega
      obtain ⟨v, lab, inner, h3, ht⟩ := HI.out.r
      rw [List.take_length] at ht
      obtain ⟨A1, c1, rfl, _⟩ := own_slice ht.own
      have q0 : wr.cell? ⟨w.heap.size + 1 + 1, 0, none⟩ = some (.int .i64 nx) := blk_cell h3 0
      have q1 : wr.cell? ⟨w.heap.size + 1 + 1, 1, none⟩ = some (.slice A1 l.length c1) := blk_cell h3 1
      have q2 : wr.cell? ⟨w.heap.size + 1, 0, none⟩ = some (.int .i64 0) := blk_cell HI.out.k2 0
      have q3 : wr.cell? ⟨w.heap.size + 1, 1, none⟩ = some (.slice none 0 0) := blk_cell HI.out.k2 1
      have ff : ∀ i, wr.frozen? ⟨w.heap.size + 1, i, none⟩ = false := blk_frozen HI.out.k2
      have N2 := blk_put (cs' := #[.int .i64 nx, .slice A1 l.length c1]) (blk_put (cs' := #[.int .i64 nx, .slice none 0 0]) HI.out.k2 0 (.int .i64 nx) rfl) 1 (.slice A1 l.length c1) rfl
      have r0 : ((wr.setCell ⟨w.heap.size + 1, 0, none⟩ (.int .i64 nx)).setCell ⟨w.heap.size + 1, 1, none⟩ (.slice A1 l.length c1)).cell? ⟨w.heap.size + 1, 0, none⟩ = some (.int .i64 nx) := blk_cell N2 0
      have r1 : ((wr.setCell ⟨w.heap.size + 1, 0, none⟩ (.int .i64 nx)).setCell ⟨w.heap.size + 1, 1, none⟩ (.slice A1 l.length c1)).cell? ⟨w.heap.size + 1, 1, none⟩ = some (.slice A1 l.length c1) := blk_cell N2 1
      have HP : Hid (ATwinPost nx l w (.returned (.agg #[.int .i64 nx, .slice A1 l.length c1])) ((wr.setCell ⟨w.heap.size + 1, 0, none⟩ (.int .i64 nx)).setCell ⟨w.heap.size + 1, 1, none⟩ (.slice A1 l.length c1))) :=
        ⟨_, lab, inner, rfl, (ht.set HI.out.k2 (by decide) 0 _).set (blk_put HI.out.k2 0 _ rfl) (by decide) 1 _, (HI.out.b.setCell (show w.heap.size ≤ w.heap.size + 1 by omega) _).setCell (show w.heap.size ≤ w.heap.size + 1 by omega) _⟩
      clear HI h3 ht N2
      go_wp2_with fail
      simp [bodyPost, results, Try.results55, go_sem, r0, r1]
      exact HP.out
end Go.Proofs.Ytlopfkkegjajlaa
namespace Go.Proofs.Ytlopfkkegjajlaa
open Go.RowKit Go.Proofs.YtlopfkkegjajlaaW.PrintWords PHistoryTouched
def rowAt (inner : List Value) (j : Nat) : List Value := (inner.drop (j * 7)).take 7
theorem rowAt_get {inner : List Value} {j i : Nat} (hi : i < 7) : (rowAt inner j)[i]? = inner[j * 7 + i]? := by
  unfold rowAt
  rw [List.getElem?_take, if_pos hi, List.getElem?_drop]
theorem rowAt_ext {a b : List Value} {j : Nat} (h : ∀ i, i < 7 → a[j * 7 + i]? = b[j * 7 + i]?) : rowAt a j = rowAt b j := by
  apply List.ext_getElem?
  intro i
  unfold rowAt
  rw [List.getElem?_take, List.getElem?_take]
  by_cases hi : i < 7
  · rw [if_pos hi, if_pos hi, List.getElem?_drop, List.getElem?_drop]; exact h i hi
  · rw [if_neg hi, if_neg hi]
theorem rowAt_set_ne {inner : List Value} {q j i : Nat} (u : Value) (hi : i < 7) (hj : j ≠ q) : rowAt (inner.set (q * 7 + i) u) j = rowAt inner j :=
  rowAt_ext fun k hk => by rw [List.getElem?_set_ne (by omega)]
theorem rowAt_set {inner : List Value} {q i : Nat} (u : Value) (hi : i < 7) : rowAt (inner.set (q * 7 + i) u) q = (rowAt inner q).set i u := by
  unfold rowAt
  rw [List.drop_set, if_neg (by omega), show q * 7 + i - q * 7 = i by omega, List.take_set]
theorem TwL.any {W W2 : World} {B : Nat} {l : List S76} {v : Value} {lab : Nat → Nat} {inner inner2 : List Value} (h : TwL W B l v lab inner) {q : Nat} (hq : q < l.length) {n : S76} (how : W2.ownsRow B 76 7 v l.length inner2) (hne : ∀ j : Nat, j < l.length → j ≠ q → rowAt inner2 j = rowAt inner j)
    (hk : ∀ k, k < W.heap.size → lab k ≠ 0 → lab k ≠ q + 1 → W2.heap[k]? = W.heap[k]?) (hM : k76.M W2 B (fun k => lab k = q + 1 ∨ W.heap.size ≤ k) n (rowAt inner2 q)) : ∃ lab', TwL W2 B (l.set q n) v lab' inner2 := by
  refine ⟨fun k => if k < W.heap.size then lab k else q + 1, by simpa using how, fun k hk' => ?_, fun j hj => ?_⟩
  · show (if k < W.heap.size then lab k else q + 1) = 0
    rw [if_pos (own_lt h.own k hk')]; exact h.lab0 k hk'
  · have hj' : j < l.length := by simpa using hj
    by_cases e : j = q
    · subst e
      rw [rd_set_self n hq]
      refine k76.M_mono (fun k hk' => ?_) hM
      show (if k < W.heap.size then lab k else j + 1) = j + 1
      rcases hk' with hk' | hk'
      · split
        · exact hk'
        · rfl
      · rw [if_neg (by omega)]
    · rw [rd_set_ne n hj' e]
      have e2 := hne j hj' e
      unfold rowAt at e2
      rw [e2]
      refine k76.M_mono (fun k hk' => ?_) (k76.M_move (w1 := W2) (fun k hk' => hk k hk'.2.2.1 (by have := hk'.1; omega) (by have := hk'.1; omega)) (k76.M_bound (h.node j hj')))
      show (if k < W.heap.size then lab k else q + 1) = j + 1
      rw [if_pos hk'.2.2.1]; exact hk'.1
theorem TwL.upd {W W2 : World} {B : Nat} {l : List S76} {v : Value} {lab : Nat → Nat} {inner : List Value} (h : TwL W B l v lab inner) {q : Nat} (hq : q < l.length) {n : S76} (hw : Wr (fun k => lab k = q + 1) W W2) (hM : k76.M W2 B (fun k => lab k = q + 1 ∨ W.heap.size ≤ k) n (rowAt inner q)) : ∃ lab', TwL W2 B (l.set q n) v lab' inner :=
  h.any hq (own_move h.own (fun k hk => hw.block k (own_lt h.own k hk) (by have := h.lab0 k hk; omega))) (fun _ _ _ => rfl) (fun k hk h0 h1 => hw.block k hk h1) hM
theorem TwL.put {W W2 : World} {B g m c : Nat} {l : List S76} {lab : Nat → Nat} {inner : List Value} (h : TwL W B l (.slice (some ⟨g, 0, none⟩) m c) lab inner) {q i : Nat} (hq : q < l.length) (hi : i < 7) {n : S76} {u : Value} (hw : Wr (fun k => lab k = q + 1) W W2) (hM : k76.M W2 B (fun k => lab k = q + 1 ∨ W.heap.size ≤ k) n ((rowAt inner q).set i u)) :
    ∃ lab', TwL (W2.setCell ⟨g, q * 7 + i, none⟩ u) B (l.set q n) (.slice (some ⟨g, 0, none⟩) m c) lab' (inner.set (q * 7 + i) u) := by
  have hg0 : lab g = 0 := h.lab0 g rfl
  have how := own_move (w1 := W2) h.own (fun k hk => hw.block k (own_lt h.own k hk) (by have := h.lab0 k hk; omega))
  have hgl := own_lt h.own g rfl
  refine h.any hq ?_ (fun j _ hj => rowAt_set_ne u hi hj) (fun k hk h0 h1 => ?_) ?_
  · obtain ⟨h1, h2⟩ := how
    refine ⟨by rw [List.length_set]; exact h1, ?_⟩
    rcases h2 with ⟨e, _⟩ | ⟨g', c', cur, e, hB, hh, hnc, hm, hsz, htk⟩
    · cases e
    · injection e with e1 e2 e3
      injection e1 with e1
      injection e1 with e1
      subst e1 e2 e3
      refine .inr ⟨g, c, _, rfl, hB, blk_put hh (q * 7 + i) u rfl, hnc, hm, by simpa using hsz, ?_⟩
      rw [Array.toList_setIfInBounds, List.take_set, htk]
  · rw [Below.heap_setCell W2 ⟨g, q * 7 + i, none⟩ u k (fun e => h0 (by rw [e]; exact hg0))]
    exact hw.block k hk h1
  · rw [rowAt_set u hi]
    refine k76.M_mono (fun k hk => hk) (Kd.M_far (p := ⟨g, q * 7 + i, none⟩) hM (fun k hk e => ?_) u)
    have e : k = g := e
    rcases hk with hk | hk
    · rw [e, hg0] at hk; omega
    · rw [e] at hk; omega
theorem TwL.at_ {W : World} {B g m c : Nat} {l : List S76} {lab : Nat → Nat} {inner : List Value} (h : TwL W B l (.slice (some ⟨g, 0, none⟩) m c) lab inner) {q : Nat} (hq : q < l.length) :
    ∃ v4 v5 v6, rowAt inner q = [.int .i64 (rd_T76 l q).f0, .string (rd_T76 l q).f1, .int .i64 (rd_T76 l q).f2, .string (rd_T76 l q).f3, v4, v5, v6] ∧ k82.R 82 W B (fun k => lab k = q + 1) v4 (rd_T76 l q).f4 ∧ (Kd.int .i64).R 3 W B (fun k => lab k = q + 1) v5 (rd_T76 l q).f5 ∧ k84.R 84 W B (fun k => lab k = q + 1) v6 (rd_T76 l q).f6 ∧ (∀ i u, (rowAt inner q)[i]? = some u → W.cell? ⟨g, q * 7 + i, none⟩ = some u) ∧ (∀ i, W.frozen? ⟨g, i, none⟩ = false) := by
  obtain ⟨v4, v5, v6, he, h4, h5, h6⟩ := k76_openM (h.node q hq)
  refine ⟨v4, v5, v6, he, h4, h5, h6, ?_⟩
  rcases h.own.2 with ⟨e, _⟩ | ⟨g', c', cur, e, hB, hh, hnc, hm, hsz, htk⟩
  · cases e
  · injection e with e1 _ e3
    injection e1 with e1
    injection e1 with e1
    subst e1 e3
    refine ⟨fun i u hu => ?_, blk_frozen hh⟩
    have hi : i < 7 := by
      have := (List.getElem?_eq_some_iff.1 hu).1
      unfold rowAt at this
      rw [List.length_take] at this; omega
    rw [rowAt_get hi, ← htk, List.getElem?_take] at hu
    rw [blk_cell hh]
    split at hu
    · simpa using hu
    · cases hu
theorem TwL.slice {W : World} {B : Nat} {l : List S76} {v : Value} {lab : Nat → Nat} {inner : List Value} (h : TwL W B l v lab inner) (h0 : 0 < l.length) : ∃ g c, v = .slice (some ⟨g, 0, none⟩) l.length c ∧ l.length ≤ c := by
  rcases h.own.2 with ⟨_, e⟩ | ⟨g, c, cur, e, _, _, hc, _⟩
  · omega
  · exact ⟨g, c, e, hc⟩
theorem TwL.C {W : World} {B g m c : Nat} {l : List S76} {lab : Nat → Nat} {inner : List Value} (h : TwL W B l (.slice (some ⟨g, 0, none⟩) m c) lab inner) : Kd.C k76 W (some ⟨g, 0, none⟩) l.length l := by
  obtain ⟨A, c', e, _, hC⟩ := Kd.R_reads h.R
  injection e with e1 _ _
  rw [e1]; exact hC
theorem TwL.props {W W2 : World} {B g m c : Nat} {l : List S76} {lab : Nat → Nat} {inner : List Value} (h : TwL W B l (.slice (some ⟨g, 0, none⟩) m c) lab inner) {q : Nat} (hq : q < l.length) {v4 v5 v6 u : Value} {ps : List S82}
    (he : rowAt inner q = [.int .i64 (rd_T76 l q).f0, .string (rd_T76 l q).f1, .int .i64 (rd_T76 l q).f2, .string (rd_T76 l q).f3, v4, v5, v6]) (h4 : k82.R 82 W B (fun k => lab k = q + 1) v4 (rd_T76 l q).f4) (h5 : (Kd.int .i64).R 3 W B (fun k => lab k = q + 1) v5 (rd_T76 l q).f5) (h6 : k84.R 84 W B (fun k => lab k = q + 1) v6 (rd_T76 l q).f6)
    (hw : Wr (fun k => v4.ownBlock = some k) W W2) (hu : k82.R 82 W2 B (fun k => v4.ownBlock = some k ∨ W.heap.size ≤ k) u ps) :
    ∃ lab' inner', TwL (W2.setCell ⟨g, q * 7 + 4, none⟩ u) B (l.set q { rd_T76 l q with f4 := ps }) (.slice (some ⟨g, 0, none⟩) m c) lab' inner' := by
  have hty : ∀ k, v4.ownBlock = some k → ∃ cells, W.heap[k]? = some (.cells cells 82 (0, 0)) := fun k hk => own_typed (own82 h4) k hk
  have far : ∀ (k : Nat), k < W.heap.size → (∃ q, q ≠ 82 ∧ ∃ cells, W.heap[k]? = some (.cells cells q (0, 0))) → W2.heap[k]? = W.heap[k]? := fun k hk ⟨q, hq, cells, hc⟩ => hw.block k hk (fun e => by
    obtain ⟨cs, hc'⟩ := hty k e
    rw [hc'] at hc
    injection hc with hc
    injection hc with _ hc
    exact hq hc.symm)
  obtain ⟨lab', ht⟩ := h.put hq (i := 4) (by omega) (n := { rd_T76 l q with f4 := ps }) (u := u) (hw.mono (fun k _ hk => h4.1 k hk)) (by
    rw [he]
    refine k76_mkM _ _ _ { rd_T76 l q with f4 := ps } (Kd.R_mono hu (fun k hk => hk.imp (fun e => h4.1 k e) id)) (Kd.R_mono (Kd.R_move (Kd.R_bound h5) (fun k hk => ?_)) (fun k hk => .inl hk.1)) (Kd.R_mono (Kd.R_move (Kd.R_bound h6) (fun k hk => ?_)) (fun k hk => .inl hk.1))
    · obtain ⟨_, _, h3, t, ht, hc⟩ := hk
      exact far k h3 ⟨t, by revert ht; simp [Kd.int, Kd.scalar]; rintro rfl; decide, hc⟩
    · obtain ⟨_, _, h3, t, ht, hc⟩ := hk
      exact far k h3 ⟨t, by revert ht; simp [k84, Kd.iso, Kd.pair, Kd.string, Kd.int, Kd.scalar]; rintro rfl; decide, hc⟩)
  exact ⟨lab', _, ht⟩
theorem TwL.propsIn {W W2 : World} {B g m c : Nat} {l : List S76} {lab : Nat → Nat} {inner : List Value} (h : TwL W B l (.slice (some ⟨g, 0, none⟩) m c) lab inner) {q : Nat} (hq : q < l.length) {v4 v5 v6 : Value} {ps : List S82}
    (he : rowAt inner q = [.int .i64 (rd_T76 l q).f0, .string (rd_T76 l q).f1, .int .i64 (rd_T76 l q).f2, .string (rd_T76 l q).f3, v4, v5, v6]) (h4 : k82.R 82 W B (fun k => lab k = q + 1) v4 (rd_T76 l q).f4) (h5 : (Kd.int .i64).R 3 W B (fun k => lab k = q + 1) v5 (rd_T76 l q).f5) (h6 : k84.R 84 W B (fun k => lab k = q + 1) v6 (rd_T76 l q).f6)
    (hw : Wr (fun k => v4.ownBlock = some k) W W2) (hu : k82.R 82 W2 B (fun k => v4.ownBlock = some k ∨ W.heap.size ≤ k) v4 ps) :
    ∃ lab', TwL W2 B (l.set q { rd_T76 l q with f4 := ps }) (.slice (some ⟨g, 0, none⟩) m c) lab' inner := by
  have hty : ∀ k, v4.ownBlock = some k → ∃ cells, W.heap[k]? = some (.cells cells 82 (0, 0)) := fun k hk => own_typed (own82 h4) k hk
  have far : ∀ (k : Nat), k < W.heap.size → (∃ q, q ≠ 82 ∧ ∃ cells, W.heap[k]? = some (.cells cells q (0, 0))) → W2.heap[k]? = W.heap[k]? := fun k hk ⟨q, hq, cells, hc⟩ => hw.block k hk (fun e => by
    obtain ⟨cs, hc'⟩ := hty k e
    rw [hc'] at hc
    injection hc with hc
    injection hc with _ hc
    exact hq hc.symm)
  exact h.upd hq (hw.mono (fun k _ hk => h4.1 k hk)) (by
    rw [he]
    refine k76_mkM _ _ _ { rd_T76 l q with f4 := ps } (Kd.R_mono hu (fun k hk => hk.imp (fun e => h4.1 k e) id)) (Kd.R_mono (Kd.R_move (Kd.R_bound h5) (fun k hk => ?_)) (fun k hk => .inl hk.1)) (Kd.R_mono (Kd.R_move (Kd.R_bound h6) (fun k hk => ?_)) (fun k hk => .inl hk.1))
    · obtain ⟨_, _, h3, t, ht, hc⟩ := hk
      exact far k h3 ⟨t, by revert ht; simp [Kd.int, Kd.scalar]; rintro rfl; decide, hc⟩
    · obtain ⟨_, _, h3, t, ht, hc⟩ := hk
      exact far k h3 ⟨t, by revert ht; simp [k84, Kd.iso, Kd.pair, Kd.string, Kd.int, Kd.scalar]; rintro rfl; decide, hc⟩)
theorem TwL.kids {W W2 : World} {B g m c : Nat} {l : List S76} {lab : Nat → Nat} {inner : List Value} (h : TwL W B l (.slice (some ⟨g, 0, none⟩) m c) lab inner) {q : Nat} (hq : q < l.length) {v4 v5 v6 u : Value} {ks : List Int}
    (he : rowAt inner q = [.int .i64 (rd_T76 l q).f0, .string (rd_T76 l q).f1, .int .i64 (rd_T76 l q).f2, .string (rd_T76 l q).f3, v4, v5, v6]) (h4 : k82.R 82 W B (fun k => lab k = q + 1) v4 (rd_T76 l q).f4) (h5 : (Kd.int .i64).R 3 W B (fun k => lab k = q + 1) v5 (rd_T76 l q).f5) (h6 : k84.R 84 W B (fun k => lab k = q + 1) v6 (rd_T76 l q).f6)
    (hw : Wr (fun k => v5.ownBlock = some k) W W2) (hu : (Kd.int .i64).R 3 W2 B (fun k => v5.ownBlock = some k ∨ W.heap.size ≤ k) u ks) :
    ∃ lab' inner', TwL (W2.setCell ⟨g, q * 7 + 5, none⟩ u) B (l.set q { rd_T76 l q with f5 := ks }) (.slice (some ⟨g, 0, none⟩) m c) lab' inner' := by
  have hty : ∀ k, v5.ownBlock = some k → ∃ cells, W.heap[k]? = some (.cells cells 3 (0, 0)) := fun k hk => own_typed (inner_ints h5) k hk
  have far : ∀ (k : Nat), k < W.heap.size → (∃ q, q ≠ 3 ∧ ∃ cells, W.heap[k]? = some (.cells cells q (0, 0))) → W2.heap[k]? = W.heap[k]? := fun k hk ⟨q, hq, cells, hc⟩ => hw.block k hk (fun e => by
    obtain ⟨cs, hc'⟩ := hty k e
    rw [hc'] at hc
    injection hc with hc
    injection hc with _ hc
    exact hq hc.symm)
  obtain ⟨lab', ht⟩ := h.put hq (i := 5) (by omega) (n := { rd_T76 l q with f5 := ks }) (u := u) (hw.mono (fun k _ hk => h5.1 k hk)) (by
    rw [he]
    refine k76_mkM _ _ _ { rd_T76 l q with f5 := ks } (Kd.R_mono (Kd.R_move (Kd.R_bound h4) (fun k hk => ?_)) (fun k hk => .inl hk.1)) (Kd.R_mono hu (fun k hk => hk.imp (fun e => h5.1 k e) id)) (Kd.R_mono (Kd.R_move (Kd.R_bound h6) (fun k hk => ?_)) (fun k hk => .inl hk.1))
    · obtain ⟨_, _, h3, t, ht, hc⟩ := hk
      exact far k h3 ⟨t, by revert ht; simp [k82, Kd.iso, Kd.pair, Kd.string, Kd.scalar]; rintro rfl; decide, hc⟩
    · obtain ⟨_, _, h3, t, ht, hc⟩ := hk
      exact far k h3 ⟨t, by revert ht; simp [k84, Kd.iso, Kd.pair, Kd.string, Kd.int, Kd.scalar]; rintro rfl; decide, hc⟩)
  exact ⟨lab', _, ht⟩
end Go.Proofs.Ytlopfkkegjajlaa
namespace Go.Proofs.Ytlopfkkegjajlaa
open Go.RowKit Go.Proofs.YtlopfkkegjajlaaW.PrintWords PHistoryTouched
theorem rd82_get {l : List S82} {j : Nat} (h : j < l.length) : rd_T82 l j = l[j] := by simp [rd_T82, List.getD_eq_getElem?_getD, List.getElem?_eq_getElem h]
structure PsOk (ps : List S82) : Prop where
  each : ∀ p ∈ ps, wordB p.f0 = true ∧ p.f1.size ≤ 4096
  up : (ps.map (·.f0)).Pairwise fun a b => lessB a b = true
theorem PsOk.pup {ps : List S82} (h : PsOk ps) : PUp ps := fun i j hij hj => by
  have := List.pairwise_iff_getElem.1 h.up i j (by simp; omega) (by simpa using hj) hij
  rw [rd82_get hj, rd82_get (by omega)]
  simpa using this
theorem PsOk.of {ps : List S82} (h : ∀ k : Nat, k < ps.length → PropOk ps k) : PsOk ps := by
  have hp : ∀ j i : Nat, i < j → j < ps.length → lessB (rd_T82 ps i).f0 (rd_T82 ps j).f0 = true := by
    intro j
    induction j with
    | zero => intro i hij; omega
    | succ j ih =>
      intro i hij hj
      have h1 := (h (j + 1) hj).up (by omega)
      have e : ((j + 1 : Nat) : Int) - 1 = (j : Int) := by omega
      rcases Nat.lt_or_ge i j with h2 | h2
      · exact less_trans (ih i h2 (by omega)) (by simpa using h1)
      · obtain rfl : i = j := by omega
        simpa using h1
  refine ⟨fun p hm => ?_, List.pairwise_iff_getElem.2 fun i j hi hj hij => ?_⟩
  · obtain ⟨k, hk, rfl⟩ := List.getElem_of_mem hm
    have := h k hk
    rw [← rd82_get hk]; exact ⟨this.word, this.size⟩
  · have hj' : j < ps.length := by simpa using hj
    have := hp j i hij hj'
    rw [rd82_get hj', rd82_get (by omega)] at this
    simpa using this
theorem PsOk.to {ps : List S82} (h : PsOk ps) (k : Nat) (hk : k < ps.length) : PropOk ps k := by
  have hm := h.each ps[k] (List.getElem_mem hk)
  rw [← rd82_get hk] at hm
  exact ⟨hm.1, hm.2, fun h0 => h.pup (k - 1) k (by omega) hk⟩
theorem PsOk.set {ps : List S82} (h : PsOk ps) {k : Nat} (hk : k < ps.length) {v : ByteArray} (hv : v.size ≤ 4096) : PsOk (ps.set k ⟨(rd_T82 ps k).f0, v⟩) := by
  have e : (ps.set k ⟨(rd_T82 ps k).f0, v⟩).map (·.f0) = ps.map (·.f0) := by
    rw [List.map_set]
    have : (rd_T82 ps k).f0 = (ps.map (·.f0))[k]'(by simpa using hk) := by rw [rd82_get hk]; simp
    show (ps.map (·.f0)).set k (rd_T82 ps k).f0 = _
    rw [this]; exact List.set_getElem_self _
  refine ⟨fun p hm => ?_, by rw [e]; exact h.up⟩
  rcases List.mem_or_eq_of_mem_set hm with hm | rfl
  · exact h.each p hm
  · have := h.each ps[k] (List.getElem_mem hk)
    rw [← rd82_get hk] at this
    exact ⟨this.1, hv⟩
theorem PsOk.insert {ps : List S82} (h : PsOk ps) {k : Nat} {s : ByteArray} (hf : PFound ps s k false) (hs : wordB s = true) : PsOk (ps.take k ++ [⟨s, ⟨#[]⟩⟩] ++ ps.drop k) := by
  refine ⟨fun p hm => ?_, ?_⟩
  · rw [List.append_assoc, List.mem_append, List.mem_append] at hm
    rcases hm with hm | hm | hm
    · exact h.each p (List.mem_of_mem_take hm)
    · rw [List.mem_singleton.1 hm]; exact ⟨hs, by show (0 : Nat) ≤ 4096; omega⟩
    · exact h.each p (List.mem_of_mem_drop hm)
  · have hu := h.up
    rw [← List.take_append_drop k ps, List.map_append, List.pairwise_append] at hu
    obtain ⟨h1, h2, h3⟩ := hu
    have lo : ∀ a ∈ (ps.take k).map (·.f0), lessB a s = true := fun a ha => by
      obtain ⟨p, hp, rfl⟩ := List.mem_map.1 ha
      obtain ⟨j, hj, rfl⟩ := List.getElem_of_mem hp
      have hj' : j < k ∧ j < ps.length := by simp at hj; omega
      have := hf.lo j hj'.1
      rw [rd82_get hj'.2] at this
      simpa using this
    have hi : ∀ a ∈ (ps.drop k).map (·.f0), lessB s a = true := fun a ha => by
      obtain ⟨p, hp, rfl⟩ := List.mem_map.1 ha
      obtain ⟨j, hj, rfl⟩ := List.getElem_of_mem hp
      have hj' : k + j < ps.length := by simp at hj; omega
      have := hf.hi rfl (k + j) (by omega) hj'
      rw [rd82_get hj'] at this
      simpa using this
    rw [List.append_assoc, List.map_append, List.map_append, List.pairwise_append, List.pairwise_append]
    refine ⟨h1, ⟨by simp, h2, fun a ha b hb => ?_⟩, fun a ha b hb => ?_⟩
    · have : a = s := by simpa using ha
      rw [this]; exact hi b hb
    · rcases List.mem_append.1 hb with hb | hb
      · have : b = s := by simpa using hb
        rw [this]; exact lo a ha
      · exact h3 a ha b hb
theorem PsOk.drop {ps : List S82} (h : PsOk ps) (f : S82 → Bool) : PsOk (ps.filter f) :=
  ⟨fun p hm => h.each p (List.mem_filter.1 hm).1, by
    rw [List.pairwise_map]
    have := h.up
    rw [List.pairwise_map] at this
    exact List.Pairwise.sublist List.filter_sublist this⟩
end Go.Proofs.Ytlopfkkegjajlaa
namespace Go.Proofs.Ytlopfkkegjajlaa
open Go.RowKit Go.Proofs.YtlopfkkegjajlaaW.PrintWords PHistoryTouched
def EditPost (nx : Int) (l : List S76) (id : Int) (w : World) (e : Ending) (w' : World) : Prop := Below w.heap.size w w' ∧
  ((∃ er : Int, er ≠ 0 ∧ e = .returned (.tuple #[.agg #[.int .i64 0, .slice none 0 0], .int .i64 er])) ∨
    ∃ v q ps, e = .returned (.tuple #[.agg #[.int .i64 nx, v], .int .i64 0]) ∧ CheckP nx l ∧ q < l.length ∧ (rd_T76 l (q : Nat)).f0 = id ∧ PsOk ps ∧ k76.R 76 w' w.heap.size (fun _ => True) v (l.set q { rd_T76 l q with f4 := ps }))
theorem boxW {w W : World} {rb : Nat} {c0 c1 : Value} (hb : Below w.heap.size w W) (hr : w.heap.size ≤ rb) (h : W.heap[rb]? = some (.cells #[c0, c1] 27 (0, 0))) (x y : Value) :
    W.cell? ⟨rb, 0, none⟩ = some c0 ∧ W.cell? ⟨rb, 1, none⟩ = some c1 ∧ (∀ i, W.frozen? ⟨rb, i, none⟩ = false) ∧ ((W.setCell ⟨rb, 0, none⟩ x).setCell ⟨rb, 1, none⟩ y).cell? ⟨rb, 0, none⟩ = some x ∧ ((W.setCell ⟨rb, 0, none⟩ x).setCell ⟨rb, 1, none⟩ y).cell? ⟨rb, 1, none⟩ = some y ∧ Below w.heap.size w ((W.setCell ⟨rb, 0, none⟩ x).setCell ⟨rb, 1, none⟩ y) := by
  have h2 := blk_put (cs' := #[x, y]) (blk_put (cs' := #[x, c1]) h 0 x rfl) 1 y rfl
  exact ⟨blk_cell h 0, blk_cell h 1, blk_frozen h, blk_cell h2 0, blk_cell h2 1, (hb.setCell hr _).setCell hr _⟩
theorem enc82_set {ps : List S82} {p : Nat} (h : p < ps.length) (u : ByteArray) : (enc82 ps).set (p * 2 + 1) (.string u) = enc82 (ps.set p ⟨(rd_T82 ps p).f0, u⟩) := by
  have e : ps = ps.take p ++ (rd_T82 ps p :: ps.drop (p + 1)) := by rw [← drop82 h, List.take_append_drop]
  have e2 : ps.set p ⟨(rd_T82 ps p).f0, u⟩ = ps.take p ++ (⟨(rd_T82 ps p).f0, u⟩ :: ps.drop (p + 1)) := List.set_eq_take_append_cons_drop.trans (by rw [if_pos h])
  rw [e2, enc82_app, enc82_cons]
  conv => lhs; rw [e, enc82_app, enc82_cons]
  rw [List.set_append_right _ _ (by rw [enc82_len, List.length_take]; omega), enc82_len, List.length_take, Nat.min_eq_left (by omega), show p * 2 + 1 - p * 2 = 1 by omega]
  rfl
theorem propSet {W : World} {B b c p : Nat} {ps : List S82} (ho : W.ownsRow B 82 2 (.slice (some ⟨b, 0, none⟩) ps.length c) ps.length (enc82 ps)) (hp : p < ps.length) (u : ByteArray) :
    (W.setCell ⟨b, p * 2 + 1, none⟩ (.string u)).ownsRow B 82 2 (.slice (some ⟨b, 0, none⟩) ps.length c) ps.length (enc82 (ps.set p ⟨(rd_T82 ps p).f0, u⟩)) ∧ W.cell? ⟨b, p * 2 + 1, none⟩ = some (.string (rd_T82 ps p).f1) ∧ ∀ i, W.frozen? ⟨b, i, none⟩ = false := by
  rcases ho.2 with ⟨e, _⟩ | ⟨g, c', cur, e, hB, hh, hnc, hm, hsz, htk⟩
  · cases e
  · injection e with e1 _ e3
    injection e1 with e1
    injection e1 with e1
    subst e1 e3
    refine ⟨⟨by rw [enc82_len, List.length_set], .inr ⟨b, c, _, rfl, hB, blk_put hh (p * 2 + 1) _ rfl, hnc, hm, by simpa using hsz, ?_⟩⟩, ?_, blk_frozen hh⟩
    · rw [Array.toList_setIfInBounds, List.take_set, htk, enc82_set hp]
    · have h1 : (enc82 ps)[p * 2 + 1]? = some (.string (rd_T82 ps p).f1) := by
        have h2 := congrArg (fun L => L[1]?) (enc82_drop p ps)
        simp only [List.getElem?_drop] at h2
        rw [h2, drop82 hp]; rfl
      rw [← htk, List.getElem?_take, if_pos (by omega)] at h1
      rw [blk_cell hh]
      simpa using h1
theorem own_some {W : World} {B e sz n : Nat} {v : Value} {xs : List Value} (h : W.ownsRow B e sz v n xs) (h0 : 0 < n) : ∃ b c, v = .slice (some ⟨b, 0, none⟩) n c ∧ n ≤ c := by
  rcases h.2 with ⟨_, e⟩ | ⟨b, c, _, rfl, _, _, hc, _⟩
  · omega
  · exact ⟨b, c, rfl, hc⟩
theorem TwL.step4 {w7 : World} {B g m cv : Nat} {l : List S76} {lab : Nat → Nat} {inner : List Value} (HT : TwL w7 B l (.slice (some ⟨g, 0, none⟩) m cv) lab inner) {q : Nat} (hq : q < l.length) {ps : List S82} (hps : (rd_T76 l q).f4 = ps) :
    ∃ A5 c5, w7.cell? ⟨g, q * 7 + 4, none⟩ = some (.slice A5 ps.length c5) ∧ w7.ownsRow B 82 2 (.slice A5 ps.length c5) ps.length (enc82 ps) ∧ Kd.C k82 w7 A5 ps.length ps ∧ B ≤ w7.heap.size ∧ B ≤ g ∧
      ∀ w9 v' qs, Wr (fun k => (Value.slice A5 ps.length c5).ownBlock = some k) w7 w9 → k82.R 82 w9 B (fun k => (Value.slice A5 ps.length c5).ownBlock = some k ∨ w7.heap.size ≤ k) v' qs → w9.cell? ⟨g, q * 7 + 4, none⟩ = some (.slice A5 ps.length c5) ∧ w9.frozen? ⟨g, q * 7 + 4, none⟩ = false ∧
        (∃ lab' inner', TwL (w9.setCell ⟨g, q * 7 + 4, none⟩ v') B (l.set q { rd_T76 l q with f4 := qs }) (.slice (some ⟨g, 0, none⟩) m cv) lab' inner') ∧ (∀ (k t : Nat) (cells : Array Value), w7.heap[k]? = some (.cells cells t (0, 0)) → t ≠ 76 → t ≠ 82 → (w9.setCell ⟨g, q * 7 + 4, none⟩ v').heap[k]? = some (.cells cells t (0, 0))) := by
  subst hps
  obtain ⟨v4, v5, v6, he7, h4, h5, h6, hc, hfz⟩ := HT.at_ hq
  obtain ⟨A5, c5, rfl, _, hC⟩ := Kd.R_reads h4
  have p4 := hc 4 _ (by rw [he7]; rfl)
  have HO4 := own82 h4
  refine ⟨A5, c5, p4, HO4, hC, Nat.le_of_lt (Nat.lt_of_le_of_lt (own_base HT.own g rfl) (own_lt HT.own g rfl)), own_base HT.own g rfl, fun w9 v' qs hw hu => ?_⟩
  have hgk : w9.heap[g]? = w7.heap[g]? := hw.block g (own_lt HT.own g rfl) (fun e => by
    have h0 := HT.lab0 g rfl
    have h1 := h4.1 g e
    omega)
  refine ⟨(World.cell?_of_block (a := ⟨g, q * 7 + 4, none⟩) hgk).trans p4, (World.frozen?_of_block (a := ⟨g, q * 7 + 4, none⟩) hgk).trans (hfz _), HT.props hq he7 h4 h5 h6 hw hu, fun k t cells hk h76 h82 => ?_⟩
  have hne : k ≠ g := fun e => by
    obtain ⟨cs, hcs⟩ := own_typed HT.own g rfl
    rw [← e, hk] at hcs
    injection hcs with hcs
    injection hcs with _ hcs
    exact h76 hcs
  rw [Below.heap_setCell w9 ⟨g, q * 7 + 4, none⟩ v' k hne, hw.block k (blk_lt hk) (fun e => by
    obtain ⟨cs, hcs⟩ := own_typed HO4 k e
    rw [hk] at hcs
    injection hcs with hcs
    injection hcs with _ hcs
    exact h82 hcs)]
  exact hk
set_option maxRecDepth 100000 in
set_option maxHeartbeats 8000000 in
theorem put_any (nx id : Int) (A : Option Addr) (l : List S76) (c : Nat) (name value : ByteArray) (w : World) (hr : Kd.C k76 w A l.length l) (hs : SmallL l) (hwf : WfL l) (hid : I64 id) :
    Calls Try.prog 34 #[.agg #[.int .i64 nx, .slice A l.length c], .int .i64 id, .string name, .string value] w (EditPost nx l id w) := by
  have HR := hidm hr
  have HS := hidm hs
  have HWF := hidm hwf
  have HID := hidm hid
  have HX : Hid (Boxed2 w (.cells #[.int .i64 nx, .slice A l.length c] 27) (.cells #[.int .i64 0, .slice none 0 0] 27) ((w.alloc (.cells #[.int .i64 nx, .slice A l.length c] 27)).alloc (.cells #[.int .i64 0, .slice none 0 0] 27))) := boxed2 w _ _
  clear hr hs hwf hid
  go_enter Try.func34, Try.ntmps34
  go_wp2_with fail
  generalize (World.alloc (World.alloc _ _) _) = W at HX ⊢
  refine (check_any nx l A c W (Kd.C_below HR.out HX.out.b) HWF.out).mono ?_
  rintro e w1 ⟨rfl, hb⟩
  replace HX := hidm (HX.out.below hb)
  clear hb
  by_cases hk : CheckP nx l
  case neg =>
    rw [errI_no hk]
    clear hk
    obtain ⟨z0, z1, fz, r0, r1, hb9⟩ := boxW HX.out.b (show w.heap.size ≤ w.heap.size + 1 by omega) HX.out.k2 (.int .i64 0) (.slice none 0 0)
    have HP : Hid (EditPost nx l id w (.returned (.tuple #[.agg #[.int .i64 0, .slice none 0 0], .int .i64 29])) _) := ⟨hb9, .inl ⟨29, by decide, rfl⟩⟩
    clear hb9
    go_wp2_with fail
    simp [bodyPost, results, Try.results34, go_sem, r0, r1]
    exact HP.out
  have HK := hidm hk
  rw [errI_yes hk]
  clear hk
  obtain ⟨b, HNB⟩ : ∃ b, Hid (wordB name = b) := ⟨_, rfl⟩
  go_wp2_with fail
  refine (word_any name w1).mono ?_
  rintro e w2 ⟨rfl, hb⟩
  rw [HNB.out]
  replace HX := hidm (HX.out.below hb)
  clear hb
  cases b with
  | false =>
    obtain ⟨z0, z1, fz, r0, r1, hb9⟩ := boxW HX.out.b (show w.heap.size ≤ w.heap.size + 1 by omega) HX.out.k2 (.int .i64 0) (.slice none 0 0)
    have HP : Hid (EditPost nx l id w (.returned (.tuple #[.agg #[.int .i64 0, .slice none 0 0], .int .i64 2])) _) := ⟨hb9, .inl ⟨2, by decide, rfl⟩⟩
    clear hb9
    go_wp2_with fail
    simp [bodyPost, results, Try.results34, go_sem, r0, r1]
    exact HP.out
  | true =>
    by_cases hv : 4096 < value.size
    case pos =>
      have hv' : (4096 : Int) < (value.size : Int) := by omega
      obtain ⟨z0, z1, fz, r0, r1, hb9⟩ := boxW HX.out.b (show w.heap.size ≤ w.heap.size + 1 by omega) HX.out.k2 (.int .i64 0) (.slice none 0 0)
      have HP : Hid (EditPost nx l id w (.returned (.tuple #[.agg #[.int .i64 0, .slice none 0 0], .int .i64 3])) _) := ⟨hb9, .inl ⟨3, by decide, rfl⟩⟩
      clear hb9
      go_wp2_with fail
      simp [bodyPost, results, Try.results34, go_sem, r0, r1]
      exact HP.out
    have hv' : ¬ (4096 : Int) < (value.size : Int) := by omega
    have q0 : w2.cell? ⟨w.heap.size, 0, none⟩ = some (.int .i64 nx) := blk_cell HX.out.k1 0
    have q1 : w2.cell? ⟨w.heap.size, 1, none⟩ = some (.slice A l.length c) := blk_cell HX.out.k1 1
    go_wp2_with fail
    clear q0 q1
    refine (place_any nx A l c id w2 (Kd.C_below HR.out HX.out.b) (ids_up HK.out.hi HK.out.ids) HK.out.len HID.out).mono ?_
    rintro e w3 ⟨r, rfl, hp, hb⟩
    replace HX := hidm (HX.out.below hb)
    clear hb
    by_cases hp0 : r < 0
    case pos =>
      clear hp
      obtain ⟨z0, z1, fz, r0, r1, hb9⟩ := boxW HX.out.b (show w.heap.size ≤ w.heap.size + 1 by omega) HX.out.k2 (.int .i64 0) (.slice none 0 0)
      have HP : Hid (EditPost nx l id w (.returned (.tuple #[.agg #[.int .i64 0, .slice none 0 0], .int .i64 20])) _) := ⟨hb9, .inl ⟨20, by decide, rfl⟩⟩
      clear hb9
      go_wp2_with fail
      simp [bodyPost, results, Try.results34, go_sem, r0, r1]
      exact HP.out
    obtain ⟨q, rfl, hq, he⟩ := hp.2 (by omega)
    have HQ := hidm hq
    have HQI := hidm he
    have hq0 : (0 : Int) ≤ (q : Int) := by omega
    have hq1 : (q : Int) < (l.length : Int) := by omega
    have q0 : w3.cell? ⟨w.heap.size, 0, none⟩ = some (.int .i64 nx) := blk_cell HX.out.k1 0
    have q1 : w3.cell? ⟨w.heap.size, 1, none⟩ = some (.slice A l.length c) := blk_cell HX.out.k1 1
    clear hp hp0 he
    go_wp2_with fail
    clear q0 q1
    have HBB3 : Hid (w.heap.size ≤ w3.heap.size) := HX.out.b.size
    refine (atwin_any nx A l c w3 (Kd.C_below HR.out HX.out.b) HS.out).mono ?_
    rintro e w4 ⟨v, lab, inner, rfl, ht, hb⟩
    obtain ⟨g, cv, rfl, hcv⟩ := ht.slice (by omega)
    replace HX := hidm (HX.out.below (below_alloc hb (.cells #[.int .i64 nx, .slice (some ⟨g, 0, none⟩) l.length cv] 27)))
    have HT := hidm (ht.below (below_alloc (Below.refl _ _) (.cells #[.int .i64 nx, .slice (some ⟨g, 0, none⟩) l.length cv] 27)))
    have KT := hidm (blk_new w4 (.cells #[.int .i64 nx, .slice (some ⟨g, 0, none⟩) l.length cv] 27))
    clear ht hb
    go_wp2_with fail
    generalize (w4.alloc (.cells #[.int .i64 nx, .slice (some ⟨g, 0, none⟩) l.length cv] 27)) = w5 at HX HT KT ⊢
    generalize w4.heap.size = tb at KT ⊢
    have HBB : Hid (w.heap.size ≤ w3.heap.size) := HBB3.out
    clear HBB3
    generalize w3.heap.size = B at HT HBB
    have y0 : ∀ x : BW w5, x.1.cell? ⟨tb, 0, none⟩ = some (.int .i64 nx) := bw_cell (blk_cell KT.out 0)
    have y1 : ∀ x : BW w5, x.1.cell? ⟨tb, 1, none⟩ = some (.slice (some ⟨g, 0, none⟩) l.length cv) := bw_cell (blk_cell KT.out 1)
    refine wp_region_bwt 6 (by kernel_rfl) (by kernel_rfl) ?_
    simp only [List.take_succ_cons, List.take_zero, List.drop_succ_cons, List.drop_zero]
    repeat (go_big_quiet_step ((go_at_call 54; exact calls_bw (place_at nx (some ⟨g, 0, none⟩) l cv _ _ (Kd.C_below HT.out.C (Subtype.property _)) (ids_up HK.out.hi HK.out.ids) HK.out.len HID.out q hq HQI.out))))
    refine wpQuiet_nil ?_
    rintro _ ⟨x, rfl⟩
    clear y0 y1
    replace HX := hidm (HX.out.below x.2)
    replace HT := hidm (HT.out.below x.2)
    replace KT := hidm (blk_below KT.out x.2)
    obtain ⟨w6, hw6⟩ := x
    dsimp only at HX HT KT ⊢
    clear hw6
    obtain ⟨v4, v5, v6, he7, h4, h5, h6, hc, _⟩ := HT.out.at_ hq
    obtain ⟨A4, c4, hv4, _, hC4⟩ := Kd.R_reads h4
    have p4 : w6.cell? ⟨g, q * 7 + 4, none⟩ = some (.slice A4 (rd_T76 l q).f4.length c4) := hc 4 _ (by rw [he7, hv4]; rfl)
    have HC4 := hidm hC4
    have HOK : Hid (PsOk (rd_T76 l q).f4) := PsOk.of (fun k hk => (HK.out.alone q hq).props k hk)
    have HL4 : Hid ((rd_T76 l q).f4.length ≤ 1048576) := HS.out.p q hq
    clear he7 h4 h5 h6 hc hv4 hC4
    generalize hps : (rd_T76 l q).f4 = ps at p4 HC4 HOK HL4
    have HPS := hidm hps
    clear hps
    go_wp2_with fail
    clear p4
    refine (psearch_any A4 ps c4 name w6 HC4.out HOK.out.pup HL4.out).mono ?_
    rintro e w7 ⟨p, b, rfl, hf, hb⟩
    have HF := hidm hf
    replace HX := hidm (HX.out.below hb)
    replace HT := hidm (HT.out.below hb)
    replace KT := hidm (blk_below KT.out hb)
    clear hf hb HC4
    cases b with
    | true =>
      obtain ⟨l1, hl1⟩ : ∃ l1, l1 = l := ⟨_, rfl⟩
      have HT1 : Hid (TwL w7 B l1 (.slice (some ⟨g, 0, none⟩) l.length cv) lab inner) := by rw [hl1]; exact HT.out
      have HQ1 : Hid (q < l1.length) := by rw [hl1]; exact hq
      have HPL : Hid (p < (rd_T76 l1 q).f4.length) := by rw [hl1, HPS.out]; exact (HF.out.yes rfl).1
      have HOKP : Hid (PsOk (rd_T76 l1 q).f4) := by rw [hl1, HPS.out]; exact HOK.out
      have HL1 : Hid (∀ qs, l1.set q { rd_T76 l1 q with f4 := qs } = l.set q { rd_T76 l q with f4 := qs }) := fun qs => by rw [hl1]
      clear HT hl1
      have HT := HT1
      clear HT1
      obtain ⟨v4, v5, v6, he7, h4, h5, h6, hc, _⟩ := HT.out.at_ HQ1.out
      obtain ⟨b4, c4, rfl, hc4⟩ := own_some (own82 h4) (by have := HPL.out; omega)
      have p4 := hc 4 _ (by rw [he7]; rfl)
      obtain ⟨ho, pv, fv⟩ := propSet (own82 h4) HPL.out value
      have hpl := HPL.out
      have hps := (own82 h4).1
      have hp0 : (0 : Int) ≤ (p : Int) := by omega
      have hb4 : ∃ cells, w7.heap[b4]? = some (.cells cells 82 (0, 0)) := own_typed (own82 h4) b4 rfl
      have HW : Hid (Wr (fun k => (Value.slice (some ⟨b4, 0, none⟩) (rd_T76 l1 q).f4.length c4).ownBlock = some k) w7 (w7.setCell ⟨b4, p * 2 + 1, none⟩ (.string value))) := (Wr.refl _ w7).set b4 _ _ (.inl rfl)
      have HT8 : Hid (∃ lab', TwL (w7.setCell ⟨b4, p * 2 + 1, none⟩ (.string value)) B (l1.set q { rd_T76 l1 q with f4 := (rd_T76 l1 q).f4.set p ⟨(rd_T82 (rd_T76 l1 q).f4 p).f0, value⟩ }) (.slice (some ⟨g, 0, none⟩) l.length cv) lab' inner) :=
        HT.out.propsIn HQ1.out he7 h4 h5 h6 HW.out (R82 (by simpa using ho) (fun k hk => .inl hk))
      have kt8 : (w7.setCell ⟨b4, p * 2 + 1, none⟩ (.string value)).heap[tb]? = some (.cells #[.int .i64 nx, .slice (some ⟨g, 0, none⟩) l.length cv] 27 (0, 0)) := blk_far KT.out (fun (e : tb = b4) => by
        obtain ⟨cells, h⟩ := hb4
        rw [← e, KT.out] at h; cases h) _
      have k28 : (w7.setCell ⟨b4, p * 2 + 1, none⟩ (.string value)).heap[w.heap.size + 1]? = some (.cells #[.int .i64 0, .slice none 0 0] 27 (0, 0)) := blk_far HX.out.k2 (fun (e : w.heap.size + 1 = b4) => by
        obtain ⟨cells, h⟩ := hb4
        rw [← e, HX.out.k2] at h; cases h) _
      have hb8 : Below w.heap.size w (w7.setCell ⟨b4, p * 2 + 1, none⟩ (.string value)) := HX.out.b.setCell (Nat.le_trans HBB.out (own_base (own82 h4) b4 rfl)) _
      have t0 := blk_cell kt8 0
      have t1 := blk_cell kt8 1
      obtain ⟨z0, z1, fz, r0, r1, hb9⟩ := boxW hb8 (show w.heap.size ≤ w.heap.size + 1 by omega) k28 (.int .i64 nx) (.slice (some ⟨g, 0, none⟩) l.length cv)
      have HP : Hid (EditPost nx l id w (.returned (.tuple #[.agg #[.int .i64 nx, .slice (some ⟨g, 0, none⟩) l.length cv], .int .i64 0])) (((w7.setCell ⟨b4, p * 2 + 1, none⟩ (.string value)).setCell ⟨w.heap.size + 1, 0, none⟩ (.int .i64 nx)).setCell ⟨w.heap.size + 1, 1, none⟩ (.slice (some ⟨g, 0, none⟩) l.length cv))) := by
        obtain ⟨lab', ht⟩ := HT8.out
        have h9 := ((ht.set k28 (by decide) 0 (.int .i64 nx)).set (blk_put k28 0 _ rfl) (by decide) 1 (.slice (some ⟨g, 0, none⟩) l.length cv)).R
        refine ⟨hb9, .inr ⟨_, q, _, rfl, HK.out, HQ.out, HQI.out, HOKP.out.set HPL.out (v := value) (by omega), ?_⟩⟩
        rw [← HL1.out]
        exact Kd.R_lower h9 HBB.out
      have HLP : Hid (p < (rd_T76 l1 q).f4.length) := HPL.out
      clear he7 h4 h5 h6 hc ho hps hb4 HW HT8 kt8 k28 hb8 hb9 HX KT HT hpl
      generalize hn4 : (rd_T76 l1 q).f4.length = n4 at *
      clear hn4
      have hp1 : (p : Int) < (n4 : Int) := by have := HLP.out; omega
      go_wp2_with fail
      simp [bodyPost, results, Try.results34, go_sem, r0, r1]
      exact HP.out
    | false =>
      obtain ⟨A5, c5, p4, ho4, _, hb7, hbg, hst⟩ := HT.out.step4 hq HPS.out
      have HO4 := hidm ho4
      have HPP := HF.out.le
      have HB7 := hidm hb7
      have HGB := hidm hbg
      have HF2 := hidm hst
      clear ho4 hb7 hbg hst
      clear HT
      go_wp2_with fail
      clear p4
      refine (insProps_any B _ ps.length p (enc82 ps) [.string name, .string ⟨#[]⟩] w7 HO4.out HB7.out HPP HL4.out rfl (fun u hu => by
        rcases List.mem_cons.1 hu with rfl | hu
        · rfl
        · rw [List.mem_singleton.1 hu]; rfl) (enc82_one ps)).mono ?_
      rintro e w9 ⟨v', rfl, ho', hw', hat'⟩
      obtain ⟨A9, c9, rfl, _⟩ := own_slice ho'
      obtain ⟨ps1, hps1⟩ : ∃ ps1, ps1 = ps.take p ++ [⟨name, ⟨#[]⟩⟩] ++ ps.drop p := ⟨_, rfl⟩
      have hpl1 : ps1.length = ps.length + 1 := by rw [hps1]; simp; omega
      have e1 : (enc82 ps).take (p * 2) ++ [.string name, .string ⟨#[]⟩] ++ (enc82 ps).drop (p * 2) = enc82 ps1 := by rw [hps1, enc82_take, enc82_drop, enc82_app, enc82_app]; rfl
      rw [e1, ← hpl1] at ho'
      rw [← hpl1]
      obtain ⟨f1, f2, f3, f4⟩ := HF2.out w9 (.slice A9 ps1.length c9) ps1 hw' (R82 ho' (fun k hk => by
          rcases hat' with h | ⟨b, h, hle⟩
          · rw [hpl1, h] at hk; exact .inl hk
          · rw [hpl1, h] at hk; injection hk with hk; exact .inr (by omega)))
      obtain ⟨w10, hw10⟩ : ∃ w10, w9.setCell ⟨g, q * 7 + 4, none⟩ (.slice A9 ps1.length c9) = w10 := ⟨_, rfl⟩
      rw [hw10] at f3 f4
      obtain ⟨lab1, inner1, ht1⟩ := f3
      obtain ⟨l1, hl1⟩ : ∃ l1, l1 = l.set q { rd_T76 l q with f4 := ps1 } := ⟨_, rfl⟩
      have hrd : rd_T76 l1 q = { rd_T76 l q with f4 := ps1 } := by rw [hl1, rd_set_self _ hq]
      have hbw : Below w.heap.size w7 w9 := Wr.below hw' (Nat.le_trans HBB.out HB7.out) (fun k hk => Nat.le_trans HBB.out (own_base HO4.out k hk))
      have HX10 : Hid (Boxed2 w (.cells #[.int .i64 nx, .slice A l.length c] 27) (.cells #[.int .i64 0, .slice none 0 0] 27) w10) :=
        ⟨by rw [← hw10]; exact (HX.out.b.trans hbw).setCell (Nat.le_trans HBB.out HGB.out) _, f4 _ 27 _ HX.out.k1 (by decide) (by decide), f4 _ 27 _ HX.out.k2 (by decide) (by decide)⟩
      have KT10 := hidm (f4 _ 27 _ KT.out (by decide) (by decide))
      have HT : Hid (TwL w10 B l1 (.slice (some ⟨g, 0, none⟩) l.length cv) lab1 inner1) := by rw [hl1]; exact ht1
      have HQ1 : Hid (q < l1.length) := by rw [hl1, List.length_set]; exact hq
      have HPL : Hid (p < (rd_T76 l1 q).f4.length) := by rw [hrd]; show p < ps1.length; omega
      have HOKP : Hid (PsOk (rd_T76 l1 q).f4) := by rw [hrd]; show PsOk ps1; rw [hps1]; exact HOK.out.insert HF.out HNB.out
      have HL1 : Hid (∀ qs, l1.set q { rd_T76 l1 q with f4 := qs } = l.set q { rd_T76 l q with f4 := qs }) := fun qs => by rw [hrd, hl1, List.set_set]
      clear HX KT
      have HX := HX10
      have KT := KT10
      clear HX10 KT10 HF2 f4 ht1 hl1 hrd hbw ho' hw' hat' e1 hps1 hpl1 HO4
      obtain ⟨v4, v5, v6, he7, h4, h5, h6, hc, _⟩ := HT.out.at_ HQ1.out
      obtain ⟨b4, c4, rfl, hc4⟩ := own_some (own82 h4) (by have := HPL.out; omega)
      have p4 := hc 4 _ (by rw [he7]; rfl)
      obtain ⟨ho, pv, fv⟩ := propSet (own82 h4) HPL.out value
      have hpl := HPL.out
      have hps := (own82 h4).1
      have hp0 : (0 : Int) ≤ (p : Int) := by omega
      have hb4 : ∃ cells, w10.heap[b4]? = some (.cells cells 82 (0, 0)) := own_typed (own82 h4) b4 rfl
      have HW : Hid (Wr (fun k => (Value.slice (some ⟨b4, 0, none⟩) (rd_T76 l1 q).f4.length c4).ownBlock = some k) w10 (w10.setCell ⟨b4, p * 2 + 1, none⟩ (.string value))) := (Wr.refl _ w10).set b4 _ _ (.inl rfl)
      have HT8 : Hid (∃ lab', TwL (w10.setCell ⟨b4, p * 2 + 1, none⟩ (.string value)) B (l1.set q { rd_T76 l1 q with f4 := (rd_T76 l1 q).f4.set p ⟨(rd_T82 (rd_T76 l1 q).f4 p).f0, value⟩ }) (.slice (some ⟨g, 0, none⟩) l.length cv) lab' inner1) :=
        HT.out.propsIn HQ1.out he7 h4 h5 h6 HW.out (R82 (by simpa using ho) (fun k hk => .inl hk))
      have kt8 : (w10.setCell ⟨b4, p * 2 + 1, none⟩ (.string value)).heap[tb]? = some (.cells #[.int .i64 nx, .slice (some ⟨g, 0, none⟩) l.length cv] 27 (0, 0)) := blk_far KT.out (fun (e : tb = b4) => by
        obtain ⟨cells, h⟩ := hb4
        rw [← e, KT.out] at h; cases h) _
      have k28 : (w10.setCell ⟨b4, p * 2 + 1, none⟩ (.string value)).heap[w.heap.size + 1]? = some (.cells #[.int .i64 0, .slice none 0 0] 27 (0, 0)) := blk_far HX.out.k2 (fun (e : w.heap.size + 1 = b4) => by
        obtain ⟨cells, h⟩ := hb4
        rw [← e, HX.out.k2] at h; cases h) _
      have hb8 : Below w.heap.size w (w10.setCell ⟨b4, p * 2 + 1, none⟩ (.string value)) := HX.out.b.setCell (Nat.le_trans HBB.out (own_base (own82 h4) b4 rfl)) _
      have t0 := blk_cell kt8 0
      have t1 := blk_cell kt8 1
      obtain ⟨z0, z1, fz, r0, r1, hb9⟩ := boxW hb8 (show w.heap.size ≤ w.heap.size + 1 by omega) k28 (.int .i64 nx) (.slice (some ⟨g, 0, none⟩) l.length cv)
      have HP : Hid (EditPost nx l id w (.returned (.tuple #[.agg #[.int .i64 nx, .slice (some ⟨g, 0, none⟩) l.length cv], .int .i64 0])) (((w10.setCell ⟨b4, p * 2 + 1, none⟩ (.string value)).setCell ⟨w.heap.size + 1, 0, none⟩ (.int .i64 nx)).setCell ⟨w.heap.size + 1, 1, none⟩ (.slice (some ⟨g, 0, none⟩) l.length cv))) := by
        obtain ⟨lab', ht⟩ := HT8.out
        have h9 := ((ht.set k28 (by decide) 0 (.int .i64 nx)).set (blk_put k28 0 _ rfl) (by decide) 1 (.slice (some ⟨g, 0, none⟩) l.length cv)).R
        refine ⟨hb9, .inr ⟨_, q, _, rfl, HK.out, HQ.out, HQI.out, HOKP.out.set HPL.out (v := value) (by omega), ?_⟩⟩
        rw [← HL1.out]
        exact Kd.R_lower h9 HBB.out
      have HLP : Hid (p < (rd_T76 l1 q).f4.length) := HPL.out
      clear he7 h4 h5 h6 hc ho hps hb4 HW HT8 kt8 k28 hb8 hb9 HX KT HT hpl
      generalize hn4 : (rd_T76 l1 q).f4.length = n4 at *
      clear hn4
      have hp1 : (p : Int) < (n4 : Int) := by have := HLP.out; omega
      go_wp2_with fail
      simp [bodyPost, results, Try.results34, go_sem, r0, r1]
      exact HP.out
end Go.Proofs.Ytlopfkkegjajlaa
namespace Go.Proofs.Ytlopfkkegjajlaa
open Go.RowKit Go.Proofs.YtlopfkkegjajlaaW.PrintWords PHistoryTouched
set_option maxRecDepth 100000 in
set_option maxHeartbeats 8000000 in
theorem drop_any (nx id : Int) (A : Option Addr) (l : List S76) (c : Nat) (name : ByteArray) (w : World) (hr : Kd.C k76 w A l.length l) (hs : SmallL l) (hwf : WfL l) (hid : I64 id) :
    Calls Try.prog 35 #[.agg #[.int .i64 nx, .slice A l.length c], .int .i64 id, .string name] w (EditPost nx l id w) := by
  have HR := hidm hr
  have HS := hidm hs
  have HWF := hidm hwf
  have HID := hidm hid
  have HX : Hid (Boxed2 w (.cells #[.int .i64 nx, .slice A l.length c] 27) (.cells #[.string name] 9) (((w.alloc (.cells #[.int .i64 nx, .slice A l.length c] 27)).alloc (.cells #[.string name] 9)).alloc (.cells #[.int .i64 0, .slice none 0 0] 27))) := (boxed2 w _ _).below (below_alloc (Below.refl _ _) _)
  have KR : Hid ((((w.alloc (.cells #[.int .i64 nx, .slice A l.length c] 27)).alloc (.cells #[.string name] 9)).alloc (.cells #[.int .i64 0, .slice none 0 0] 27)).heap[w.heap.size + 1 + 1]? = some (.cells #[.int .i64 0, .slice none 0 0] 27 (0, 0))) := by
    have := blk_new ((w.alloc (.cells #[.int .i64 nx, .slice A l.length c] 27)).alloc (.cells #[.string name] 9)) (.cells #[.int .i64 0, .slice none 0 0] 27)
    have e : ((w.alloc (.cells #[.int .i64 nx, .slice A l.length c] 27)).alloc (.cells #[.string name] 9)).heap.size = w.heap.size + 1 + 1 := by simp
    rw [e] at this; exact this
  clear hr hs hwf hid
  go_enter Try.func35, Try.ntmps35
  go_wp2_with fail
  generalize (World.alloc (World.alloc (World.alloc _ _) _) _) = W at HX KR ⊢
  refine (check_any nx l A c W (Kd.C_below HR.out HX.out.b) HWF.out).mono ?_
  rintro e w1 ⟨rfl, hb⟩
  replace KR := hidm (blk_below KR.out hb)
  replace HX := hidm (HX.out.below hb)
  clear hb
  by_cases hk : CheckP nx l
  case neg =>
    rw [errI_no hk]
    clear hk
    obtain ⟨z0, z1, fz, r0, r1, hb9⟩ := boxW HX.out.b (show w.heap.size ≤ w.heap.size + 1 + 1 by omega) KR.out (.int .i64 0) (.slice none 0 0)
    have HP : Hid (EditPost nx l id w (.returned (.tuple #[.agg #[.int .i64 0, .slice none 0 0], .int .i64 29])) _) := ⟨hb9, .inl ⟨29, by decide, rfl⟩⟩
    clear hb9
    go_wp2_with fail
    simp [bodyPost, results, Try.results35, go_sem, r0, r1]
    exact HP.out
  have HK := hidm hk
  rw [errI_yes hk]
  clear hk
  obtain ⟨b, HNB⟩ : ∃ b, Hid (wordB name = b) := ⟨_, rfl⟩
  have qn : w1.cell? ⟨w.heap.size + 1, 0, none⟩ = some (.string name) := blk_cell HX.out.k2 0
  go_wp2_with fail
  clear qn
  refine (word_any name w1).mono ?_
  rintro e w2 ⟨rfl, hb⟩
  rw [HNB.out]
  replace KR := hidm (blk_below KR.out hb)
  replace HX := hidm (HX.out.below hb)
  clear hb
  cases b with
  | false =>
    obtain ⟨z0, z1, fz, r0, r1, hb9⟩ := boxW HX.out.b (show w.heap.size ≤ w.heap.size + 1 + 1 by omega) KR.out (.int .i64 0) (.slice none 0 0)
    have HP : Hid (EditPost nx l id w (.returned (.tuple #[.agg #[.int .i64 0, .slice none 0 0], .int .i64 2])) _) := ⟨hb9, .inl ⟨2, by decide, rfl⟩⟩
    clear hb9
    go_wp2_with fail
    simp [bodyPost, results, Try.results35, go_sem, r0, r1]
    exact HP.out
  | true =>
    have q0 : w2.cell? ⟨w.heap.size, 0, none⟩ = some (.int .i64 nx) := blk_cell HX.out.k1 0
    have q1 : w2.cell? ⟨w.heap.size, 1, none⟩ = some (.slice A l.length c) := blk_cell HX.out.k1 1
    go_wp2_with fail
    clear q0 q1
    refine (place_any nx A l c id w2 (Kd.C_below HR.out HX.out.b) (ids_up HK.out.hi HK.out.ids) HK.out.len HID.out).mono ?_
    rintro e w3 ⟨r, rfl, hp, hb⟩
    replace KR := hidm (blk_below KR.out hb)
    replace HX := hidm (HX.out.below hb)
    clear hb
    by_cases hp0 : r < 0
    case pos =>
      clear hp
      obtain ⟨z0, z1, fz, r0, r1, hb9⟩ := boxW HX.out.b (show w.heap.size ≤ w.heap.size + 1 + 1 by omega) KR.out (.int .i64 0) (.slice none 0 0)
      have HP : Hid (EditPost nx l id w (.returned (.tuple #[.agg #[.int .i64 0, .slice none 0 0], .int .i64 20])) _) := ⟨hb9, .inl ⟨20, by decide, rfl⟩⟩
      clear hb9
      go_wp2_with fail
      simp [bodyPost, results, Try.results35, go_sem, r0, r1]
      exact HP.out
    obtain ⟨q, rfl, hq, he⟩ := hp.2 (by omega)
    have HQ := hidm hq
    have HQI := hidm he
    have hq0 : (0 : Int) ≤ (q : Int) := by omega
    have hq1 : (q : Int) < (l.length : Int) := by omega
    have q0 : w3.cell? ⟨w.heap.size, 0, none⟩ = some (.int .i64 nx) := blk_cell HX.out.k1 0
    have q1 : w3.cell? ⟨w.heap.size, 1, none⟩ = some (.slice A l.length c) := blk_cell HX.out.k1 1
    clear hp hp0 he
    go_wp2_with fail
    clear q0 q1
    have HBB : Hid (w.heap.size ≤ w3.heap.size) := HX.out.b.size
    refine (atwin_any nx A l c w3 (Kd.C_below HR.out HX.out.b) HS.out).mono ?_
    rintro e w4 ⟨v, lab, inner, rfl, ht, hb⟩
    obtain ⟨g, cv, rfl, hcv⟩ := ht.slice (by omega)
    have hb := below_alloc hb (.cells #[.int .i64 nx, .slice (some ⟨g, 0, none⟩) l.length cv] 27)
    have HT := hidm (ht.below (below_alloc (Below.refl _ _) (.cells #[.int .i64 nx, .slice (some ⟨g, 0, none⟩) l.length cv] 27)))
    have KT := hidm (blk_new w4 (.cells #[.int .i64 nx, .slice (some ⟨g, 0, none⟩) l.length cv] 27))
    clear ht
    replace KR := hidm (blk_below KR.out hb)
    replace HX := hidm (HX.out.below hb)
    clear hb
    go_wp2_with fail
    generalize (w4.alloc (.cells #[.int .i64 nx, .slice (some ⟨g, 0, none⟩) l.length cv] 27)) = w5 at HX HT KT KR ⊢
    generalize w4.heap.size = tb at KT ⊢
    generalize w3.heap.size = B at HT HBB
    have y0 : ∀ x : BW w5, x.1.cell? ⟨tb, 0, none⟩ = some (.int .i64 nx) := bw_cell (blk_cell KT.out 0)
    have y1 : ∀ x : BW w5, x.1.cell? ⟨tb, 1, none⟩ = some (.slice (some ⟨g, 0, none⟩) l.length cv) := bw_cell (blk_cell KT.out 1)
    refine wp_region_bwt 6 (by kernel_rfl) (by kernel_rfl) ?_
    simp only [List.take_succ_cons, List.take_zero, List.drop_succ_cons, List.drop_zero]
    repeat (go_big_quiet_step ((go_at_call 54; exact calls_bw (place_at nx (some ⟨g, 0, none⟩) l cv _ _ (Kd.C_below HT.out.C (Subtype.property _)) (ids_up HK.out.hi HK.out.ids) HK.out.len HID.out q hq HQI.out))))
    refine wpQuiet_nil ?_
    rintro _ ⟨x, rfl⟩
    clear y0 y1
    replace HX := hidm (HX.out.below x.2)
    replace HT := hidm (HT.out.below x.2)
    replace KT := hidm (blk_below KT.out x.2)
    replace KR := hidm (blk_below KR.out x.2)
    obtain ⟨w7, hw7⟩ := x
    dsimp only at HX HT KT KR ⊢
    clear hw7
    have HOK : Hid (PsOk (rd_T76 l q).f4) := PsOk.of (fun k hk => (HK.out.alone q hq).props k hk)
    have HL4 : Hid ((rd_T76 l q).f4.length ≤ 1048576) := HS.out.p q hq
    generalize hps : (rd_T76 l q).f4 = ps at HOK HL4
    have HPS := hidm hps
    clear hps
    obtain ⟨A5, c5, p4, ho4, hC, hb7, hbg, hst⟩ := HT.out.step4 hq HPS.out
    have HO4 := hidm ho4
    have HC4 := hidm hC
    have HB7 := hidm hb7
    have HGB := hidm hbg
    have HF2 := hidm hst
    clear ho4 hC hb7 hbg hst HT
    go_wp2_with fail
    clear p4
    refine (delFunc_any B _ ps (w.heap.size + 1) name w7 HO4.out ⟨A5, c5, rfl, HC4.out⟩ HX.out.k2 HL4.out).mono ?_
    rintro e w9 ⟨v', rfl, ho', hw', hat'⟩
    obtain ⟨D, hD⟩ : ∃ D, dropL name ps = D := ⟨_, rfl⟩
    rw [hD] at ho'
    obtain ⟨A9, c9, rfl, _⟩ := own_slice ho'
    obtain ⟨f1, f2, f3, f4⟩ := HF2.out w9 (.slice A9 D.length c9) D hw' (R82 ho' (fun k hk => .inl (by rw [← hat']; exact hk)))
    obtain ⟨w10, hw10⟩ : ∃ w10, w9.setCell ⟨g, q * 7 + 4, none⟩ (.slice A9 D.length c9) = w10 := ⟨_, rfl⟩
    rw [hw10] at f3 f4
    obtain ⟨lab1, inner1, ht1⟩ := f3
    have hbw : Below w.heap.size w7 w9 := Wr.below hw' (Nat.le_trans HBB.out HB7.out) (fun k hk => Nat.le_trans HBB.out (own_base HO4.out k hk))
    have hb10 : Below w.heap.size w w10 := by rw [← hw10]; exact (HX.out.b.trans hbw).setCell (Nat.le_trans HBB.out HGB.out) _
    have kr10 := f4 _ 27 _ KR.out (by decide) (by decide)
    have kt10 := f4 _ 27 _ KT.out (by decide) (by decide)
    have t0 := blk_cell kt10 0
    have t1 := blk_cell kt10 1
    obtain ⟨z0, z1, fz, r0, r1, hb9⟩ := boxW hb10 (show w.heap.size ≤ w.heap.size + 1 + 1 by omega) kr10 (.int .i64 nx) (.slice (some ⟨g, 0, none⟩) l.length cv)
    have HP : Hid (EditPost nx l id w (.returned (.tuple #[.agg #[.int .i64 nx, .slice (some ⟨g, 0, none⟩) l.length cv], .int .i64 0])) ((w10.setCell ⟨w.heap.size + 1 + 1, 0, none⟩ (.int .i64 nx)).setCell ⟨w.heap.size + 1 + 1, 1, none⟩ (.slice (some ⟨g, 0, none⟩) l.length cv))) := by
      have h9 := ((ht1.set kr10 (by decide) 0 (.int .i64 nx)).set (blk_put kr10 0 _ rfl) (by decide) 1 (.slice (some ⟨g, 0, none⟩) l.length cv)).R
      exact ⟨hb9, .inr ⟨_, q, D, rfl, HK.out, HQ.out, HQI.out, by rw [← hD]; exact HOK.out.drop _, Kd.R_lower h9 HBB.out⟩⟩
    clear hb9 hb10 hbw kr10 kt10 ht1 f4 ho' hw' hat' hD HF2 HX KT KR
    go_wp2_with fail
    simp [bodyPost, results, Try.results35, go_sem, r0, r1]
    exact HP.out
end Go.Proofs.Ytlopfkkegjajlaa
namespace Go.Proofs.Ytlopfkkegjajlaa
open Go.RowKit Go.Proofs.YtlopfkkegjajlaaW.PrintWords PHistoryTouched
structure KidsIn (l : List S76) (q : Nat) : Prop where
  ids : IdsUp l
  len : l.length ≤ 4096
  at_ : q < l.length
  kids : ∀ j : Nat, j < (rd_T76 l q).f5.length → ∃ p : Nat, p < l.length ∧ (rd_T76 l p).f0 = rd (rd_T76 l q).f5 j
  n : (rd_T76 l q).f5.length ≤ 4096
theorem KidsIn.i64 {l : List S76} {q : Nat} (h : KidsIn l q) {j : Nat} (hj : j < (rd_T76 l q).f5.length) : I64 (rd (rd_T76 l q).f5 j) := by
  obtain ⟨p, hp, e⟩ := h.kids j hj
  have h1 := h.ids.lo p hp
  have h2 := h.ids.hi p hp
  rw [e] at h1 h2
  exact ⟨by omega, by omega⟩
def InPost (ks : List Int) (w : World) (e : Ending) (w' : World) : Prop := ∃ v xs, e = .returned v ∧ (Kd.int .i64).R 3 w' w.heap.size (fun _ => True) v xs ∧ (∀ x ∈ xs, x ∈ ks) ∧ xs.length ≤ 4096 ∧ Below w.heap.size w w'
structure InI (w : World) (nx : Int) (A : Option Addr) (l : List S76) (c : Nat) (ks : List Int) (k : Nat) (v : Value) (W : World) : Prop where
  b : Below w.heap.size w W
  k1 : W.heap[w.heap.size]? = some (.cells #[.int .i64 nx, .slice A l.length c] 27 (0, 0))
  r : ∃ xs, (Kd.int .i64).R 3 W w.heap.size (fun _ => True) v xs ∧ (∀ x ∈ xs, x ∈ ks) ∧ xs.length ≤ k
set_option maxRecDepth 100000 in
set_option maxHeartbeats 4000000 in
theorem in_any (nx : Int) (A : Option Addr) (l : List S76) (c q : Nat) (role : ByteArray) (w : World) (hr : Kd.C k76 w A l.length l) (hk : KidsIn l q) :
    Calls Try.prog 99 #[.agg #[.int .i64 nx, .slice A l.length c], .int .i64 q, .string role] w (InPost (rd_T76 l q).f5 w) := by
  have HR := hidm hr
  have HKI := hidm hk
  have hq := hk.at_
  have hq0 : (0 : Int) ≤ (q : Int) := by omega
  have hq1 : (q : Int) < (l.length : Int) := by omega
  have HN : Hid ((rd_T76 l q).f5.length ≤ 4096) := hk.n
  have HI0 : Hid (InI w nx A l c (rd_T76 l q).f5 0 (.slice none 0 0) (w.alloc (.cells #[.int .i64 nx, .slice A l.length c] 27))) := ⟨below_alloc (Below.refl _ _) _, blk_new _ _, [], Kd.R_nil _ _ _ _ _, fun x hx => by simp at hx, Nat.le_refl _⟩
  obtain ⟨ad, A4, c4, A5, c5, A6, c6, rfl, x0, x1, x2, x3, x4, x5, x6, hn⟩ := node_atN hr q (by omega)
  have HC5 : Hid (Kd.C (Kd.int .i64) w A5 (rd_T76 l q).f5.length (rd_T76 l q).f5) := hn.r5
  replace x5 := pw_cell_below (below_alloc (Below.refl _ _) (.cells #[.int .i64 nx, .slice (some ad) l.length c] 27)) x5
  clear hr hk x0 x1 x2 x3 x4 x6 hn
  obtain ⟨ks, HKS⟩ : ∃ ks, Hid ((rd_T76 l q).f5 = ks) := ⟨_, rfl⟩
  rw [HKS.out] at HI0 HC5 x5 HN ⊢
  have hkn : ks.length ≤ 4096 := HN.out
  go_enter Try.func99, Try.ntmps99
  go_wp2_with fail
  clear x5
  generalize (w.alloc (.cells #[.int .i64 nx, .slice (some ad) l.length c] 27)) = W0 at HI0 ⊢
  go_loopw [7, 9, 17] (fun v _ i W => ∃ k : Nat, k ≤ ks.length ∧ i = .int .i64 k ∧ Hid (InI w nx (some ad) l c ks k v W) ) (fun _ _ i _ => ks.length - (intOf i).toNat)
  case atStart => exact ⟨0, Nat.zero_le _, rfl, HI0⟩
  case round =>
    obtain ⟨k, hk, rfl, HI⟩ := hrel
    by_cases hlt : k < ks.length
    · obtain ⟨bd, rfl, hx⟩ := kid_at (Kd.C_below HC5.out HI.out.b) k hlt
      obtain ⟨p, hp, hpe⟩ := HKI.out.kids k (by rw [HKS.out]; exact hlt)
      rw [HKS.out] at hpe
      have HPE := hidm hpe
      have HI64 : Hid (I64 (rd ks k)) := by have := HKI.out.i64 (j := k) (by rw [HKS.out]; exact hlt); rwa [HKS.out] at this
      have HMEM : Hid (rd ks k ∈ ks) := by
        have : rd ks k = ks[k] := by simp [rd, List.getD_eq_getElem?_getD, List.getElem?_eq_getElem hlt]
        rw [this]; exact List.getElem_mem hlt
      have hk0 : (0 : Int) ≤ (k : Int) := by omega
      have hk1 : (k : Int) < (ks.length : Int) := by omega
      have hp0 : (0 : Int) ≤ (p : Int) := by omega
      have hp1 : (p : Int) < (l.length : Int) := by omega
      clear hpe
      generalize rd ks k = z at *
      go_wp2_with fail
      clear hx
      obtain ⟨ad', B4, d4, B5, d5, B6, d6, hae, _, _, _, y3', _, _, _, _⟩ := node_atN (Kd.C_below HR.out HI.out.b) p (by omega)
      cases hae
      have y0 : ∀ x : BW wr, x.1.cell? ⟨w.heap.size, 0, none⟩ = some (.int .i64 nx) := bw_cell (blk_cell HI.out.k1 0)
      have y1 : ∀ x : BW wr, x.1.cell? ⟨w.heap.size, 1, none⟩ = some (.slice (some ad) l.length c) := bw_cell (blk_cell HI.out.k1 1)
      have y3 : ∀ x : BW wr, x.1.cell? ⟨(ad.add (p * 7)).block, (ad.add (p * 7)).off + 3, none⟩ = some (.string (rd_T76 l p).f3) := bw_cell y3'
      clear y3'
      refine wp_region_bw (by kernel_rfl) (by kernel_rfl) ?_
      repeat (go_big_quiet_step ((go_at_call 54; exact calls_bw (place_at nx (some ad) l c _ _ (Kd.C_below HR.out (below_step HI.out.b (Subtype.property _))) HKI.out.ids HKI.out.len HI64.out p hp HPE.out))))
      refine wpQuiet_nil ?_
      rintro _ ⟨x, rfl⟩
      clear y0 y1 y3
      have hxb := x.2
      obtain ⟨xs, hR, hsub, hxl⟩ := HI.out.r
      have HB1 : Hid (Below w.heap.size w x.1) := below_step HI.out.b hxb
      have K1 := hidm (blk_below HI.out.k1 hxb)
      have HR1 := hidm (Kd.R_below hR hxb)
      have HSUB := hidm hsub
      have HXL := hidm hxl
      clear hR hsub hxl hxb HI
      obtain ⟨w2, hw2⟩ := x
      dsimp only at HB1 K1 HR1 ⊢
      clear hw2
      generalize ((rd_T76 l p).f3.toList == role.toList) = b
      cases b with
      | true =>
        go_wp2_with ((
          at_builtin
          refine Kd.R_append (Kd.int .i64) (w0 := w) w.heap.size rfl (.tmp 31) (.tmp 33) 54 3 (.int .i64 0) 8 rfl Try.underlying54 info3 rfl (by decide) (by decide) u7 xs z [.int .i64 z] (fun _ => True) (fun _ => False) rfl rfl rfl (fun _ h => h.elim) (fun _ _ => trivial) HR1.out HB1.out HB1.out.size (by have := HXL.out; have := HN.out; omega) ?_
          intro v2 w3 hN hB hg hat
          have HI2 : Hid (InI w nx (some ad) l c ks (k + 1) v2 w3) := ⟨hB, (hg.block _ (blk_lt K1.out) (Kd.R_ne HR1.out K1.out (by decide))).trans K1.out, xs ++ [z], hN, fun x hx => by
            rcases List.mem_append.1 hx with hx | hx
            · exact HSUB.out x hx
            · rw [List.mem_singleton.1 hx]; exact HMEM.out, by rw [List.length_append]; have := HXL.out; simp; omega⟩
          clear hN hB hg hat))
        go_roundw
        case rel => exact ⟨k + 1, by omega, by go_num, HI2⟩
        case measure => simp [intOf]; omega
      | false =>
        have HI2 : Hid (InI w nx (some ad) l c ks (k + 1) u7 w2) := ⟨HB1.out, K1.out, xs, HR1.out, HSUB.out, by have := HXL.out; omega⟩
        go_wp2_with fail
        go_roundw
        case rel => exact ⟨k + 1, by omega, by go_num, HI2⟩
        case measure => simp [intOf]; omega
    · obtain ⟨xs, hR, hsub, hxl⟩ := HI.out.r
      have HP : Hid (InPost ks w (.returned u7) wr) := ⟨_, xs, rfl, hR, hsub, by have := HN.out; omega, HI.out.b⟩
      clear hR hsub hxl
      go_wp2_with fail
      go_ret
      exact HP.out
def IdxPost2 (ks : List Int) (w : World) (e : Ending) (w' : World) : Prop := ∃ j : Nat, j < ks.length ∧ e = .returned (.int .i64 j) ∧ Below w.heap.size w w'
set_option maxRecDepth 100000 in
set_option maxHeartbeats 1000000 in
theorem indexK_any (A : Option Addr) (ks : List Int) (c : Nat) (x : Int) (w : World) (hr : Kd.C (Kd.int .i64) w A ks.length ks) (hx : x ∈ ks) (hl : ks.length ≤ 4096) :
    Calls Try.prog 100 #[.slice A ks.length c, .int .i64 x] w (IdxPost2 ks w) := by
  have HR := hidm hr
  have HX := hidm hx
  clear hr hx
  go_enter Try.func100, Try.ntmps100
  go_wp2
  go_loopw [8] (fun i W => ∃ k : Nat, k ≤ ks.length ∧ i = .int .i64 k ∧ Hid (Below w.heap.size w W) ∧ Hid (∀ j : Nat, j < k → rd ks j ≠ x)) (fun i _ => ks.length - (intOf i).toNat)
  case atStart => exact ⟨0, Nat.zero_le _, rfl, Below.refl _ _, fun j hj => by omega⟩
  case round =>
    obtain ⟨k, hk, rfl, HB, HF⟩ := hrel
    by_cases hlt : k < ks.length
    · obtain ⟨ad, rfl, hx0⟩ := kid_at (Kd.C_below HR.out HB.out) k hlt
      have hk0 : (0 : Int) ≤ (k : Int) := by omega
      have hk1 : (k : Int) < (ks.length : Int) := by omega
      by_cases he : rd ks k = x
      · have HP : Hid (IdxPost2 ks w (.returned (.int .i64 k)) wr) := ⟨k, hlt, rfl, HB.out⟩
        have he' : (x == rd ks k) = true := by simp [he]
        clear he
        go_wp2_with fail
        go_ret
        exact HP.out
      · have HF' : Hid (∀ j : Nat, j < k + 1 → rd ks j ≠ x) := fun j hj => by
          rcases Nat.lt_or_ge j k with h | h
          · exact HF.out j h
          · obtain rfl : j = k := by omega
            exact he
        have he' : (x == rd ks k) = false := by rw [beq_eq_false_iff_ne]; exact fun h => he h.symm
        clear HF he
        go_wp2_with fail
        go_roundw
        case rel => exact ⟨k + 1, by omega, by go_num, HB, HF'⟩
        case measure => simp [intOf]; omega
    · exact absurd HX.out (fun hm => by
        obtain ⟨j, hj, e⟩ := List.getElem_of_mem hm
        have := HF.out j (by omega)
        rw [show rd ks j = ks[j] from by simp [rd, List.getD_eq_getElem?_getD, List.getElem?_eq_getElem hj]] at this
        exact this e)
def SpotPost (ks : List Int) (w : World) (e : Ending) (w' : World) : Prop := ∃ i : Nat, i ≤ ks.length ∧ e = .returned (.tuple #[.int .i64 i, .bool true]) ∧ Below w.heap.size w w'
set_option maxRecDepth 100000 in
set_option maxHeartbeats 4000000 in
theorem spot_any (nx : Int) (A : Option Addr) (l : List S76) (c q : Nat) (par : Int) (role : ByteArray) (w : World) (hr : Kd.C k76 w A l.length l) (hk : KidsIn l q) (he : (rd_T76 l q).f0 = par) (hi : I64 par) :
    Calls Try.prog 80 #[.agg #[.int .i64 nx, .slice A l.length c], .int .i64 par, .string role, .int .i64 0] w (SpotPost (rd_T76 l q).f5 w) := by
  have HR := hidm hr
  have HKI := hidm hk
  have HE := hidm he
  have HII := hidm hi
  have hq := hk.at_
  have hq0 : (0 : Int) ≤ (q : Int) := by omega
  have hq1 : (q : Int) < (l.length : Int) := by omega
  have HB0 : Hid (Below w.heap.size w (w.alloc (.cells #[.int .i64 nx, .slice A l.length c] 27))) := below_alloc (Below.refl _ _) _
  have K0 : Hid ((w.alloc (.cells #[.int .i64 nx, .slice A l.length c] 27)).heap[w.heap.size]? = some (.cells #[.int .i64 nx, .slice A l.length c] 27 (0, 0))) := blk_new _ _
  obtain ⟨ad, A4, c4, A5, c5, A6, c6, rfl, _, _, _, _, _, x5, _, hn⟩ := node_atN hr q (by omega)
  have HC5 : Hid (Kd.C (Kd.int .i64) w A5 (rd_T76 l q).f5.length (rd_T76 l q).f5) := hn.r5
  have X5 := hidm x5
  have hkn : (rd_T76 l q).f5.length ≤ 4096 := hk.n
  clear hr hk he hi hn x5
  go_enter Try.func80, Try.ntmps80
  go_wp2_with fail
  generalize (w.alloc (.cells #[.int .i64 nx, .slice (some ad) l.length c] 27)) = W at HB0 K0 ⊢
  have y0 : ∀ x : BW W, x.1.cell? ⟨w.heap.size, 0, none⟩ = some (.int .i64 nx) := bw_cell (blk_cell K0.out 0)
  have y1 : ∀ x : BW W, x.1.cell? ⟨w.heap.size, 1, none⟩ = some (.slice (some ad) l.length c) := bw_cell (blk_cell K0.out 1)
  have y5 : ∀ x : BW W, x.1.cell? ⟨(ad.add (q * 7)).block, (ad.add (q * 7)).off + 5, none⟩ = some (.slice A5 (rd_T76 l q).f5.length c5) := bw_cell (pw_cell_below HB0.out X5.out)
  refine wp_region_bwt 8 (by kernel_rfl) (by kernel_rfl) ?_
  simp only [List.take_succ_cons, List.take_zero, List.drop_succ_cons, List.drop_zero]
  repeat (go_big_quiet_step ((go_at_call 54; exact calls_bw (place_at nx (some ad) l c _ _ (Kd.C_below HR.out (below_step HB0.out (Subtype.property _))) HKI.out.ids HKI.out.len HII.out q hq HE.out))))
  refine wpQuiet_nil ?_
  rintro _ ⟨x, rfl⟩
  clear y0 y1 y5
  replace K0 := hidm (blk_below K0.out x.2)
  replace HB0 := hidm (below_step HB0.out x.2)
  obtain ⟨W2, hw2⟩ := x
  dsimp only at K0 HB0 ⊢
  clear hw2 W
  go_wp2_with fail
  have y0 : ∀ x : BW W2, x.1.cell? ⟨w.heap.size, 0, none⟩ = some (.int .i64 nx) := bw_cell (blk_cell K0.out 0)
  have y1 : ∀ x : BW W2, x.1.cell? ⟨w.heap.size, 1, none⟩ = some (.slice (some ad) l.length c) := bw_cell (blk_cell K0.out 1)
  refine wp_region_noPanic ?_
  refine wp_region_hold (C := fun w' => ∃ x : BW W2, w' = x.1) 6 [] [0, 1, 2, 4] [3, 5] (by kernel_rfl) (by kernel_rfl) (by kernel_rfl) (by kernel_rfl) (fun _ _ _ _ _ h => (h : False).elim) ⟨⟨{ W2 with drawn := W2.drawn + 1 }, ⟨rfl, rfl, rfl, Nat.le_refl _, fun _ _ => rfl⟩⟩, rfl⟩ ?_
  simp only [pickOps, Option.elim_some, List.getElem?_cons_succ, List.getElem?_cons_zero, List.drop_succ_cons, List.drop_zero]
  repeat (go_big_quiet_step (fail))
  refine wpQuiet_nil ?_
  rintro _ ⟨x, rfl⟩
  clear y0 y1
  replace HB0 := hidm (below_step HB0.out x.2)
  have HXC : Hid (∀ y, Below x.1.heap.size x.1 y → ∃ z : BW W2, y = z.1) := fun y hy => ⟨⟨y, below_step x.2 hy⟩, rfl⟩
  generalize x.1 = W3 at *
  refine ⟨_, rfl, rfl, .inl ⟨54, #[.agg #[.int .i64 nx, .slice (some ad) l.length c], .int .i64 par], ?_, ?_⟩⟩
  · go_simp
  refine (place_at nx (some ad) l c par W3 (Kd.C_below HR.out HB0.out) HKI.out.ids HKI.out.len HII.out q hq HE.out).mono ?_
  rintro e w4 ⟨rfl, hb4⟩
  refine ⟨_, rfl, HXC.out w4 hb4, ?_⟩
  simp only [Act.put, List.getElem_toArray, List.getElem_cons_succ, List.getElem_cons_zero, List.setIfInBounds_toArray, List.set_cons_zero, List.set_cons_succ]
  replace HB0 := hidm (below_step HB0.out hb4)
  replace HXC : Hid (∀ y, Below w4.heap.size w4 y → ∃ z : BW W2, y = z.1) := fun y hy => HXC.out y (below_step hb4 hy)
  clear hb4
  refine ⟨_, rfl, rfl, .inl ⟨99, #[.agg #[.int .i64 nx, .slice (some ad) l.length c], .int .i64 q, .string role], ?_, ?_⟩⟩
  · go_simp
  refine (in_any nx (some ad) l c q role w4 (Kd.C_below HR.out HB0.out) HKI.out).mono ?_
  rintro e w5 ⟨v, xs, rfl, hR, hsub, hxl, hb5⟩
  refine ⟨_, rfl, HXC.out w5 hb5, ?_⟩
  simp only [Act.put, List.getElem_toArray, List.getElem_cons_succ, List.getElem_cons_zero, List.setIfInBounds_toArray, List.set_cons_zero, List.set_cons_succ]
  replace HB0 := hidm (below_step HB0.out hb5)
  obtain ⟨Av, cv, rfl, _, hC⟩ := Kd.R_reads hR
  have HCV := hidm hC
  have HSUB := hidm hsub
  clear hR hsub hb5 hC HXC
  show wpList _ _ _ _ _ _
  go_wp2_with fail
  refine NoPanic.normal ?_
  cases xs with
  | nil =>
    have HP : Hid (SpotPost (rd_T76 l q).f5 w (.returned (.tuple #[.int .i64 ((rd_T76 l q).f5.length : Nat), .bool true])) w5) := ⟨_, Nat.le_refl _, rfl, HB0.out⟩
    go_wp2_with fail
    go_ret2
    exact HP.out
  | cons z zs =>
    obtain ⟨bd, rfl, hz⟩ := kid_at HCV.out 0 (by simp)
    have hz' : w5.cell? bd = some (.int .i64 z) := by
      have e0 : bd.add 0 = bd := by unfold Addr.add; split <;> simp_all
      rw [e0] at hz; exact hz
    have hl0 : (0 : Int) < ((z :: zs).length : Int) := by simp
    have HZ : Hid (z ∈ (rd_T76 l q).f5) := HSUB.out z List.mem_cons_self
    clear hz HSUB
    go_wp2_with fail
    refine (indexK_any A5 (rd_T76 l q).f5 c5 z w5 (Kd.C_below HC5.out HB0.out) HZ.out hkn).mono ?_
    rintro e w6 ⟨j, hj, rfl, hb6⟩
    have HP : Hid (SpotPost (rd_T76 l q).f5 w (.returned (.tuple #[.int .i64 j, .bool true])) w6) := ⟨_, by omega, rfl, below_step HB0.out hb6⟩
    clear hb6
    go_wp2_with fail
    go_ret2
    exact HP.out
def DeepPost (l : List S76) (q : Nat) (w : World) (e : Ending) (w' : World) : Prop := ∃ d : Nat, d ≤ 64 ∧ e = .returned (.int .i64 d) ∧ DeepOk l d (rd_T76 l q) ∧ Below w.heap.size w w'
def DeepI (l : List S76) (q k : Nat) (cur : Int) : Prop := k ≤ 64 ∧ ((cur = 0 ∧ DeepOk l k (rd_T76 l q)) ∨ ∃ p : Nat, p < l.length ∧ (rd_T76 l p).f0 = cur ∧ DeepOk l (64 - k) (rd_T76 l p) ∧ ∀ d, DeepOk l d (rd_T76 l p) → DeepOk l (d + k) (rd_T76 l q))
set_option maxRecDepth 100000 in
set_option maxHeartbeats 4000000 in
theorem deep_any (nx : Int) (A : Option Addr) (l : List S76) (c q : Nat) (id : Int) (w : World) (hr : Kd.C k76 w A l.length l) (hs : IdsUp l) (hl : l.length ≤ 4096) (hi : ∀ j : Nat, j < l.length → I64 (rd_T76 l j).f2) (hq : q < l.length) (he : (rd_T76 l q).f0 = id) (hd : DeepOk l 64 (rd_T76 l q)) :
    Calls Try.prog 81 #[.agg #[.int .i64 nx, .slice A l.length c], .int .i64 id] w (DeepPost l q w) := by
  have HR := hidm hr
  have HS := hidm hs
  have HII := hidm hi
  have HB0 : Hid (Below w.heap.size w (w.alloc (.cells #[.int .i64 nx, .slice A l.length c] 27))) := below_alloc (Below.refl _ _) _
  have K0 : Hid ((w.alloc (.cells #[.int .i64 nx, .slice A l.length c] 27)).heap[w.heap.size]? = some (.cells #[.int .i64 nx, .slice A l.length c] 27 (0, 0))) := blk_new _ _
  have HD0 : Hid (DeepI l q 0 id) := ⟨by omega, .inr ⟨q, hq, he, hd, fun d h => h⟩⟩
  clear hr hs hi he hd
  go_enter Try.func81, Try.ntmps81
  go_wp2_with fail
  generalize (w.alloc (.cells #[.int .i64 nx, .slice A l.length c] 27)) = W at HB0 K0 ⊢
  go_loopw [1, 5] (fun i n W => ∃ (k : Nat) (cur : Int), i = .int .i64 cur ∧ n = .int .i64 k ∧ Hid (DeepI l q k cur) ∧ Hid (Below w.heap.size w W) ∧ Hid (W.heap[w.heap.size]? = some (.cells #[.int .i64 nx, .slice A l.length c] 27 (0, 0)))) (fun _ n _ => 64 - (intOf n).toNat)
  case atStart => exact ⟨0, id, rfl, rfl, HD0, HB0, K0⟩
  case round =>
    obtain ⟨k, cur, rfl, rfl, HD, HB, K⟩ := hrel
    rcases HD.out with ⟨hk, ⟨rfl, hdo⟩ | ⟨p, hp, hpe, hdp, him⟩⟩
    · have HP : Hid (DeepPost l q w (.returned (.int .i64 k)) wr) := ⟨k, hk, rfl, hdo, HB.out⟩
      clear hdo
      go_wp2_with fail
      go_ret
      exact HP.out
    · have hcur : (cur != 0) = true := by rw [bne_iff_ne, ← hpe]; have := HS.out.lo p hp; omega
      have hk63 : k < 64 := by
        rcases Nat.lt_or_ge k 64 with h | h
        · exact h
        · rw [show 64 - k = 0 by omega] at hdp; exact hdp.elim
      have HIC : Hid (I64 cur) := by
        have h1 := HS.out.lo p hp
        have h2 := HS.out.hi p hp
        rw [hpe] at h1 h2
        exact ⟨by omega, by omega⟩
      have HPE := hidm hpe
      have HN : Hid (DeepI l q (k + 1) (rd_T76 l p).f2) := by
        obtain ⟨m, hm⟩ : ∃ m, 64 - k = m + 1 := ⟨63 - k, by omega⟩
        rw [hm] at hdp
        refine ⟨by omega, ?_⟩
        rcases hdp with h0 | ⟨p', hp', he', hd'⟩
        · exact .inl ⟨h0, by rw [Nat.add_comm k 1]; exact him 1 (.inl h0)⟩
        · exact .inr ⟨p', hp', he', by rw [show 64 - (k + 1) = m by omega]; exact hd', fun d hd => by rw [show d + (k + 1) = d + 1 + k by omega]; exact him (d + 1) (.inr ⟨p', hp', he', hd⟩)⟩
      have hp0 : (0 : Int) ≤ (p : Int) := by omega
      have hp1 : (p : Int) < (l.length : Int) := by omega
      clear hdp him hpe HD
      go_wp2_with fail
      obtain ⟨ad, B4, d4, B5, d5, B6, d6, hae, _, _, y2', _, _, _, _, _⟩ := node_atN (Kd.C_below HR.out HB.out) p (by omega)
      subst hae
      have y0 : ∀ x : BW wr, x.1.cell? ⟨w.heap.size, 0, none⟩ = some (.int .i64 nx) := bw_cell (blk_cell K.out 0)
      have y1 : ∀ x : BW wr, x.1.cell? ⟨w.heap.size, 1, none⟩ = some (.slice (some ad) l.length c) := bw_cell (blk_cell K.out 1)
      have y2 : ∀ x : BW wr, x.1.cell? ⟨(ad.add (p * 7)).block, (ad.add (p * 7)).off + 2, none⟩ = some (.int .i64 (rd_T76 l p).f2) := bw_cell y2'
      clear y2' hcur
      refine wp_region_bwt 8 (by kernel_rfl) (by kernel_rfl) ?_
      simp only [List.take_succ_cons, List.take_zero, List.drop_succ_cons, List.drop_zero]
      repeat (go_big_quiet_step ((go_at_call 54; exact calls_bw (place_at nx (some ad) l c _ _ (Kd.C_below HR.out (below_step HB.out (Subtype.property _))) HS.out hl HIC.out p hp HPE.out))))
      refine wpQuiet_nil ?_
      rintro _ ⟨x, rfl⟩
      clear y0 y1 y2
      replace K := hidm (blk_below K.out x.2)
      replace HB := hidm (below_step HB.out x.2)
      obtain ⟨w2, hw2⟩ := x
      dsimp only at K HB ⊢
      clear hw2
      go_wp2_with fail
      go_roundw
      case rel => exact ⟨k + 1, _, rfl, by go_num, HN, HB, K⟩
      case measure => simp [intOf]; omega
def GoalPost (ok : Prop) (w : World) (e : Ending) (w' : World) : Prop := ∃ er : Int, e = .returned (.int .i64 er) ∧ Below w.heap.size w w' ∧ (er = 0 → ok)
set_option maxRecDepth 100000 in
set_option maxHeartbeats 1000000 in
theorem goal0_any (m : Value) (cs : Array Value) (hm : m = .agg cs) (par : Int) (hp : par = 0) (role : ByteArray) (w : World) : Calls Try.prog 62 #[m, .int .i64 par, .string role, .int .i64 0, .int .i64 1] w (GoalPost (role.toList = []) w) := by
  subst hm hp
  have HB0 : Hid (Below w.heap.size w (w.alloc (.cells cs 27))) := below_alloc (Below.refl _ _) _
  by_cases h : role.toList = []
  · have hh : (role.toList != []) = false := by simp [h]
    have HP : Hid (GoalPost (role.toList = []) w (.returned (.int .i64 0)) (w.alloc (.cells cs 27))) := ⟨0, rfl, HB0.out, fun _ => h⟩
    go_enter Try.func62, Try.ntmps62
    go_wp2_with fail
    go_ret
    exact HP.out
  · have hh : (role.toList != []) = true := by simpa using h
    have HP : Hid (GoalPost (role.toList = []) w (.returned (.int .i64 22)) (w.alloc (.cells cs 27))) := ⟨22, rfl, HB0.out, fun h => by omega⟩
    go_enter Try.func62, Try.ntmps62
    go_wp2_with fail
    go_ret
    exact HP.out
set_option maxRecDepth 100000 in
set_option maxHeartbeats 4000000 in
theorem goal1_any (nx : Int) (A : Option Addr) (l : List S76) (c q : Nat) (par : Int) (role : ByteArray) (w : World) (hr : Kd.C k76 w A l.length l) (hk : KidsIn l q) (he : (rd_T76 l q).f0 = par) (hi : I64 par) (hw : ∀ j : Nat, j < l.length → I64 (rd_T76 l j).f2) (hd : DeepOk l 64 (rd_T76 l q)) :
    Calls Try.prog 62 #[.agg #[.int .i64 nx, .slice A l.length c], .int .i64 par, .string role, .int .i64 0, .int .i64 1] w (GoalPost (DeepOk l 63 (rd_T76 l q)) w) := by
  have HR := hidm hr
  have HKI := hidm hk
  have HE := hidm he
  have HII := hidm hi
  have HWF := hidm hw
  have HD := hidm hd
  have HB0 : Hid (Below w.heap.size w (w.alloc (.cells #[.int .i64 nx, .slice A l.length c] 27))) := below_alloc (Below.refl _ _) _
  have K0 : Hid ((w.alloc (.cells #[.int .i64 nx, .slice A l.length c] 27)).heap[w.heap.size]? = some (.cells #[.int .i64 nx, .slice A l.length c] 27 (0, 0))) := blk_new _ _
  have hp : (par == 0) = false := by
    rw [beq_eq_false_iff_ne, ← he]
    have := hk.ids.lo q hk.at_; omega
  clear hr hk he hi hw hd
  go_enter Try.func62, Try.ntmps62
  go_wp2_with fail
  generalize (w.alloc (.cells #[.int .i64 nx, .slice A l.length c] 27)) = W at HB0 K0 ⊢
  refine (spot_any nx A l c q par role W (Kd.C_below HR.out HB0.out) HKI.out HE.out HII.out).mono ?_
  rintro e w1 ⟨i, hi, rfl, hb⟩
  replace HB0 := hidm (below_step HB0.out hb)
  replace K0 := hidm (blk_below K0.out hb)
  have y0 : w1.cell? ⟨w.heap.size, 0, none⟩ = some (.int .i64 nx) := blk_cell K0.out 0
  have y1 : w1.cell? ⟨w.heap.size, 1, none⟩ = some (.slice A l.length c) := blk_cell K0.out 1
  clear hb hi
  go_wp2_with fail
  clear y0 y1
  refine (deep_any nx A l c q par w1 (Kd.C_below HR.out HB0.out) HKI.out.ids HKI.out.len HWF.out HKI.out.at_ HE.out HD.out).mono ?_
  rintro e w2 ⟨d, hd, rfl, hdo, hb⟩
  replace HB0 := hidm (below_step HB0.out hb)
  have HDO := hidm hdo
  clear hb hdo
  by_cases h : 64 < d + 1
  · have h' : (64 : Int) < (d : Int) + 1 := by omega
    have HP : Hid (GoalPost (DeepOk l 63 (rd_T76 l q)) w (.returned (.int .i64 23)) w2) := ⟨23, rfl, HB0.out, fun h => by omega⟩
    go_wp2_with fail
    go_ret
    exact HP.out
  · have h' : ¬ (64 : Int) < (d : Int) + 1 := by omega
    have HP : Hid (GoalPost (DeepOk l 63 (rd_T76 l q)) w (.returned (.int .i64 0)) w2) := ⟨0, rfl, HB0.out, fun _ => deep_le (by omega) HDO.out⟩
    go_wp2_with fail
    go_ret
    exact HP.out
end Go.Proofs.Ytlopfkkegjajlaa
