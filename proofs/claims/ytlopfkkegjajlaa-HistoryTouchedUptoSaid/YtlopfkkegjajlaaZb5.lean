/- Texts of this proof and of the kit's print for this seat, gathered by wip/shake.py: only what the proof reaches. -/
import Derived.Test.YtlopfkkegjajlaaZb4
import Derived.Maps.RangeWalk
import Derived.Carry
import Derived.Deep.Cut
namespace Go.Proofs.Ytlopfkkegjajlaa
open Go.RowKit Go.Maps Go.WideShapes Go.Proofs.YtlopfkkegjajlaaW.PrintWords PHistoryTouched
def RV (v : Value) : Option (DataW Value × List MemPlace) := some (.held v, [])
theorem KI : Keyed Try.prog 3 := int_keyed Try.underlying3
theorem keyI {x : Int} (h : I64 x) : keyOf Try.prog 3 (.int .i64 x) = some (.int .i64 x) := keyOf_int_mk Try.underlying3 (by
  have h1 := h.lo
  have h2 := h.hi
  simp [Lit.wf, IntKind.min, IntKind.max, IntKind.signed, IntKind.bits]
  omega)
theorem int_ne {x y : Int} (h : x ≠ y) : (Lit.int .i64 x) ≠ .int .i64 y := fun e => h (by injection e)
theorem int_key (x : Int) : WideAt.IsKeyLit (.int .i64 x) := by simp [WideAt.IsKeyLit]
structure MapIs (w : World) (D : DataW Value) (xs : List S76) : Prop where
  im : IsMap D
  has : ∀ x : Int, Maps.has D (.int .i64 x) = true ↔ ∃ n ∈ xs, n.f0 = x
  at_ : ∀ n ∈ xs, ∃ A4 c4 A5 c5 A6 c6, NodeR w n A4 c4 A5 c5 A6 c6 ∧ ∀ zd, D.atKey (.int .i64 n.f0) zd = .held (nodeV n A4 c4 A5 c5 A6 c6)
theorem MapIs.nil (w : World) : MapIs w (.map []) [] := ⟨isMap_empty, fun x => by simp [Maps.has], fun n h => by simp at h⟩
theorem MapIs.put {w : World} {D : DataW Value} {xs : List S76} (h : MapIs w D xs) {y : S76} (hne : ∀ n ∈ xs, n.f0 ≠ y.f0) {A4 : Option Addr} {c4 : Nat} {A5 : Option Addr} {c5 : Nat} {A6 : Option Addr} {c6 : Nat} (hr : NodeR w y A4 c4 A5 c5 A6 c6) :
    MapIs w (D.put (.int .i64 y.f0) (.held (nodeV y A4 c4 A5 c5 A6 c6))) (xs ++ [y]) := by
  refine ⟨h.im.put _ _, fun x => ?_, fun n hn => ?_⟩
  · by_cases hx : x = y.f0
    · subst hx
      rw [has_put_same h.im (int_key _)]
      simp
    · rw [has_put_other (int_ne hx), h.has x]
      constructor
      · rintro ⟨n, hn, e⟩; exact ⟨n, List.mem_append_left _ hn, e⟩
      · rintro ⟨n, hn, e⟩
        rcases List.mem_append.1 hn with h1 | h1
        · exact ⟨n, h1, e⟩
        · rw [List.mem_singleton.1 h1] at e; exact absurd e.symm hx
  · rcases List.mem_append.1 hn with h1 | h1
    · obtain ⟨B4, d4, B5, d5, B6, d6, g1, g2⟩ := h.at_ n h1
      exact ⟨B4, d4, B5, d5, B6, d6, g1, fun zd => by rw [atKey_put_other (int_ne (hne n h1))]; exact g2 zd⟩
    · rw [List.mem_singleton.1 h1]
      exact ⟨A4, c4, A5, c5, A6, c6, hr, fun zd => atKey_put_same h.im (int_key _) _ _⟩
theorem MapIs.del {w : World} {D : DataW Value} {xs : List S76} (h : MapIs w D xs) (x : Int) : MapIs w (D.del (.int .i64 x)) (xs.filter fun n => decide (n.f0 ≠ x)) := by
  refine ⟨h.im.del _, fun z => ?_, fun n hn => ?_⟩
  · by_cases hz : z = x
    · subst hz
      rw [has_del_same]
      constructor
      · intro h; cases h
      · rintro ⟨n, hn, e⟩
        have := (List.mem_filter.1 hn).2
        simp at this
        exact absurd e this
    · rw [has_del_other (int_ne hz), h.has z]
      constructor
      · rintro ⟨n, hn, e⟩; exact ⟨n, List.mem_filter.2 ⟨hn, by simp; omega⟩, e⟩
      · rintro ⟨n, hn, e⟩; exact ⟨n, (List.mem_filter.1 hn).1, e⟩
  · obtain ⟨h1, h2⟩ := List.mem_filter.1 hn
    have hne : n.f0 ≠ x := by simpa using h2
    obtain ⟨B4, d4, B5, d5, B6, d6, g1, g2⟩ := h.at_ n h1
    exact ⟨B4, d4, B5, d5, B6, d6, g1, fun zd => by rw [atKey_del_other (int_ne hne)]; exact g2 zd⟩
section
variable {ops : Array Oper} {rest : List Oper} {o : Oper} {a : Act} {Q : Exit → Act → World → Prop}
theorem lookup_yes (w : World) (hg : o.guard = none) (m x : Operand) (hop : o.op = Op.lookup 87 m x true) {z : Value} (hz : (zeroValue 76).run Try.prog w = .ok z w) (b n : Nat) (D : DataW Value) (hm : a.eval m = .map (some b)) (hown : w.ownsMap Try.prog 3 RV b n D)
    (key : Int) (hx : a.eval x = .int .i64 key) (hkey : I64 key) (hhas : Maps.has D (.int .i64 key) = true) {V : Value} (hat : ∀ zd, D.atKey (.int .i64 key) zd = .held V) (hK : wpList Try.prog ops Q rest (a.put o.dst (.tuple #[V, .bool true])) w) :
    wpList Try.prog ops Q (o :: rest) a w :=
  wpList_lookup_own_ok w hg m x 87 hop 3 76 KI Try.underlying87 RV hz (.held z) [] rfl b n D hm hown (.int .i64 key) (.int .i64 key) hx (keyI hkey) (fun v ps hv => by
    rw [hat] at hv
    have : v = V := (show v = V ∧ ps = [] by simpa [RV] using hv).1
    rw [this, hhas]; exact hK)
theorem lookup_no (w : World) (hg : o.guard = none) (m x : Operand) (hop : o.op = Op.lookup 87 m x true) {z : Value} (hz : (zeroValue 76).run Try.prog w = .ok z w) (b n : Nat) (D : DataW Value) (hm : a.eval m = .map (some b)) (hown : w.ownsMap Try.prog 3 RV b n D)
    (key : Int) (hx : a.eval x = .int .i64 key) (hkey : I64 key) (hhas : Maps.has D (.int .i64 key) = false) (hK : wpList Try.prog ops Q rest (a.put o.dst (.tuple #[z, .bool false])) w) :
    wpList Try.prog ops Q (o :: rest) a w :=
  wpList_lookup_own_ok w hg m x 87 hop 3 76 KI Try.underlying87 RV hz (.held z) [] rfl b n D hm hown (.int .i64 key) (.int .i64 key) hx (keyI hkey) (fun v ps hv => by
    rw [atKey_of_not_has hhas] at hv
    have : v = z := (show v = z ∧ ps = [] by simpa [RV] using hv).1
    rw [this, hhas]; exact hK)
end
theorem zero76 (w : World) : (zeroValue 76).run Try.prog w = .ok (.agg #[.int .i64 0, .string ⟨#[]⟩, .int .i64 0, .string ⟨#[]⟩, .slice none 0 0, .slice none 0 0, .slice none 0 0]) w := by kernel_rfl
theorem map_apart {w : World} {base : Nat} {ok : Nat → Prop} {v : Value} {xs : List Int} {b n : Nat} {D : DataW Value} (h : (Kd.int .i64).R 3 w base ok v xs) (hm : w.ownsMap Try.prog 3 RV b n D) : some b ≠ v.ownBlock := fun e => by
  obtain ⟨inner, ho⟩ := Kd.R_own h
  obtain ⟨cells, hc⟩ := own_typed ho b e.symm
  obtain ⟨es, clock, hb, _⟩ := hm
  rw [hb] at hc
  cases hc
def Up (l : List S76) : Prop := l.Pairwise fun a b => a.f0 < b.f0
theorem up_of_check {nx : Int} {l : List S76} (h : CheckP nx l) : Up l := by
  have hu := ids_up h.hi h.ids
  refine List.pairwise_iff_getElem.2 fun i j hi hj hij => ?_
  have e : ∀ k (hk : k < l.length), rd_T76 l k = l[k] := fun k hk => by simp [rd_T76, List.getD_eq_getElem?_getD, List.getElem?_eq_getElem hk]
  have := hu.up i j hij hj
  rw [e i hi, e j hj] at this
  exact this
theorem Up.inj {l : List S76} (h : Up l) {a b : S76} (ha : a ∈ l) (hb : b ∈ l) (e : a.f0 = b.f0) : a = b := by
  induction l with
  | nil => simp at ha
  | cons x l ih =>
    obtain ⟨h1, h2⟩ := List.pairwise_cons.1 h
    rcases List.mem_cons.1 ha with ea | ha'
    · rcases List.mem_cons.1 hb with eb | hb'
      · rw [ea, eb]
      · have := h1 b hb'; rw [ea] at e; omega
    · rcases List.mem_cons.1 hb with eb | hb'
      · have := h1 a ha'; rw [eb] at e; omega
      · exact ih h2 ha' hb'
theorem mem_refT {l m : List S76} (hl : Up l) (hm : Up m) (x : Int) : x ∈ refT l m ↔ (∃ a ∈ l, a.f0 = x ∧ a ∉ m) ∨ (∃ b ∈ m, b.f0 = x ∧ b ∉ l) := by
  induction l, m using refT.induct with
  | case1 m => rw [refT_nil]; simp
  | case2 a l => rw [refT_end]; simp [eq_comm]
  | case3 a l b m hab ih =>
    obtain ⟨l1, l2⟩ := List.pairwise_cons.1 hl
    obtain ⟨m1, m2⟩ := List.pairwise_cons.1 hm
    have ha : a ∉ b :: m := fun h => by
      rcases List.mem_cons.1 h with e | h
      · rw [e] at hab; omega
      · have := m1 a h; omega
    rw [refT, if_pos hab, List.mem_cons, ih l2 hm]
    constructor
    · rintro (rfl | ⟨c, hc, e, hn⟩ | ⟨c, hc, e, hn⟩)
      · exact .inl ⟨a, List.mem_cons_self, rfl, ha⟩
      · exact .inl ⟨c, List.mem_cons_of_mem _ hc, e, hn⟩
      · exact .inr ⟨c, hc, e, fun h => by
          rcases List.mem_cons.1 h with e' | h
          · rw [e'] at hc; exact ha hc
          · exact hn h⟩
    · rintro (⟨c, hc, e, hn⟩ | ⟨c, hc, e, hn⟩)
      · rcases List.mem_cons.1 hc with e' | hc
        · rw [e'] at e; exact .inl e.symm
        · exact .inr (.inl ⟨c, hc, e, hn⟩)
      · exact .inr (.inr ⟨c, hc, e, fun h => hn (List.mem_cons_of_mem _ h)⟩)
  | case4 a l b m hab hba ih =>
    obtain ⟨l1, l2⟩ := List.pairwise_cons.1 hl
    obtain ⟨m1, m2⟩ := List.pairwise_cons.1 hm
    have hb : b ∉ a :: l := fun h => by
      rcases List.mem_cons.1 h with e | h
      · rw [e] at hba; omega
      · have := l1 b h; omega
    rw [refT, if_neg hab, if_pos hba, List.mem_cons, ih hl m2]
    constructor
    · rintro (rfl | ⟨c, hc, e, hn⟩ | ⟨c, hc, e, hn⟩)
      · exact .inr ⟨b, List.mem_cons_self, rfl, hb⟩
      · exact .inl ⟨c, hc, e, fun h => by
          rcases List.mem_cons.1 h with e' | h
          · rw [e'] at hc; exact hb hc
          · exact hn h⟩
      · exact .inr ⟨c, List.mem_cons_of_mem _ hc, e, hn⟩
    · rintro (⟨c, hc, e, hn⟩ | ⟨c, hc, e, hn⟩)
      · exact .inr (.inl ⟨c, hc, e, fun h => hn (List.mem_cons_of_mem _ h)⟩)
      · rcases List.mem_cons.1 hc with e' | hc
        · rw [e'] at e; exact .inl e.symm
        · exact .inr (.inr ⟨c, hc, e, hn⟩)
  | case5 a l b m hab hba ih =>
    obtain ⟨l1, l2⟩ := List.pairwise_cons.1 hl
    obtain ⟨m1, m2⟩ := List.pairwise_cons.1 hm
    have hid : a.f0 = b.f0 := by omega
    have hal : a ∉ m := fun h => by have := m1 a h; omega
    have hbl : b ∉ l := fun h => by have := l1 b h; omega
    rw [refT, if_neg hab, if_neg hba, List.mem_append, ih l2 m2]
    by_cases hs : a = b
    · rw [tv_yes hs, if_pos rfl]
      subst hs
      constructor
      · rintro (h | ⟨c, hc, e, hn⟩ | ⟨c, hc, e, hn⟩)
        · simp at h
        · exact .inl ⟨c, List.mem_cons_of_mem _ hc, e, fun h => by
            rcases List.mem_cons.1 h with e' | h
            · rw [e'] at hc; exact hbl hc
            · exact hn h⟩
        · exact .inr ⟨c, List.mem_cons_of_mem _ hc, e, fun h => by
            rcases List.mem_cons.1 h with e' | h
            · rw [e'] at hc; exact hal hc
            · exact hn h⟩
      · rintro (⟨c, hc, e, hn⟩ | ⟨c, hc, e, hn⟩)
        · rcases List.mem_cons.1 hc with e' | hc
          · exact absurd (by rw [e']; exact List.mem_cons_self) hn
          · exact .inr (.inl ⟨c, hc, e, fun h => hn (List.mem_cons_of_mem _ h)⟩)
        · rcases List.mem_cons.1 hc with e' | hc
          · exact absurd (by rw [e']; exact List.mem_cons_self) hn
          · exact .inr (.inr ⟨c, hc, e, fun h => hn (List.mem_cons_of_mem _ h)⟩)
    · rw [tv_no hs]
      have ha : a ∉ b :: m := fun h => by
        rcases List.mem_cons.1 h with e | h
        · exact hs e
        · exact hal h
      constructor
      · rintro (h | ⟨c, hc, e, hn⟩ | ⟨c, hc, e, hn⟩)
        · have h' : x = a.f0 := by simpa using h
          exact .inl ⟨a, List.mem_cons_self, h'.symm, ha⟩
        · exact .inl ⟨c, List.mem_cons_of_mem _ hc, e, fun h => by
            rcases List.mem_cons.1 h with e' | h
            · rw [e'] at hc; exact hbl hc
            · exact hn h⟩
        · exact .inr ⟨c, List.mem_cons_of_mem _ hc, e, fun h => by
            rcases List.mem_cons.1 h with e' | h
            · rw [e'] at hc; exact hal hc
            · exact hn h⟩
      · rintro (⟨c, hc, e, hn⟩ | ⟨c, hc, e, hn⟩)
        · rcases List.mem_cons.1 hc with e' | hc
          · rw [e'] at e; exact .inl (by simp [e])
          · exact .inr (.inl ⟨c, hc, e, fun h => hn (List.mem_cons_of_mem _ h)⟩)
        · rcases List.mem_cons.1 hc with e' | hc
          · rw [e', ← hid] at e; exact .inl (by simp [e])
          · exact .inr (.inr ⟨c, hc, e, fun h => hn (List.mem_cons_of_mem _ h)⟩)
theorem refT_up {l m : List S76} (hl : Up l) (hm : Up m) : (refT l m).Pairwise (· < ·) ∧ (∀ x ∈ refT l m, ∃ n, (n ∈ l ∨ n ∈ m) ∧ n.f0 = x) := by
  have hx : ∀ l m : List S76, Up l → Up m → ∀ x ∈ refT l m, ∃ n, (n ∈ l ∨ n ∈ m) ∧ n.f0 = x := fun l m hl hm x h => by
    rcases (mem_refT hl hm x).1 h with ⟨a, ha, e, _⟩ | ⟨a, ha, e, _⟩
    · exact ⟨a, .inl ha, e⟩
    · exact ⟨a, .inr ha, e⟩
  refine ⟨?_, hx l m hl hm⟩
  induction l, m using refT.induct with
  | case1 m => rw [refT_nil]; exact List.pairwise_map.2 hm
  | case2 a l => rw [refT_end]; exact List.pairwise_map.2 hl
  | case3 a l b m hab ih =>
    obtain ⟨l1, l2⟩ := List.pairwise_cons.1 hl
    obtain ⟨m1, m2⟩ := List.pairwise_cons.1 hm
    rw [refT, if_pos hab]
    refine List.pairwise_cons.2 ⟨fun x h => ?_, ih l2 hm⟩
    obtain ⟨n, h1 | h1, rfl⟩ := hx _ _ l2 hm x h
    · exact l1 n h1
    · rcases List.mem_cons.1 h1 with rfl | h1
      · exact hab
      · have := m1 n h1; omega
  | case4 a l b m hab hba ih =>
    obtain ⟨l1, l2⟩ := List.pairwise_cons.1 hl
    obtain ⟨m1, m2⟩ := List.pairwise_cons.1 hm
    rw [refT, if_neg hab, if_pos hba]
    refine List.pairwise_cons.2 ⟨fun x h => ?_, ih hl m2⟩
    obtain ⟨n, h1 | h1, rfl⟩ := hx _ _ hl m2 x h
    · rcases List.mem_cons.1 h1 with rfl | h1
      · exact hba
      · have := l1 n h1; omega
    · exact m1 n h1
  | case5 a l b m hab hba ih =>
    obtain ⟨l1, l2⟩ := List.pairwise_cons.1 hl
    obtain ⟨m1, m2⟩ := List.pairwise_cons.1 hm
    rw [refT, if_neg hab, if_neg hba]
    refine List.pairwise_append.2 ⟨?_, ih l2 m2, fun x h y h' => ?_⟩
    · split
      · exact List.Pairwise.nil
      · exact List.pairwise_singleton _ _
    · have hxe : x = a.f0 := by
        split at h
        · simp at h
        · simpa using h
      obtain ⟨n, h1 | h1, rfl⟩ := hx _ _ l2 m2 y h'
      · have := l1 n h1; omega
      · have := m1 n h1; omega
theorem sort_of_perm {l l' : List Int} (h : l.Perm l') : l.mergeSort leI = l'.mergeSort leI := by
  have tr : ∀ a b c : Int, leI a b = true → leI b c = true → leI a c = true := fun a b c h1 h2 => by simp only [leI, decide_eq_true_eq] at *; omega
  have tot : ∀ a b : Int, (leI a b || leI b a) = true := fun a b => by simp only [leI, Bool.or_eq_true, decide_eq_true_eq]; omega
  refine List.Perm.eq_of_pairwise (le := fun a b => leI a b = true) (fun a b _ _ h1 h2 => ?_) (List.pairwise_mergeSort tr tot l) (List.pairwise_mergeSort tr tot l') (((List.mergeSort_perm l leI).trans h).trans (List.mergeSort_perm l' leI).symm)
  simp only [leI, decide_eq_true_eq] at h1 h2
  omega
theorem sort_up {l : List Int} (h : l.Pairwise (· < ·)) : l.mergeSort leI = l := by
  have tr : ∀ a b c : Int, leI a b = true → leI b c = true → leI a c = true := fun a b c h1 h2 => by simp only [leI, decide_eq_true_eq] at *; omega
  have tot : ∀ a b : Int, (leI a b || leI b a) = true := fun a b => by simp only [leI, Bool.or_eq_true, decide_eq_true_eq]; omega
  refine List.Perm.eq_of_pairwise (le := fun a b => leI a b = true) (fun a b _ _ h1 h2 => ?_) (List.pairwise_mergeSort tr tot l) (h.imp fun {a b} hab => by simp only [leI, decide_eq_true_eq]; omega) (List.mergeSort_perm l leI)
  simp only [leI, decide_eq_true_eq] at h1 h2
  omega
noncomputable def outB (l m : List S76) : List Int := (m.filter fun y => !tv (y ∈ l)).map (·.f0)
theorem outB_snoc (l m : List S76) (y : S76) : outB l (m ++ [y]) = outB l m ++ (if tv (y ∈ l) then [] else [y.f0]) := by
  unfold outB
  rw [List.filter_append, List.map_append]
  congr 1
  cases h : tv (y ∈ l) <;> simp [h]
theorem touched_law {l m : List S76} (hl : Up l) (hm : Up m) {got : List Int} (hn : got.Nodup) (hg : ∀ x, x ∈ got ↔ ∃ a ∈ l, a.f0 = x ∧ ∀ b ∈ m, b.f0 ≠ x) : (outB l m ++ got).mergeSort leI = refT l m := by
  have hmem : ∀ x, x ∈ outB l m ↔ ∃ b ∈ m, b.f0 = x ∧ b ∉ l := fun x => by
    unfold outB
    rw [List.mem_map]
    constructor
    · rintro ⟨b, hb, rfl⟩
      obtain ⟨h1, h2⟩ := List.mem_filter.1 hb
      exact ⟨b, h1, rfl, by simpa [tv_niff] using h2⟩
    · rintro ⟨b, hb, rfl, h2⟩
      exact ⟨b, List.mem_filter.2 ⟨hb, by simp [tv_no h2]⟩, rfl⟩
  have hnd : (outB l m ++ got).Nodup := by
    refine List.nodup_append.2 ⟨?_, hn, fun x h1 y h2 e => ?_⟩
    · unfold outB
      refine List.pairwise_map.2 (List.Pairwise.imp ?_ (List.Pairwise.filter _ hm))
      intro a b hab e
      omega
    · obtain ⟨b, hb, e1, _⟩ := (hmem x).1 h1
      obtain ⟨a, _, _, h3⟩ := (hg y).1 h2
      exact h3 b hb (e1.trans e)
  have hup := (refT_up hl hm).1
  have hp : (outB l m ++ got).Perm (refT l m) := by
    refine (List.perm_ext_iff_of_nodup hnd (hup.imp fun {a b} h e => by omega)).2 fun x => ?_
    rw [List.mem_append, hmem x, hg x, mem_refT hl hm x]
    constructor
    · rintro (h | ⟨a, ha, e, hb⟩)
      · exact .inr h
      · exact .inl ⟨a, ha, e, fun h => hb a h e⟩
    · rintro (⟨a, ha, e, hn⟩ | h)
      · by_cases hb : ∃ b ∈ m, b.f0 = x
        · obtain ⟨b, hb, eb⟩ := hb
          refine .inl ⟨b, hb, eb, fun h => ?_⟩
          have := hl.inj h ha (eb.trans e.symm)
          rw [this] at hb
          exact hn hb
        · exact .inr ⟨a, ha, e, fun b hb' e' => hb ⟨b, hb', e'⟩⟩
      · exact .inl h
  rw [sort_of_perm hp, sort_up hup]
end Go.Proofs.Ytlopfkkegjajlaa
namespace Go.Proofs.Ytlopfkkegjajlaa
open Go.RowKit Go.Maps Go.Proofs.YtlopfkkegjajlaaW.PrintWords PHistoryTouched
theorem Boxed2.map {w : World} {o1 o2 : Obj} {W W' : World} {b : Nat} (h : Boxed2 w o1 o2 W) (hg : W.grownBy W' (some b)) (hb : w.heap.size + 2 ≤ b) : Boxed2 w o1 o2 W' :=
  h.grown hg (Below.grown h.b hg h.b.size (fun k e => by injection e with e; omega)) (fun e => by injection e with e; omega) (fun e => by injection e with e; omega)
theorem int_R_kept {w w' : World} {base : Nat} {ok : Nat → Prop} {v : Value} {xs : List Int} (h : (Kd.int .i64).R 3 w base ok v xs) (hk : ∀ k, v.ownBlock = some k → w'.heap[k]? = w.heap[k]?) : (Kd.int .i64).R 3 w' base (fun _ => True) v xs :=
  ints_R (own_move (inner_ints h) hk)
theorem own_lt_R {w : World} {base : Nat} {ok : Nat → Prop} {v : Value} {xs : List Int} (h : (Kd.int .i64).R 3 w base ok v xs) : ∀ k, v.ownBlock = some k → k < w.heap.size := fun k hk => own_lt (inner_ints h) k hk
theorem int_R_map {w w' : World} {base : Nat} {ok : Nat → Prop} {v : Value} {xs : List Int} {b n : Nat} {D : DataW Value} (h : (Kd.int .i64).R 3 w base ok v xs) (hm : w.ownsMap Try.prog 3 RV b n D) (hg : w.grownBy w' (some b)) : (Kd.int .i64).R 3 w' base (fun _ => True) v xs :=
  int_R_kept h (fun k hk => hg.block k (own_lt_R h k hk) (fun e => map_apart h hm (e.symm.trans hk.symm)))
theorem iter_apart {w : World} {base : Nat} {ok : Nat → Prop} {v : Value} {xs : List Int} {b r n : Nat} {D : DataW Value} {left : Lit → Bool} {cnt : Nat} (h : (Kd.int .i64).R 3 w base ok v xs) (hm : w.ranges Try.prog 3 RV b r n D left cnt) : some r ≠ v.ownBlock := fun e => by
  obtain ⟨cells, hc⟩ := own_typed (inner_ints h) r e.symm
  obtain ⟨es, clock, since, seen, c0, _, _, _, _, hr, _⟩ := hm
  rw [hr] at hc
  cases hc
theorem MapIs.congr {w : World} {D : DataW Value} {xs ys : List S76} (h : MapIs w D xs) (he : ∀ n, n ∈ xs ↔ n ∈ ys) : MapIs w D ys :=
  ⟨h.im, fun x => (h.has x).trans ⟨fun ⟨n, h1, h2⟩ => ⟨n, (he n).1 h1, h2⟩, fun ⟨n, h1, h2⟩ => ⟨n, (he n).2 h1, h2⟩⟩, fun n hn => h.at_ n ((he n).2 hn)⟩
theorem histNode_any (a b : S76) (hid : a.f0 = b.f0) (A4 A5 A6 B4 B5 B6 : Option Addr) (c4 c5 c6 d4 d5 d6 : Nat) (w : World) (ha : NodeR w a A4 c4 A5 c5 A6 c6) (hb : NodeR w b B4 d4 B5 d5 B6 d6) :
    Calls Try.prog 43 #[nodeV a A4 c4 A5 c5 A6 c6, nodeV b B4 d4 B5 d5 B6 d6] w fun e w' => e = .returned (.bool (tv (a = b))) ∧ Below w.heap.size w w' := by
  obtain ⟨k, h⟩ := (histSame_ev a b ha.len hid).rounds
  exact history_same.calls k a.f0 a.f1 a.f2 a.f3 A4 c4 a.f4 A5 c5 a.f5 A6 c6 a.f6 b.f0 b.f1 b.f2 b.f3 B4 d4 b.f4 B5 d5 b.f5 B6 d6 b.f6 _ w ha.r4 ha.l4 ha.r5 ha.l5 ha.r6 ha.l6 hb.r4 hb.l4 hb.r5 hb.l5 hb.r6 hb.l6 h
theorem size2 (w : World) (o p : Obj) : Hid (w.heap.size < ((w.alloc o).alloc p).heap.size ∧ w.heap.size + 1 < ((w.alloc o).alloc p).heap.size) := by
  have e1 : (w.alloc o).heap.size = w.heap.size + 1 := by simp
  have e2 : ((w.alloc o).alloc p).heap.size = (w.alloc o).heap.size + 1 := by simp
  unfold Hid
  omega
theorem blk_new2 (w : World) (o : Obj) (p : Obj) : ((w.alloc o).alloc p).heap[w.heap.size + 1]? = some p := by
  have := blk_new (w.alloc o) p
  have e : (w.alloc o).heap.size = w.heap.size + 1 := by simp
  rw [e] at this
  exact this
theorem take_rd {l : List S76} {j : Nat} (h : j < l.length) : l.take (j + 1) = l.take j ++ [rd_T76 l j] := by
  rw [List.take_succ_eq_append_getElem h]
  simp [rd_T76, List.getD_eq_getElem?_getD, List.getElem?_eq_getElem h]
theorem up_take {l : List S76} (h : Up l) {j : Nat} (hj : j < l.length) : ∀ n ∈ l.take j, n.f0 ≠ (rd_T76 l j).f0 := fun n hn e => by
  have h1 := List.Pairwise.sublist (List.take_sublist (j + 1) l) h
  rw [take_rd hj] at h1
  have := (List.pairwise_append.1 h1).2.2 n hn _ (List.mem_singleton.2 rfl)
  omega
theorem id_I64 {nx : Int} {l : List S76} (h : CheckP nx l) {j : Nat} (hj : j < l.length) : I64 (rd_T76 l j).f0 := by
  have hu := ids_up h.hi h.ids
  have h1 := hu.lo j hj
  have h2 := hu.hi j hj
  exact ⟨by omega, by omega⟩
noncomputable def restL (l m : List S76) (k : Nat) : List S76 := l.filter fun n => tv (∀ y ∈ m.take k, y.f0 ≠ n.f0)
theorem mem_rest {l m : List S76} {k : Nat} {n : S76} : n ∈ restL l m k ↔ n ∈ l ∧ ∀ y ∈ m.take k, y.f0 ≠ n.f0 := by
  unfold restL
  rw [List.mem_filter]
  simp [tv_iff]
theorem MapIs.start {w : World} {D : DataW Value} {l m : List S76} (h : MapIs w D (l.take l.length)) : MapIs w D (restL l m 0) :=
  h.congr fun n => by rw [mem_rest]; simp
theorem MapIs.gone {w : World} {D : DataW Value} {l m : List S76} {k : Nat} (hk : k < m.length) (h : MapIs w D (restL l m k)) : MapIs w (D.del (.int .i64 (rd_T76 m k).f0)) (restL l m (k + 1)) :=
  (h.del _).congr fun n => by
    rw [List.mem_filter, mem_rest, mem_rest, take_rd hk]
    constructor
    · rintro ⟨⟨h1, h2⟩, h3⟩
      have h3' : n.f0 ≠ (rd_T76 m k).f0 := by simpa using h3
      exact ⟨h1, fun y hy => by
        rcases List.mem_append.1 hy with hy | hy
        · exact h2 y hy
        · rw [List.mem_singleton.1 hy]; exact fun e => h3' e.symm⟩
    · rintro ⟨h1, h2⟩
      exact ⟨⟨h1, fun y hy => h2 y (List.mem_append_left _ hy)⟩, by
        have := h2 (rd_T76 m k) (by simp)
        simp; exact fun e => this e.symm⟩
theorem outB_take {l m : List S76} {k : Nat} (hk : k < m.length) : outB l (m.take (k + 1)) = outB l (m.take k) ++ (if tv (rd_T76 m k ∈ l) then [] else [(rd_T76 m k).f0]) := by
  rw [take_rd hk, outB_snoc]
def GotI (D : DataW Value) (left : Lit → Bool) (got : List Int) : Prop :=
  got.Nodup ∧ (∀ x, x ∈ got ↔ (Maps.has D (.int .i64 x) = true ∧ left (.int .i64 x) = false)) ∧ ∀ x, left (.int .i64 x) = true → Maps.has D (.int .i64 x) = true
theorem GotI.start (D : DataW Value) : GotI D (Maps.has D) [] := ⟨List.nodup_nil, fun x => by cases Maps.has D (.int .i64 x) <;> simp, fun _ h => h⟩
theorem GotI.step {D : DataW Value} {left : Lit → Bool} {got : List Int} (h : GotI D left got) {x : Int} (hl : left (.int .i64 x) = true) : GotI D (fun z => left z && !z.sameKey (.int .i64 x)) (got ++ [x]) := by
  obtain ⟨h1, h2, h3⟩ := h
  have hx : x ∉ got := fun hx => by have := (h2 x).1 hx; rw [hl] at this; cases this.2
  refine ⟨List.nodup_append.2 ⟨h1, List.nodup_cons.2 ⟨by simp, List.nodup_nil⟩, fun a ha b hb e => by rw [List.mem_singleton.1 hb] at e; rw [e] at ha; exact hx ha⟩, fun z => ?_, fun z hz => ?_⟩
  · rw [List.mem_append, h2 z]
    by_cases hz : z = x
    · subst hz
      have : (Lit.int .i64 z).sameKey (.int .i64 z) = true := by simp [Lit.sameKey]
      simp [this, h3 z hl]
    · have : (Lit.int .i64 z).sameKey (.int .i64 x) = false := by simp [Lit.sameKey]; exact hz
      simp [this, hz]
  · simp only [Bool.and_eq_true] at hz
    exact h3 z hz.1
theorem GotI.done {w : World} {D : DataW Value} {left : Lit → Bool} {got : List Int} {l m : List S76} (h : GotI D left got) (hl : ∀ kl, left kl = false) (hm : MapIs w D (restL l m m.length)) : got.Nodup ∧ ∀ x, x ∈ got ↔ ∃ a ∈ l, a.f0 = x ∧ ∀ b ∈ m, b.f0 ≠ x := by
  refine ⟨h.1, fun x => ?_⟩
  rw [h.2.1 x, hl, hm.has x]
  constructor
  · rintro ⟨⟨n, hn, rfl⟩, _⟩
    have := mem_rest.1 hn
    rw [List.take_length] at this
    exact ⟨n, this.1, rfl, this.2⟩
  · rintro ⟨n, hn, rfl, h2⟩
    exact ⟨⟨n, mem_rest.2 ⟨hn, by rw [List.take_length]; exact h2⟩, rfl⟩, rfl⟩
set_option maxRecDepth 100000 in
set_option maxHeartbeats 8000000 in
theorem touched_no1 (na nb : Int) (A B : Option Addr) (l m : List S76) (c d : Nat) (w : World) (hra : Kd.C k76 w A l.length l) (hwa : WfL l) (hrb : Kd.C k76 w B m.length m) (hwb : WfL m) (hk : ¬ CheckP na l) :
    Calls Try.prog 25 #[.agg #[.int .i64 na, .slice A l.length c], .agg #[.int .i64 nb, .slice B m.length d]] w (TouchPost 29 [] w) := by
  have HRA : Hid (Kd.C k76 w A l.length l) := hra
  have HRB : Hid (Kd.C k76 w B m.length m) := hrb
  have HWA : Hid (WfL l) := hwa
  have HWB : Hid (WfL m) := hwb
  have HBX : Hid (Boxed2 w (.cells #[.int .i64 na, .slice A l.length c] 27) (.cells #[.int .i64 nb, .slice B m.length d] 27) (((w.alloc (.cells #[.int .i64 na, .slice A l.length c] 27)).alloc (.cells #[.int .i64 nb, .slice B m.length d] 27)).alloc (.cells #[.int .i64 na, .slice A l.length c, .int .i64 nb, .slice B m.length d] 27))) := (boxed2 w (.cells #[.int .i64 na, .slice A l.length c] 27) (.cells #[.int .i64 nb, .slice B m.length d] 27)).below (below_alloc (Below.refl _ _) _)
  have K3 : Hid ((((w.alloc (.cells #[.int .i64 na, .slice A l.length c] 27)).alloc (.cells #[.int .i64 nb, .slice B m.length d] 27)).alloc (.cells #[.int .i64 na, .slice A l.length c, .int .i64 nb, .slice B m.length d] 27)).heap[w.heap.size + 2]? = some (.cells #[.int .i64 na, .slice A l.length c, .int .i64 nb, .slice B m.length d] 27 (0, 0))) := by
    have := blk_new ((w.alloc (.cells #[.int .i64 na, .slice A l.length c] 27)).alloc (.cells #[.int .i64 nb, .slice B m.length d] 27)) (.cells #[.int .i64 na, .slice A l.length c, .int .i64 nb, .slice B m.length d] 27)
    have e : ((w.alloc (.cells #[.int .i64 na, .slice A l.length c] 27)).alloc (.cells #[.int .i64 nb, .slice B m.length d] 27)).heap.size = w.heap.size + 2 := by simp
    rw [e] at this
    exact this
  clear hra hrb hwa hwb
  go_enter Try.func25, Try.ntmps25
  go_wp2_with fail
  generalize (((w.alloc (.cells #[.int .i64 na, .slice A l.length c] 27)).alloc (.cells #[.int .i64 nb, .slice B m.length d] 27)).alloc (.cells #[.int .i64 na, .slice A l.length c, .int .i64 nb, .slice B m.length d] 27)) = W at HBX K3 ⊢
  have q0 : W.cell? ⟨w.heap.size + 2, 0, none⟩ = some (.int .i64 na) := blk_cell K3.out 0
  have q1 : W.cell? ⟨w.heap.size + 2, 1, none⟩ = some (.slice A l.length c) := blk_cell K3.out 1
  have HBX4 : Hid (Boxed2 w (.cells #[.int .i64 na, .slice A l.length c] 27) (.cells #[.int .i64 nb, .slice B m.length d] 27) (W.alloc (.cells #[.int .i64 na, .slice A l.length c] 27))) := HBX.out.below (below_alloc (Below.refl _ _) _)
  have K4 := hidm (blk_alloc K3.out (.cells #[.int .i64 na, .slice A l.length c] 27))
  refine wp_loop_rounds 3 ?_
  rw [rounds_succ]
  go_wp2_with fail
  generalize (W.alloc (.cells #[.int .i64 na, .slice A l.length c] 27)) = w4 at HBX4 K4 ⊢
  clear HBX K3 q0 q1
  refine (check_any na l A c w4 (Kd.C_below HRA.out HBX4.out.b) HWA.out).mono ?_
  rintro e w5 ⟨rfl, hb⟩
  rw [errI_no hk]
  replace HBX4 := hidm (HBX4.out.below hb)
  replace K4 := hidm (blk_below K4.out hb)
  clear hb
  have HO : Hid (TouchPost 29 [] w (.returned (.tuple #[.slice none 0 0, .int .i64 29])) w5) := ⟨_, rfl, Kd.R_nil _ _ _ _ _, HBX4.out.b⟩
  go_wp2_with fail
  simp [bodyPost, results, Try.results25, go_sem]
  exact HO.out
set_option maxRecDepth 100000 in
set_option maxHeartbeats 8000000 in
theorem touched_no2 (na nb : Int) (A B : Option Addr) (l m : List S76) (c d : Nat) (w : World) (hra : Kd.C k76 w A l.length l) (hwa : WfL l) (hrb : Kd.C k76 w B m.length m) (hwb : WfL m) (hk1 : CheckP na l) (hk : ¬ CheckP nb m) :
    Calls Try.prog 25 #[.agg #[.int .i64 na, .slice A l.length c], .agg #[.int .i64 nb, .slice B m.length d]] w (TouchPost 29 [] w) := by
  have HRA : Hid (Kd.C k76 w A l.length l) := hra
  have HRB : Hid (Kd.C k76 w B m.length m) := hrb
  have HWA : Hid (WfL l) := hwa
  have HWB : Hid (WfL m) := hwb
  have HBX : Hid (Boxed2 w (.cells #[.int .i64 na, .slice A l.length c] 27) (.cells #[.int .i64 nb, .slice B m.length d] 27) (((w.alloc (.cells #[.int .i64 na, .slice A l.length c] 27)).alloc (.cells #[.int .i64 nb, .slice B m.length d] 27)).alloc (.cells #[.int .i64 na, .slice A l.length c, .int .i64 nb, .slice B m.length d] 27))) := (boxed2 w (.cells #[.int .i64 na, .slice A l.length c] 27) (.cells #[.int .i64 nb, .slice B m.length d] 27)).below (below_alloc (Below.refl _ _) _)
  have K3 : Hid ((((w.alloc (.cells #[.int .i64 na, .slice A l.length c] 27)).alloc (.cells #[.int .i64 nb, .slice B m.length d] 27)).alloc (.cells #[.int .i64 na, .slice A l.length c, .int .i64 nb, .slice B m.length d] 27)).heap[w.heap.size + 2]? = some (.cells #[.int .i64 na, .slice A l.length c, .int .i64 nb, .slice B m.length d] 27 (0, 0))) := by
    have := blk_new ((w.alloc (.cells #[.int .i64 na, .slice A l.length c] 27)).alloc (.cells #[.int .i64 nb, .slice B m.length d] 27)) (.cells #[.int .i64 na, .slice A l.length c, .int .i64 nb, .slice B m.length d] 27)
    have e : ((w.alloc (.cells #[.int .i64 na, .slice A l.length c] 27)).alloc (.cells #[.int .i64 nb, .slice B m.length d] 27)).heap.size = w.heap.size + 2 := by simp
    rw [e] at this
    exact this
  clear hra hrb hwa hwb
  go_enter Try.func25, Try.ntmps25
  go_wp2_with fail
  generalize (((w.alloc (.cells #[.int .i64 na, .slice A l.length c] 27)).alloc (.cells #[.int .i64 nb, .slice B m.length d] 27)).alloc (.cells #[.int .i64 na, .slice A l.length c, .int .i64 nb, .slice B m.length d] 27)) = W at HBX K3 ⊢
  have q0 : W.cell? ⟨w.heap.size + 2, 0, none⟩ = some (.int .i64 na) := blk_cell K3.out 0
  have q1 : W.cell? ⟨w.heap.size + 2, 1, none⟩ = some (.slice A l.length c) := blk_cell K3.out 1
  have HBX4 : Hid (Boxed2 w (.cells #[.int .i64 na, .slice A l.length c] 27) (.cells #[.int .i64 nb, .slice B m.length d] 27) (W.alloc (.cells #[.int .i64 na, .slice A l.length c] 27))) := HBX.out.below (below_alloc (Below.refl _ _) _)
  have K4 := hidm (blk_alloc K3.out (.cells #[.int .i64 na, .slice A l.length c] 27))
  refine wp_loop_rounds 3 ?_
  rw [rounds_succ]
  go_wp2_with fail
  generalize (W.alloc (.cells #[.int .i64 na, .slice A l.length c] 27)) = w4 at HBX4 K4 ⊢
  clear HBX K3 q0 q1
  refine (check_any na l A c w4 (Kd.C_below HRA.out HBX4.out.b) HWA.out).mono ?_
  rintro e w5 ⟨rfl, hb⟩
  rw [errI_yes hk1]
  replace HBX4 := hidm (HBX4.out.below hb)
  replace K4 := hidm (blk_below K4.out hb)
  clear hb
  have q0 : w5.cell? ⟨w.heap.size + 2, 2, none⟩ = some (.int .i64 nb) := blk_cell K4.out 2
  have q1 : w5.cell? ⟨w.heap.size + 2, 3, none⟩ = some (.slice B m.length d) := blk_cell K4.out 3
  have HBX5 : Hid (Boxed2 w (.cells #[.int .i64 na, .slice A l.length c] 27) (.cells #[.int .i64 nb, .slice B m.length d] 27) (w5.alloc (.cells #[.int .i64 nb, .slice B m.length d] 27))) := HBX4.out.below (below_alloc (Below.refl _ _) _)
  have K5 := hidm (blk_alloc K4.out (.cells #[.int .i64 nb, .slice B m.length d] 27))
  go_wp2_with fail
  rw [rounds_succ]
  go_wp2_with fail
  generalize (w5.alloc (.cells #[.int .i64 nb, .slice B m.length d] 27)) = w6 at HBX5 K5 ⊢
  clear HBX4 K4 q0 q1
  have HBX4 := HBX5
  have K4 := K5
  clear HBX5 K5
  refine (check_any nb m B d w6 (Kd.C_below HRB.out HBX4.out.b) HWB.out).mono ?_
  rintro e w7 ⟨rfl, hb⟩
  rw [errI_no hk]
  replace HBX4 := hidm (HBX4.out.below hb)
  replace K4 := hidm (blk_below K4.out hb)
  clear hb
  have HO : Hid (TouchPost 29 [] w (.returned (.tuple #[.slice none 0 0, .int .i64 29])) w7) := ⟨_, rfl, Kd.R_nil _ _ _ _ _, HBX4.out.b⟩
  go_wp2_with fail
  simp [bodyPost, results, Try.results25, go_sem]
  exact HO.out
set_option maxRecDepth 100000 in
set_option maxHeartbeats 8000000 in
theorem touched_yes (na nb : Int) (A B : Option Addr) (l m : List S76) (c d : Nat) (w : World) (hra : Kd.C k76 w A l.length l) (hwa : WfL l) (hrb : Kd.C k76 w B m.length m) (hwb : WfL m) (hk1 : CheckP na l) (hk2 : CheckP nb m) (hl : l.length ≤ 1048576) (hm : m.length ≤ 1048576) :
    Calls Try.prog 25 #[.agg #[.int .i64 na, .slice A l.length c], .agg #[.int .i64 nb, .slice B m.length d]] w (TouchPost 0 (refT l m) w) := by
  have HK1 := hidm hk1
  have HK2 := hidm hk2
  have HLL := hidm hl
  have HML := hidm hm
  have HUL := hidm (up_of_check hk1)
  have HUM := hidm (up_of_check hk2)
  have HRA : Hid (Kd.C k76 w A l.length l) := hra
  have HRB : Hid (Kd.C k76 w B m.length m) := hrb
  have HWA : Hid (WfL l) := hwa
  have HWB : Hid (WfL m) := hwb
  have HBX : Hid (Boxed2 w (.cells #[.int .i64 na, .slice A l.length c] 27) (.cells #[.int .i64 nb, .slice B m.length d] 27) (((w.alloc (.cells #[.int .i64 na, .slice A l.length c] 27)).alloc (.cells #[.int .i64 nb, .slice B m.length d] 27)).alloc (.cells #[.int .i64 na, .slice A l.length c, .int .i64 nb, .slice B m.length d] 27))) := (boxed2 w (.cells #[.int .i64 na, .slice A l.length c] 27) (.cells #[.int .i64 nb, .slice B m.length d] 27)).below (below_alloc (Below.refl _ _) _)
  have K3 : Hid ((((w.alloc (.cells #[.int .i64 na, .slice A l.length c] 27)).alloc (.cells #[.int .i64 nb, .slice B m.length d] 27)).alloc (.cells #[.int .i64 na, .slice A l.length c, .int .i64 nb, .slice B m.length d] 27)).heap[w.heap.size + 2]? = some (.cells #[.int .i64 na, .slice A l.length c, .int .i64 nb, .slice B m.length d] 27 (0, 0))) := by
    have := blk_new ((w.alloc (.cells #[.int .i64 na, .slice A l.length c] 27)).alloc (.cells #[.int .i64 nb, .slice B m.length d] 27)) (.cells #[.int .i64 na, .slice A l.length c, .int .i64 nb, .slice B m.length d] 27)
    have e : ((w.alloc (.cells #[.int .i64 na, .slice A l.length c] 27)).alloc (.cells #[.int .i64 nb, .slice B m.length d] 27)).heap.size = w.heap.size + 2 := by simp
    rw [e] at this
    exact this
  clear hra hrb hwa hwb
  go_enter Try.func25, Try.ntmps25
  go_wp2_with fail
  generalize (((w.alloc (.cells #[.int .i64 na, .slice A l.length c] 27)).alloc (.cells #[.int .i64 nb, .slice B m.length d] 27)).alloc (.cells #[.int .i64 na, .slice A l.length c, .int .i64 nb, .slice B m.length d] 27)) = W at HBX K3 ⊢
  have q0 : W.cell? ⟨w.heap.size + 2, 0, none⟩ = some (.int .i64 na) := blk_cell K3.out 0
  have q1 : W.cell? ⟨w.heap.size + 2, 1, none⟩ = some (.slice A l.length c) := blk_cell K3.out 1
  have HBX4 : Hid (Boxed2 w (.cells #[.int .i64 na, .slice A l.length c] 27) (.cells #[.int .i64 nb, .slice B m.length d] 27) (W.alloc (.cells #[.int .i64 na, .slice A l.length c] 27))) := HBX.out.below (below_alloc (Below.refl _ _) _)
  have K4 := hidm (blk_alloc K3.out (.cells #[.int .i64 na, .slice A l.length c] 27))
  refine wp_loop_rounds 3 ?_
  rw [rounds_succ]
  go_wp2_with fail
  generalize (W.alloc (.cells #[.int .i64 na, .slice A l.length c] 27)) = w4 at HBX4 K4 ⊢
  clear HBX K3 q0 q1
  refine (check_any na l A c w4 (Kd.C_below HRA.out HBX4.out.b) HWA.out).mono ?_
  rintro e w5 ⟨rfl, hb⟩
  rw [errI_yes hk1]
  replace HBX4 := hidm (HBX4.out.below hb)
  replace K4 := hidm (blk_below K4.out hb)
  clear hb
  have q0 : w5.cell? ⟨w.heap.size + 2, 2, none⟩ = some (.int .i64 nb) := blk_cell K4.out 2
  have q1 : w5.cell? ⟨w.heap.size + 2, 3, none⟩ = some (.slice B m.length d) := blk_cell K4.out 3
  have HBX5 : Hid (Boxed2 w (.cells #[.int .i64 na, .slice A l.length c] 27) (.cells #[.int .i64 nb, .slice B m.length d] 27) (w5.alloc (.cells #[.int .i64 nb, .slice B m.length d] 27))) := HBX4.out.below (below_alloc (Below.refl _ _) _)
  have K5 := hidm (blk_alloc K4.out (.cells #[.int .i64 nb, .slice B m.length d] 27))
  go_wp2_with fail
  rw [rounds_succ]
  go_wp2_with fail
  generalize (w5.alloc (.cells #[.int .i64 nb, .slice B m.length d] 27)) = w6 at HBX5 K5 ⊢
  clear HBX4 K4 q0 q1
  have HBX4 := HBX5
  have K4 := K5
  clear HBX5 K5
  refine (check_any nb m B d w6 (Kd.C_below HRB.out HBX4.out.b) HWB.out).mono ?_
  rintro e w7 ⟨rfl, hb⟩
  rw [errI_yes hk2]
  replace HBX4 := hidm (HBX4.out.below hb)
  replace K4 := hidm (blk_below K4.out hb)
  clear hb
  clear hk1 hk2
  have hmm := @run_makeMap Try.prog
  have q0 : (w7.alloc (.map #[] 0)).cell? ⟨w.heap.size, 1, none⟩ = some (.slice A l.length c) := blk_cell (blk_alloc HBX4.out.k1 _) 1
  have HM0 : Hid ((w7.alloc (.map #[] 0)).ownsMap Try.prog 3 RV w7.heap.size 0 (.map [])) := World.ownsMap_made w7 Try.prog 3 RV
  have HB0 : Hid (Boxed2 w (.cells #[.int .i64 na, .slice A l.length c] 27) (.cells #[.int .i64 nb, .slice B m.length d] 27) (w7.alloc (.map #[] 0))) := HBX4.out.below (below_alloc (Below.refl _ _) _)
  have HMB : Hid (w.heap.size + 2 ≤ w7.heap.size) := Nat.le_of_lt (Array.getElem?_eq_some_iff.1 K4.out).1
  go_wp2_with fail
  rw [rounds_succ]
  go_wp2_with fail
  clear hmm q0 HBX4 K4
  generalize (w7.alloc (.map #[] 0)) = w8 at HM0 HB0 ⊢
  generalize w7.heap.size = mb at HM0 HMB ⊢
  go_loopw [36] (fun v W => ∃ (j : Nat) (D : DataW Value), j ≤ l.length ∧ v = .int .i64 j ∧ Hid (MapIs w D (l.take j)) ∧ Hid (W.ownsMap Try.prog 3 RV mb j D) ∧ Hid (Boxed2 w (.cells #[.int .i64 na, .slice A l.length c] 27) (.cells #[.int .i64 nb, .slice B m.length d] 27) W)) (fun v _ => l.length - (intOf v).toNat)
  case atStart => exact ⟨0, .map [], Nat.zero_le _, rfl, hidm (MapIs.nil w), HM0, HB0⟩
  case round =>
    clear HM0 HB0
    obtain ⟨j, D, hjl, rfl, HMI, HOW, HB⟩ := hrel
    by_cases hj : j < l.length
    · obtain ⟨ad, A4, c4, A5, c5, A6, c6, hA, hna⟩ := nodeAt HRA.out j hj
      subst hA
      have HNR := hidm hna.r
      have HNA := hidm (hna.below HB.out.b)
      clear hna
      have hj0 : (0 : Int) ≤ (j : Int) := by omega
      have hj1 : (j : Int) < (l.length : Int) := by omega
      have HN : Hid (j < maxLen) := by have := HLL.out; unfold Hid maxLen; omega
      have HID : Hid (I64 (rd_T76 l j).f0) := id_I64 HK1.out hj
      have x0 : wr.cell? (ad.add (j * 7)) = some (.int .i64 (rd_T76 l j).f0) := HNA.out.y0
      have x1 : wr.cell? ⟨(ad.add (j * 7)).block, (ad.add (j * 7)).off + 1, none⟩ = some (.string (rd_T76 l j).f1) := HNA.out.y1
      have x2 : wr.cell? ⟨(ad.add (j * 7)).block, (ad.add (j * 7)).off + 2, none⟩ = some (.int .i64 (rd_T76 l j).f2) := HNA.out.y2
      have x3 : wr.cell? ⟨(ad.add (j * 7)).block, (ad.add (j * 7)).off + 3, none⟩ = some (.string (rd_T76 l j).f3) := HNA.out.y3
      have x4 : wr.cell? ⟨(ad.add (j * 7)).block, (ad.add (j * 7)).off + 4, none⟩ = some (.slice A4 (rd_T76 l j).f4.length c4) := HNA.out.y4
      have x5 : wr.cell? ⟨(ad.add (j * 7)).block, (ad.add (j * 7)).off + 5, none⟩ = some (.slice A5 (rd_T76 l j).f5.length c5) := HNA.out.y5
      have x6 : wr.cell? ⟨(ad.add (j * 7)).block, (ad.add (j * 7)).off + 6, none⟩ = some (.slice A6 (rd_T76 l j).f6.length c6) := HNA.out.y6
      go_wp2_with (at_mapUpdate; refine wpList_mapUpdate_own _ rfl _ _ _ 87 rfl 3 76 KI Try.underlying87 RV mb j D rfl (HOW.out.alloc _) HN.out _ _ (.int .i64 (rd_T76 l j).f0) rfl rfl (keyI HID.out) (.held (nodeV (rd_T76 l j) A4 c4 A5 c5 A6 c6)) [] rfl ?_
                   intro w9 hown hgrow
                   have HB9 := hidm ((HB.out.below (below_alloc (Below.refl _ _) _)).map hgrow HMB.out)
                   have HO9 := hidm hown
                   clear hown hgrow)
      have HMI9 : Hid (MapIs w (D.put (.int .i64 (rd_T76 l j).f0) (.held (nodeV (rd_T76 l j) A4 c4 A5 c5 A6 c6))) (l.take (j + 1))) := by
        rw [take_rd hj]
        exact HMI.out.put (up_take HUL.out hj) HNR.out
      go_roundw
      case rel => exact ⟨j + 1, _, by omega, by go_num, HMI9, HO9, HB9⟩
      case measure => simp [intOf]; omega
    · have hje : j = l.length := by omega
      subst hje
      have hj1 : ¬ (l.length : Int) < (l.length : Int) := by omega
      have HMS : Hid (MapIs w D (restL l m 0)) := MapIs.start HMI.out
      have q1 : wr.cell? ⟨w.heap.size + 1, 1, none⟩ = some (.slice B m.length d) := blk_cell HB.out.k2 1
      have HOW0 := HOW
      have HB0 := HB
      clear HMI HOW HB hjl
      go_wp2_with fail
      clear q1
      obtain ⟨wo, rfl⟩ : ∃ wo : World, wo = wr := ⟨_, rfl⟩
      clear hj hj1
      go_loopw [12, 48] (fun u v W => ∃ (k : Nat) (D : DataW Value), k ≤ m.length ∧ v = .int .i64 k ∧ Hid (MapIs w D (restL l m k)) ∧ Hid (W.ownsMap Try.prog 3 RV mb l.length D) ∧ Hid (Boxed2 w (.cells #[.int .i64 na, .slice A l.length c] 27) (.cells #[.int .i64 nb, .slice B m.length d] 27) W) ∧ Hid ((Kd.int .i64).R 3 W w.heap.size (fun _ => True) u (outB l (m.take k))) ∧ Hid ((outB l (m.take k)).length ≤ k)) (fun _ v _ => m.length - (intOf v).toNat)
      case atStart => exact ⟨0, D, Nat.zero_le _, rfl, HMS, HOW0, HB0, hidm (by rw [List.take_zero]; exact Kd.R_nil _ _ _ _ _), hidm (by rw [List.take_zero]; exact Nat.le_refl _)⟩
      case round =>
        clear HMS HOW0 HB0
        clear D
        obtain ⟨k, D, hkl, rfl, HMI, HOW, HBX, HO, HLN⟩ := hrel
        by_cases hk : k < m.length
        · obtain ⟨bd, B4, d4, B5, d5, B6, d6, hB, hnb⟩ := nodeAt HRB.out k hk
          subst hB
          have HNR := hidm hnb.r
          have HNB := hidm (hnb.below HBX.out.b)
          clear hnb
          have hk0 : (0 : Int) ≤ (k : Int) := by omega
          have hk1 : (k : Int) < (m.length : Int) := by omega
          have HID : Hid (I64 (rd_T76 m k).f0) := id_I64 HK2.out hk
          have x0 : wr.cell? (bd.add (k * 7)) = some (.int .i64 (rd_T76 m k).f0) := HNB.out.y0
          have x1 : wr.cell? ⟨(bd.add (k * 7)).block, (bd.add (k * 7)).off + 1, none⟩ = some (.string (rd_T76 m k).f1) := HNB.out.y1
          have x2 : wr.cell? ⟨(bd.add (k * 7)).block, (bd.add (k * 7)).off + 2, none⟩ = some (.int .i64 (rd_T76 m k).f2) := HNB.out.y2
          have x3 : wr.cell? ⟨(bd.add (k * 7)).block, (bd.add (k * 7)).off + 3, none⟩ = some (.string (rd_T76 m k).f3) := HNB.out.y3
          have x4 : wr.cell? ⟨(bd.add (k * 7)).block, (bd.add (k * 7)).off + 4, none⟩ = some (.slice B4 (rd_T76 m k).f4.length d4) := HNB.out.y4
          have x5 : wr.cell? ⟨(bd.add (k * 7)).block, (bd.add (k * 7)).off + 5, none⟩ = some (.slice B5 (rd_T76 m k).f5.length d5) := HNB.out.y5
          have x6 : wr.cell? ⟨(bd.add (k * 7)).block, (bd.add (k * 7)).off + 6, none⟩ = some (.slice B6 (rd_T76 m k).f6.length d6) := HNB.out.y6
          have HNEXT : Hid (MapIs w (D.del (.int .i64 (rd_T76 m k).f0)) (restL l m (k + 1))) := HMI.out.gone hk
          have HLE : Hid ((outB l (m.take (k + 1))).length ≤ k + 1) := by
            rw [outB_take hk, List.length_append]
            have h1 := HLN.out
            have h2 : (if tv ((rd_T76 m k) ∈ l) = true then ([] : List Int) else [(rd_T76 m k).f0]).length ≤ 1 := by split <;> simp
            exact hidm (by omega)
          by_cases hx : ∃ n ∈ restL l m k, n.f0 = (rd_T76 m k).f0
          · obtain ⟨n, hn, hne⟩ := hx
            obtain ⟨C4, e4, C5, e5, C6, e6, hnr, hat⟩ := HMI.out.at_ n hn
            have HNN := hidm hnr
            have HNE := hidm hne
            have HNM : Hid (n ∈ l) := (mem_rest.1 hn).1
            have HAT : Hid (∀ zd, D.atKey (.int .i64 (rd_T76 m k).f0) zd = .held (nodeV n C4 e4 C5 e5 C6 e6)) := by rw [← hne]; exact hidm hat
            have HHAS : Hid (Maps.has D (.int .i64 (rd_T76 m k).f0) = true) := (HMI.out.has _).2 ⟨n, hn, hne⟩
            clear hn hne hnr hat
            go_wp2_with (first
              | (at_lookup; refine lookup_yes _ rfl _ _ rfl (zero76 _) mb l.length D rfl (HOW.out.alloc _) (rd_T76 m k).f0 rfl HID.out HHAS.out HAT.out ?_)
              | (at_delete; refine wpList_delete_own _ rfl _ _ 87 3 rfl 76 KI Try.underlying87 RV mb l.length D rfl ((HOW.out.alloc _).alloc _) _ (.int .i64 (rd_T76 m k).f0) rfl (keyI HID.out) ?_
                 intro w9 hown hturn
                 have HG := hidm hturn.grown
                 have HOW9 := hidm hown
                 have HSZ : Hid (wr.heap.size < ((wr.alloc (.cells (nodeCs (rd_T76 m k) B4 d4 B5 d5 B6 d6) 76)).alloc (.cells (nodeCs n C4 e4 C5 e5 C6 e6) 76)).heap.size ∧ wr.heap.size + 1 < ((wr.alloc (.cells (nodeCs (rd_T76 m k) B4 d4 B5 d5 B6 d6) 76)).alloc (.cells (nodeCs n C4 e4 C5 e5 C6 e6) 76)).heap.size) := size2 wr _ _
                 have HBX9 := hidm ((HBX.out.below (below_alloc (below_alloc (Below.refl _ _) _) _)).map HG.out HMB.out)
                 have HO9 := hidm (int_R_map (Kd.R_below HO.out (below_alloc (below_alloc (Below.refl _ _) _) _)) ((HOW.out.alloc _).alloc _) HG.out)
                 have K14 : Hid (w9.heap[wr.heap.size]? = some (.cells (nodeCs (rd_T76 m k) B4 d4 B5 d5 B6 d6) 76 (0, 0))) := (HG.out.block _ HSZ.out.1 (fun e => by injection e with e; have := HOW.out.lt; omega)).trans (blk_alloc (blk_new wr (.cells (nodeCs (rd_T76 m k) B4 d4 B5 d5 B6 d6) 76)) (.cells (nodeCs n C4 e4 C5 e5 C6 e6) 76))
                 have K15 : Hid (w9.heap[wr.heap.size + 1]? = some (.cells (nodeCs n C4 e4 C5 e5 C6 e6) 76 (0, 0))) := (HG.out.block _ HSZ.out.2 (fun e => by injection e with e; have := HOW.out.lt; omega)).trans (blk_new2 wr _ _)
                 have p0 : w9.cell? ⟨wr.heap.size, 0, none⟩ = some (.int .i64 (rd_T76 m k).f0) := blk_cell K14.out 0
                 have p1 : w9.cell? ⟨wr.heap.size, 1, none⟩ = some (.string (rd_T76 m k).f1) := blk_cell K14.out 1
                 have p2 : w9.cell? ⟨wr.heap.size, 2, none⟩ = some (.int .i64 (rd_T76 m k).f2) := blk_cell K14.out 2
                 have p3 : w9.cell? ⟨wr.heap.size, 3, none⟩ = some (.string (rd_T76 m k).f3) := blk_cell K14.out 3
                 have p4 : w9.cell? ⟨wr.heap.size, 4, none⟩ = some (.slice B4 (rd_T76 m k).f4.length d4) := blk_cell K14.out 4
                 have p5 : w9.cell? ⟨wr.heap.size, 5, none⟩ = some (.slice B5 (rd_T76 m k).f5.length d5) := blk_cell K14.out 5
                 have p6 : w9.cell? ⟨wr.heap.size, 6, none⟩ = some (.slice B6 (rd_T76 m k).f6.length d6) := blk_cell K14.out 6
                 have r0 : w9.cell? ⟨wr.heap.size + 1, 0, none⟩ = some (.int .i64 n.f0) := blk_cell K15.out 0
                 have r1 : w9.cell? ⟨wr.heap.size + 1, 1, none⟩ = some (.string n.f1) := blk_cell K15.out 1
                 have r2 : w9.cell? ⟨wr.heap.size + 1, 2, none⟩ = some (.int .i64 n.f2) := blk_cell K15.out 2
                 have r3 : w9.cell? ⟨wr.heap.size + 1, 3, none⟩ = some (.string n.f3) := blk_cell K15.out 3
                 have r4 : w9.cell? ⟨wr.heap.size + 1, 4, none⟩ = some (.slice C4 n.f4.length e4) := blk_cell K15.out 4
                 have r5 : w9.cell? ⟨wr.heap.size + 1, 5, none⟩ = some (.slice C5 n.f5.length e5) := blk_cell K15.out 5
                 have r6 : w9.cell? ⟨wr.heap.size + 1, 6, none⟩ = some (.slice C6 n.f6.length e6) := blk_cell K15.out 6
                 clear hown hturn))
            refine (histNode_any n (rd_T76 m k) HNE.out C4 C5 C6 B4 B5 B6 e4 e5 e6 d4 d5 d6 w9 (HNN.out.below HBX9.out.b) (HNR.out.below HBX9.out.b)).mono ?_
            rintro e w10 ⟨rfl, hb10⟩
            replace HOW9 := hidm (HOW9.out.kept ⟨hb10.os, hb10.tape, hb10.output, hb10.size, fun k hk _ => hb10.block k hk⟩ (row := none) (by simp))
            replace HBX9 := hidm (HBX9.out.below hb10)
            replace HO9 := hidm (Kd.R_below HO9.out hb10)
            replace K14 := hidm (blk_below K14.out hb10)
            clear hb10 p0 p1 p2 p3 p4 p5 p6 r0 r1 r2 r3 r4 r5 r6
            have p0 : w10.cell? ⟨wr.heap.size, 0, none⟩ = some (.int .i64 (rd_T76 m k).f0) := blk_cell K14.out 0
            by_cases hs : n = (rd_T76 m k)
            · have HNO : Hid (tv ((rd_T76 m k) ∈ l) = true) := tv_yes (by rw [← hs]; exact HNM.out)
              rw [tv_yes hs]
              clear hs
              go_wp2_with fail
              go_roundw
              case rel => exact ⟨k + 1, _, by omega, by go_num, HNEXT, HOW9, HBX9, hidm (by rw [outB_take hk, HNO.out, if_pos rfl, List.append_nil]; exact HO9.out), HLE⟩
              case measure => simp [intOf]; omega
            · have HNO : Hid ((if tv ((rd_T76 m k) ∈ l) = true then ([] : List Int) else [(rd_T76 m k).f0]) = [(rd_T76 m k).f0]) := by
                rw [tv_no (fun h => hs (HUL.out.inj HNM.out h HNE.out))]
                exact hidm rfl
              rw [tv_no hs]
              clear hs
              go_wp2_with (at_builtin; refine Kd.R_append (Kd.int .i64) (w0 := w) w.heap.size rfl (.tmp 70) (.tmp 73) 54 3 (.int .i64 0) 8 rfl Try.underlying54 info3 rfl (by decide) (by decide) u12 (outB l (m.take k)) (rd_T76 m k).f0 [.int .i64 (rd_T76 m k).f0] (fun _ => True) (fun _ => False) rfl rfl rfl (fun _ h => h.elim) (fun _ _ => trivial) HO9.out HBX9.out.b HBX9.out.b.size (by have := HLN.out; have := HML.out; omega) ?_
                           intro v2 w11 hN hB hg hat
                           have HB11 := hidm (HBX9.out.grown hg hB (Kd.R_ne HO9.out HBX9.out.k1 (by decide)) (Kd.R_ne HO9.out HBX9.out.k2 (by decide)))
                           have HOW11 := hidm (HOW9.out.kept hg (map_apart HO9.out HOW9.out))
                           have HO11 := hidm hN
                           clear hN hB hg hat)
              go_roundw
              case rel => exact ⟨k + 1, _, by omega, by go_num, HNEXT, HOW11, HB11, hidm (by rw [outB_take hk, HNO.out]; exact HO11.out), HLE⟩
              case measure => simp [intOf]; omega
          · have HNO : Hid ((if tv ((rd_T76 m k) ∈ l) = true then ([] : List Int) else [(rd_T76 m k).f0]) = [(rd_T76 m k).f0]) := by
              rw [tv_no (fun h => hx ⟨(rd_T76 m k), mem_rest.2 ⟨h, up_take HUM.out hk⟩, rfl⟩)]
              exact hidm rfl
            have HHAS : Hid (Maps.has D (.int .i64 (rd_T76 m k).f0) = false) := by
              cases hh : Maps.has D (.int .i64 (rd_T76 m k).f0) with
              | false => exact hidm rfl
              | true => exact absurd ((HMI.out.has _).1 hh) hx
            clear hx
            go_wp2_with (first
              | (at_lookup; refine lookup_no _ rfl _ _ rfl (zero76 _) mb l.length D rfl (HOW.out.alloc _) (rd_T76 m k).f0 rfl HID.out HHAS.out ?_)
              | (at_delete; refine wpList_delete_own _ rfl _ _ 87 3 rfl 76 KI Try.underlying87 RV mb l.length D rfl ((HOW.out.alloc _).alloc _) _ (.int .i64 (rd_T76 m k).f0) rfl (keyI HID.out) ?_
                 intro w9 hown hturn
                 have HG := hidm hturn.grown
                 have HOW9 := hidm hown
                 have HSZ : Hid (wr.heap.size < ((wr.alloc (.cells (nodeCs (rd_T76 m k) B4 d4 B5 d5 B6 d6) 76)).alloc (.cells #[.int .i64 0, .string ⟨#[]⟩, .int .i64 0, .string ⟨#[]⟩, .slice none 0 0, .slice none 0 0, .slice none 0 0] 76)).heap.size ∧ wr.heap.size + 1 < ((wr.alloc (.cells (nodeCs (rd_T76 m k) B4 d4 B5 d5 B6 d6) 76)).alloc (.cells #[.int .i64 0, .string ⟨#[]⟩, .int .i64 0, .string ⟨#[]⟩, .slice none 0 0, .slice none 0 0, .slice none 0 0] 76)).heap.size) := size2 wr _ _
                 have HBX9 := hidm ((HBX.out.below (below_alloc (below_alloc (Below.refl _ _) _) _)).map HG.out HMB.out)
                 have HO9 := hidm (int_R_map (Kd.R_below HO.out (below_alloc (below_alloc (Below.refl _ _) _) _)) ((HOW.out.alloc _).alloc _) HG.out)
                 have K14 : Hid (w9.heap[wr.heap.size]? = some (.cells (nodeCs (rd_T76 m k) B4 d4 B5 d5 B6 d6) 76 (0, 0))) := (HG.out.block _ HSZ.out.1 (fun e => by injection e with e; have := HOW.out.lt; omega)).trans (blk_alloc (blk_new wr (.cells (nodeCs (rd_T76 m k) B4 d4 B5 d5 B6 d6) 76)) (.cells #[.int .i64 0, .string ⟨#[]⟩, .int .i64 0, .string ⟨#[]⟩, .slice none 0 0, .slice none 0 0, .slice none 0 0] 76))
                 have p0 : w9.cell? ⟨wr.heap.size, 0, none⟩ = some (.int .i64 (rd_T76 m k).f0) := blk_cell K14.out 0
                 clear hown hturn)
              | (at_builtin; refine Kd.R_append (Kd.int .i64) (w0 := w) w.heap.size rfl (.tmp 70) (.tmp 73) 54 3 (.int .i64 0) 8 rfl Try.underlying54 info3 rfl (by decide) (by decide) u12 (outB l (m.take k)) (rd_T76 m k).f0 [.int .i64 (rd_T76 m k).f0] (fun _ => True) (fun _ => False) rfl rfl rfl (fun _ h => h.elim) (fun _ _ => trivial) HO9.out HBX9.out.b HBX9.out.b.size (by have := HLN.out; have := HML.out; omega) ?_
                 intro v2 w11 hN hB hg hat
                 have HB11 := hidm (HBX9.out.grown hg hB (Kd.R_ne HO9.out HBX9.out.k1 (by decide)) (Kd.R_ne HO9.out HBX9.out.k2 (by decide)))
                 have HOW11 := hidm (HOW9.out.kept hg (map_apart HO9.out HOW9.out))
                 have HO11 := hidm hN
                 clear hN hB hg hat))
            go_roundw
            case rel => exact ⟨k + 1, _, by omega, by go_num, HNEXT, HOW11, HB11, hidm (by rw [outB_take hk, HNO.out]; exact HO11.out), HLE⟩
            case measure => simp [intOf]; omega
        · have hke : k = m.length := by omega
          subst hke
          have hk1 : ¬ (m.length : Int) < (m.length : Int) := by omega
          rw [List.take_length] at HO HLN
          go_wp2_with (at_range; refine wpList_range_own _ rfl _ 87 rfl 3 76 KI Try.underlying87 RV mb l.length D rfl HOW.out ?_
                       intro w9 hrg hg hs
                       have HRG := hidm hrg
                       have HO9 := hidm (int_R_kept HO.out (fun k hk => hg.block k (own_lt_R HO.out k hk) (by simp)))
                       have HB9 : Hid (Below w.heap.size w w9) := Below.grown HBX.out.b hg HBX.out.b.size (fun k e => by cases e)
                       have HSZ : Hid (Maps.size D ≤ l.length) := HOW.out.size_le
                       have HRB9 : Hid (w.heap.size ≤ wr.heap.size) := HBX.out.b.size
                       clear hrg hg hs)
          try go_frame
          clear HOW HBX HO hk1 hkl hk
          obtain ⟨r, hr⟩ : ∃ r, wr.heap.size = r := ⟨_, rfl⟩
          rw [hr] at HRG HRB9 ⊢
          clear hr
          go_loopw [12] (fun u W => ∃ (left : Lit → Bool) (cnt : Nat) (got : List Int), Hid (W.ranges Try.prog 3 RV mb r l.length D left cnt) ∧ Hid (got.length + cnt ≤ l.length) ∧ Hid (GotI D left got) ∧ Hid (Below w.heap.size w W) ∧ Hid ((Kd.int .i64).R 3 W w.heap.size (fun _ => True) u (outB l m ++ got))) (fun _ W => W.rangeLeft mb r)
          case atStart => exact ⟨Maps.has D, Maps.size D, [], HRG, hidm (by have := HSZ.out; simpa using this), hidm (GotI.start D), HB9, hidm (by rw [List.append_nil]; exact HO9.out)⟩
          case round =>
            clear HRG HB9 HO9
            obtain ⟨left, cnt, got, HRG, HCN, HGOT, HB, HO⟩ := hrel
            have HRL : Hid (wr.rangeLeft mb r = cnt) := HRG.out.left_eq
            have HLEN : Hid ((outB l m ++ got).length ≤ m.length + l.length) := by
              have h1 := HLN.out
              have h2 := HCN.out
              unfold Hid
              rw [List.length_append]
              omega
            go_wp2_with (at_next; refine wpList_next_ranges _ rfl _ rfl 3 KI RV (Value.int .i64) (fun v : Value => v) (fun key kl hkey => by obtain ⟨x, rfl, _⟩ := Maps.keyOf_int_inv Try.underlying3 hkey; exact ⟨x, rfl⟩) (fun v y _ => ⟨v, rfl⟩) mb r l.length D left cnt rfl HRG.out ?_ ?_)
            · intro hc0 hl0
              have HD := hidm (HGOT.out.done hl0 HMI.out)
              have HLAW : Hid ((outB l m ++ got).mergeSort leI = refT l m) := touched_law HUL.out HUM.out HD.out.1 HD.out.2
              clear hc0 hl0 HD
              go_wp2_with fail
              refine (sort_any u12 (outB l m ++ got) w.heap.size _ wr HO.out (by have := HLEN.out; have := HML.out; have := HLL.out; omega)).mono ?_
              rintro e w12 ⟨rfl, hs, hg⟩
              rw [HLAW.out] at hs
              have HP : Hid (TouchPost 0 (refT l m) w (.returned (.tuple #[u12, .int .i64 0])) w12) := ⟨_, rfl, hs, Below.grown HB.out hg HB.out.size (fun k hk => own_base (inner_ints HO.out) k hk)⟩
              clear hs hg
              go_wp2_with fail
              simp [bodyPost, results, Try.results25, go_sem]
              exact HP.out
            · intro x cval kl yd yp w9 cnt2 hkey hlk hv hat hrg hlt hg hs hen
              obtain ⟨x', ex, rfl, _⟩ := Maps.keyOf_int_inv Try.underlying3 hkey
              cases ex
              have HRG9 := hidm hrg
              have HGOT9 := hidm (HGOT.out.step hlk)
              have HO9 := hidm (int_R_kept HO.out (fun k hk => hg.block k (own_lt_R HO.out k hk) (fun e => iter_apart HO.out HRG.out (e.symm.trans hk.symm))))
              have HB9 : Hid (Below w.heap.size w w9) := Below.grown HB.out hg HB.out.size (fun k e => by injection e with e; have := HRB9.out; omega)
              have HLT := hidm hlt
              clear hkey hlk hv hat hrg hlt hg hs
              go_wp2_with (at_builtin; refine Kd.R_append (Kd.int .i64) (w0 := w) w.heap.size rfl (.tmp 82) (.tmp 84) 54 3 (.int .i64 0) 8 rfl Try.underlying54 info3 rfl (by decide) (by decide) u12 (outB l m ++ got) x [.int .i64 x] (fun _ => True) (fun _ => False) rfl rfl rfl (fun _ h => h.elim) (fun _ _ => trivial) HO9.out HB9.out HB9.out.size (by have := HLEN.out; have := HML.out; have := HLL.out; omega) ?_
                           intro v2 w11 hN hB hg hat
                           have HRG11 := hidm (HRG9.out.kept hg (map_apart HO9.out HRG9.out.owns) (iter_apart HO9.out HRG9.out))
                           have HB11 := hidm hB
                           have HO11 := hidm hN
                           clear hN hB hg hat hen)
              go_roundw
              case rel => exact ⟨_, cnt2, got ++ [x], HRG11, hidm (by have h1 := HLT.out; have h2 := HCN.out; rw [List.length_append]; simp; omega), HGOT9, HB11, hidm (by rw [← List.append_assoc]; exact HO11.out)⟩
              case measure => rw [HRG11.out.left_eq, HRL.out]; exact HLT.out
end Go.Proofs.Ytlopfkkegjajlaa
namespace Go.Proofs.Ytlopfkkegjajlaa
open Go.RowKit Go.Proofs.YtlopfkkegjajlaaW.PrintWords PHistoryTouched
theorem touched_both (na nb : Int) (l m : List S76) (hwa : WfL l) (hwb : WfL m) (hl : l.length ≤ 1048576) (hm : m.length ≤ 1048576) : ∃ er xs, xs.length ≤ 9223372036854775807 ∧
    (∀ A B c d w, Kd.C k76 w A l.length l → Kd.C k76 w B m.length m → Calls Try.prog 25 #[.agg #[.int .i64 na, .slice A l.length c], .agg #[.int .i64 nb, .slice B m.length d]] w (TouchPost er xs w)) ∧
    (∀ A B c d w, Kd.C k76 w A l.length l → l.length ≤ c → Kd.C k76 w B m.length m → m.length ≤ d → Calls Try.prog 26 #[.agg #[.int .i64 na, .slice A l.length c], .agg #[.int .i64 nb, .slice B m.length d]] w (TouchPost er xs w)) := by
  by_cases h1 : CheckP na l
  · by_cases h2 : CheckP nb m
    · refine ⟨0, refT l m, ?_, fun A B c d w ha hb => touched_yes na nb A B l m c d w ha hwa hb hwb h1 h2 hl hm, fun A B c d w ha hc hb hd => refTouched_yes na nb A B l m c d w ha hc hb hd h1 h2 hl hm⟩
      have hlen : ∀ l m : List S76, (refT l m).length ≤ l.length + m.length := fun l m => by
        induction l, m using refT.induct with
        | case1 m => rw [refT_nil]; simp
        | case2 a l => rw [refT_end]; simp
        | case3 a l b m hab ih => rw [refT, if_pos hab]; simp at ih ⊢; omega
        | case4 a l b m hab hba ih => rw [refT, if_neg hab, if_pos hba]; simp at ih ⊢; omega
        | case5 a l b m hab hba ih =>
          rw [refT, if_neg hab, if_neg hba, List.length_append]
          have : (if tv (a = b) = true then ([] : List Int) else [a.f0]).length ≤ 1 := by split <;> simp
          simp; omega
      have := hlen l m
      omega
    · exact ⟨29, [], by simp, fun A B c d w ha hb => touched_no2 na nb A B l m c d w ha hwa hb hwb h1 h2, fun A B c d w ha hc hb hd => refTouched_no2 na nb A B l m c d w ha hc hb hd h1 h2⟩
  · exact ⟨29, [], by simp, fun A B c d w ha hb => touched_no1 na nb A B l m c d w ha hwa hb hwb h1, fun A B c d w ha hc hb hd => refTouched_no1 na nb A B l m c d w ha hc hb hd h1⟩
theorem ints_any (xs ys : List Int) (A B : Option Addr) (c d : Nat) (w : World) (ha : Kd.C (Kd.int .i64) w A xs.length xs) (hc : xs.length ≤ c) (hb : Kd.C (Kd.int .i64) w B ys.length ys) (hd : ys.length ≤ d) :
    Calls Try.prog 27 #[.slice A xs.length c, .slice B ys.length d] w fun e w' => e = .returned (.bool (tv (xs = ys))) ∧ Below w.heap.size w w' := by
  obtain ⟨k, h⟩ := (ints_ev xs ys ha.2.1).rounds
  exact (topiaryref02_Ints.calls k A c xs B d ys _ w ha hc hb hd h).mono fun _ _ ⟨he, hb⟩ => ⟨he, hb.below⟩
theorem two_C {w : World} {g : Nat} {na nb : Int} {A B : Option Addr} {l m : List S76} {c d : Nat} (hk : w.heap[g]? = some (.cells #[.int .i64 na, .slice A l.length c, .int .i64 nb, .slice B m.length d] 27 (0, 0))) (ha : Kd.C k76 w A l.length l) (hc : l.length ≤ c) (hb : Kd.C k76 w B m.length m) (hd : m.length ≤ d) :
    Kd.C k27 w (some ⟨g, 0, none⟩) 2 [⟨na, l⟩, ⟨nb, m⟩] := by
  refine ⟨rfl, by omega, fun _ => ⟨_, rfl, fun j p hj => ?_⟩⟩
  match j, hj with
  | 0, hj =>
    obtain rfl := Option.some.inj hj
    refine ⟨_, rfl, k27_mk w ⟨na, l⟩ hc ha, fun i u hu => ?_⟩
    rw [add_plain]
    match i, hu with
    | 0, hu => obtain rfl := Option.some.inj hu; exact blk_cell hk 0
    | 1, hu => obtain rfl := Option.some.inj hu; exact blk_cell hk 1
  | 1, hj =>
    obtain rfl := Option.some.inj hj
    refine ⟨_, rfl, k27_mk w ⟨nb, m⟩ hd hb, fun i u hu => ?_⟩
    rw [add_plain]
    match i, hu with
    | 0, hu => obtain rfl := Option.some.inj hu; exact blk_cell hk 2
    | 1, hu => obtain rfl := Option.some.inj hu; exact blk_cell hk 3
structure TwoT (w : World) (na nb : Int) (l m : List S76) (g5 g6 : Nat) (A8 : Option Addr) (c8 : Nat) (B8 : Option Addr) (d8 : Nat) (W : World) : Prop where
  b : Below w.heap.size w W
  k5 : W.heap[g5]? = some (.cells #[.int .i64 na, .slice A8 l.length c8] 27 (0, 0))
  k6 : W.heap[g6]? = some (.cells #[.int .i64 nb, .slice B8 m.length d8] 27 (0, 0))
  rA : Kd.C k76 W A8 l.length l
  lA : l.length ≤ c8
  rB : Kd.C k76 W B8 m.length m
  lB : m.length ≤ d8
theorem TwoT.below {w : World} {na nb : Int} {l m : List S76} {g5 g6 : Nat} {A8 : Option Addr} {c8 : Nat} {B8 : Option Addr} {d8 : Nat} {W W' : World} (h : TwoT w na nb l m g5 g6 A8 c8 B8 d8 W) (hb : Below W.heap.size W W') : TwoT w na nb l m g5 g6 A8 c8 B8 d8 W' :=
  ⟨below_step h.b hb, blk_below h.k5 hb, blk_below h.k6 hb, Kd.C_below h.rA hb, h.lA, Kd.C_below h.rB hb, h.lB⟩
theorem two_done {w W : World} {na nb : Int} {l m : List S76} {g5 g6 : Nat} {A8 : Option Addr} {c8 : Nat} {B8 : Option Addr} {d8 : Nat} {SA SB : Nat → Prop} (hb : Below w.heap.size w W) (h5 : w.heap.size ≤ g5) (h6 : w.heap.size ≤ g6) (hne : g5 ≠ g6)
    (k5 : W.heap[g5]? = some (.cells #[.int .i64 0, .slice none 0 0] 27 (0, 0))) (k6 : W.heap[g6]? = some (.cells #[.int .i64 0, .slice none 0 0] 27 (0, 0))) (fA : Kd.F k76 W SA A8 l.length l) (lA : l.length ≤ c8) (fB : Kd.F k76 W SB B8 m.length m) (lB : m.length ≤ d8)
    (a5 : ¬ SA g5) (a6 : ¬ SA g6) (b5 : ¬ SB g5) (b6 : ¬ SB g6) :
    TwoT w na nb l m g5 g6 A8 c8 B8 d8 ((((W.setCell ⟨g5, 0, none⟩ (.int .i64 na)).setCell ⟨g5, 1, none⟩ (.slice A8 l.length c8)).setCell ⟨g6, 0, none⟩ (.int .i64 nb)).setCell ⟨g6, 1, none⟩ (.slice B8 m.length d8)) := by
  have e5 : ∀ S : Nat → Prop, ¬ S g5 → ∀ k, S k → k ≠ g5 := fun S h k hk e => h (by rw [← e]; exact hk)
  have e6 : ∀ S : Nat → Prop, ¬ S g6 → ∀ k, S k → k ≠ g6 := fun S h k hk e => h (by rw [← e]; exact hk)
  refine ⟨?_, ?_, ?_, ?_, lA, ?_, lB⟩
  · exact (((hb.setCell h5 _).setCell h5 _).setCell h6 _).setCell h6 _
  · exact blk_far (blk_far (blk_put (blk_put k5 0 _ rfl) 1 _ rfl) hne _) hne _
  · exact blk_put (blk_put (blk_far (blk_far k6 (Ne.symm hne) _) (Ne.symm hne) _) 0 _ rfl) 1 _ rfl
  · exact Kd.F_now (Kd.F_far (p := ⟨g6, 1, none⟩) (Kd.F_far (p := ⟨g6, 0, none⟩) (Kd.F_far (p := ⟨g5, 1, none⟩) (Kd.F_far (p := ⟨g5, 0, none⟩) fA (e5 _ a5) _) (e5 _ a5) _) (e6 _ a6) _) (e6 _ a6) _)
  · exact Kd.F_now (Kd.F_far (p := ⟨g6, 1, none⟩) (Kd.F_far (p := ⟨g6, 0, none⟩) (Kd.F_far (p := ⟨g5, 1, none⟩) (Kd.F_far (p := ⟨g5, 0, none⟩) fB (e5 _ b5) _) (e5 _ b5) _) (e6 _ b6) _) (e6 _ b6) _)
structure FourT (w : World) (na nb : Int) (A : Option Addr) (l : List S76) (c : Nat) (B : Option Addr) (m : List S76) (d : Nat) (g5 g6 : Nat) (A8 : Option Addr) (c8 : Nat) (B8 : Option Addr) (d8 : Nat) (W : World) : Prop where
  t : TwoT w na nb l m g5 g6 A8 c8 B8 d8 W
  o : Boxed2 w (.cells #[.int .i64 na, .slice A l.length c] 27) (.cells #[.int .i64 nb, .slice B m.length d] 27) W
theorem FourT.below {w : World} {na nb : Int} {A : Option Addr} {l : List S76} {c : Nat} {B : Option Addr} {m : List S76} {d : Nat} {g5 g6 : Nat} {A8 : Option Addr} {c8 : Nat} {B8 : Option Addr} {d8 : Nat} {W W' : World} (h : FourT w na nb A l c B m d g5 g6 A8 c8 B8 d8 W) (hb : Below W.heap.size W W') : FourT w na nb A l c B m d g5 g6 A8 c8 B8 d8 W' :=
  ⟨h.t.below hb, h.o.below hb⟩
theorem FourT.mk' {w : World} {na nb : Int} {A : Option Addr} {l : List S76} {c : Nat} {B : Option Addr} {m : List S76} {d : Nat} {g5 g6 : Nat} {A8 : Option Addr} {c8 : Nat} {B8 : Option Addr} {d8 : Nat} {w1 W : World} (h : TwoT w na nb l m g5 g6 A8 c8 B8 d8 W)
    (ho : Boxed2 w (.cells #[.int .i64 na, .slice A l.length c] 27) (.cells #[.int .i64 nb, .slice B m.length d] 27) w1) (hw : ∀ k, k < w1.heap.size → W.heap[k]? = w1.heap[k]?) : FourT w na nb A l c B m d g5 g6 A8 c8 B8 d8 W :=
  ⟨h, h.b, (hw _ (Array.getElem?_eq_some_iff.1 ho.k1).1).trans ho.k1, (hw _ (Array.getElem?_eq_some_iff.1 ho.k2).1).trans ho.k2⟩
theorem twin_F {W W' : World} {l : List S76} {v : Value} (h : k76.R 76 W' W.heap.size (fun _ => True) v l) : ∃ A8 c8, v = .slice A8 l.length c8 ∧ l.length ≤ c8 ∧ Kd.F k76 W' (fun k => W.heap.size ≤ k ∧ k < W'.heap.size) A8 l.length l := by
  obtain ⟨A9, c9, e9, h8, h9⟩ := (Kd.R_V (d := k76) (base' := 0) (Kd.R_mono (Kd.R_bound h) (ok' := fun k => W.heap.size ≤ k ∧ k < W'.heap.size) (fun k hk => ⟨hk.2.1, hk.2.2.1⟩)))
  exact ⟨A9, c9, e9, h8, h9⟩
structure In4 (w : World) (A : Option Addr) (l : List S76) (c : Nat) : Prop where
  r : Kd.C k76 w A l.length l
  cap : l.length ≤ c
  sm : SmallL l
  wf : WfL l
set_option maxRecDepth 100000 in
set_option maxHeartbeats 16000000 in
theorem htouched_any (na nb : Int) (A B : Option Addr) (l m : List S76) (c d : Nat) (w : World) (ha : In4 w A l c) (hb : In4 w B m d) :
    Calls Try.prog 4 #[.agg #[.int .i64 na, .slice A l.length c], .agg #[.int .i64 nb, .slice B m.length d]] w fun e w' => e = .returned (.bool true) ∧ Below w.heap.size w w' := by
  have HA := hidm ha
  have HB := hidm hb
  clear ha hb
  have HBX : Hid (Boxed2 w (.cells #[.int .i64 na, .slice A l.length c] 27) (.cells #[.int .i64 nb, .slice B m.length d] 27) (((w.alloc (.cells #[.int .i64 na, .slice A l.length c] 27)).alloc (.cells #[.int .i64 nb, .slice B m.length d] 27)).alloc (.cells #[.int .i64 na, .slice A l.length c, .int .i64 nb, .slice B m.length d] 27))) := (boxed2 w (.cells #[.int .i64 na, .slice A l.length c] 27) (.cells #[.int .i64 nb, .slice B m.length d] 27)).below (below_alloc (Below.refl _ _) _)
  have K3 : Hid ((((w.alloc (.cells #[.int .i64 na, .slice A l.length c] 27)).alloc (.cells #[.int .i64 nb, .slice B m.length d] 27)).alloc (.cells #[.int .i64 na, .slice A l.length c, .int .i64 nb, .slice B m.length d] 27)).heap[w.heap.size + 2]? = some (.cells #[.int .i64 na, .slice A l.length c, .int .i64 nb, .slice B m.length d] 27 (0, 0))) := by
    have := blk_new ((w.alloc (.cells #[.int .i64 na, .slice A l.length c] 27)).alloc (.cells #[.int .i64 nb, .slice B m.length d] 27)) (.cells #[.int .i64 na, .slice A l.length c, .int .i64 nb, .slice B m.length d] 27)
    have e : ((w.alloc (.cells #[.int .i64 na, .slice A l.length c] 27)).alloc (.cells #[.int .i64 nb, .slice B m.length d] 27)).heap.size = w.heap.size + 2 := by simp
    rw [e] at this
    exact this
  go_enter Try.func4, Try.ntmps4
  go_wp2_with fail
  generalize (((w.alloc (.cells #[.int .i64 na, .slice A l.length c] 27)).alloc (.cells #[.int .i64 nb, .slice B m.length d] 27)).alloc (.cells #[.int .i64 na, .slice A l.length c, .int .i64 nb, .slice B m.length d] 27)) = W at HBX K3 ⊢
  obtain ⟨r, hg⟩ := great_any (some ⟨w.heap.size + 2, 0, none⟩) [⟨na, l⟩, ⟨nb, m⟩] 2 W (two_C K3.out (Kd.C_below HA.out.r HBX.out.b) HA.out.cap (Kd.C_below HB.out.r HBX.out.b) HB.out.cap) (Nat.le_refl _)
  refine hg.mono ?_
  clear hg
  rintro e w1 ⟨rfl, hb⟩
  replace HBX := hidm (HBX.out.below hb)
  clear hb K3
  cases r with
  | true =>
    go_wp2_with fail
    go_ret
    exact ⟨rfl, HBX.out.b⟩
  | false =>
  go_wp2_with fail
  go_cut [5, 6] from 15 (fun p q W => ∃ g5 g6 A8 c8 B8 d8, p = .pointer (some ⟨g5, 0, none⟩) ∧ q = .pointer (some ⟨g6, 0, none⟩) ∧ Hid (FourT w na nb A l c B m d g5 g6 A8 c8 B8 d8 W))
  case first =>
    have s0 : ∀ y : BW w1, y.1.cell? ⟨w.heap.size, 0, none⟩ = some (.int .i64 na) := bw_cell (blk_cell HBX.out.k1 0)
    have s1 : ∀ y : BW w1, y.1.cell? ⟨w.heap.size, 1, none⟩ = some (.slice A l.length c) := bw_cell (blk_cell HBX.out.k1 1)
    have s2 : ∀ y : BW w1, y.1.cell? ⟨w.heap.size + 1, 0, none⟩ = some (.int .i64 nb) := bw_cell (blk_cell HBX.out.k2 0)
    have s3 : ∀ y : BW w1, y.1.cell? ⟨w.heap.size + 1, 1, none⟩ = some (.slice B m.length d) := bw_cell (blk_cell HBX.out.k2 1)
    refine wp_region_noPanic ?_
    refine wp_region_holdX (C := fun w' => ∃ x : BW w1, w' = x.1) 6 [] [] [0, 2] [1, 3, 4, 5] (by kernel_rfl) (by kernel_rfl) (by kernel_rfl) (by kernel_rfl) (fun _ _ _ _ _ h => (h : False).elim) ⟨⟨{ w1 with drawn := w1.drawn + 1 }, ⟨rfl, rfl, rfl, Nat.le_refl _, fun _ _ => rfl⟩⟩, rfl⟩ ?_
    simp only [pickOps, Option.elim_some, List.getElem?_cons_succ, List.getElem?_cons_zero, List.drop_succ_cons, List.drop_zero]
    repeat (go_big_quiet_step (fail))
    refine wpQuiet_nil ?_
    rintro _ ⟨y, rfl⟩
    have HY : Hid (Below w1.heap.size w1 y.1) := y.2
    have HX : Hid (Below w.heap.size w y.1) := below_step HBX.out.b y.2
    clear s0 s1 s2 s3
    have HW1 : Hid (w.heap.size ≤ w1.heap.size) := HBX.out.b.size
    obtain ⟨v0, hy⟩ := y
    dsimp only at HX HY ⊢
    clear hy
    refine runX_step (crem := [1, 3, 4, 5]) (rs := [1, 4, 5]) (by kernel_rfl) ⟨?_, ?_, ?_, trivial⟩
    · refine ⟨_, rfl, rfl, .inl ⟨10, #[.agg #[.int .i64 na, .slice A l.length c]], ?_, ?_⟩⟩
      · go_simp
      refine (refTwin_any na A l c v0 (Kd.C_below HA.out.r HX.out) HA.out.cap HA.out.sm).mono ?_
      rintro e v1 ⟨v, rfl, hv, hb⟩
      obtain ⟨A8, c8, rfl, hc8, hF⟩ := twin_F hv
      refine ⟨_, rfl, ⟨⟨v1, below_step HY.out hb⟩, rfl⟩, ?_⟩
      simp only [Act.put, List.getElem_toArray, List.getElem_cons_succ, List.getElem_cons_zero, List.setIfInBounds_toArray, List.set_cons_zero, List.set_cons_succ]
      have HFA := hidm hF
      have HCA := hidm hc8
      have HSA : Hid (∀ k, (v0.heap.size ≤ k ∧ k < v1.heap.size) → k < v1.heap.size) := fun k hk => hk.2
      replace HX := hidm (below_step HX.out hb)
      replace HY := hidm (below_step HY.out hb)
      clear hv hb hc8 hF
      generalize hSA : (fun k => v0.heap.size ≤ k ∧ k < v1.heap.size) = SA at HFA
      replace HSA : Hid (∀ k, SA k → k < v1.heap.size) := by rw [← hSA]; exact hidm HSA.out
      clear hSA
      refine runX_step (crem := [3, 4, 5]) (rs := [3, 4, 5]) (by kernel_rfl) ⟨?_, ?_, ?_, trivial⟩
      · refine ⟨_, rfl, rfl, .inl ⟨10, #[.agg #[.int .i64 nb, .slice B m.length d]], ?_, ?_⟩⟩
        · go_simp
        refine (refTwin_any nb B m d v1 (Kd.C_below HB.out.r HX.out) HB.out.cap HB.out.sm).mono ?_
        rintro e v2 ⟨v, rfl, hv, hb⟩
        obtain ⟨B8, d8, rfl, hc8, hF⟩ := twin_F hv
        refine ⟨_, rfl, ⟨⟨v2, below_step HY.out hb⟩, rfl⟩, ?_⟩
        simp only [Act.put, List.getElem_toArray, List.getElem_cons_succ, List.getElem_cons_zero, List.setIfInBounds_toArray, List.set_cons_zero, List.set_cons_succ]
        have HFB := hidm hF
        have HCB := hidm hc8
        have HSB : Hid (∀ k, (v1.heap.size ≤ k ∧ k < v2.heap.size) → k < v2.heap.size) := fun k hk => hk.2
        replace HFA := hidm (Kd.F_below HFA.out hb)
        replace HSA : Hid (∀ k, SA k → k < v2.heap.size) := fun k hk => Nat.lt_of_lt_of_le (HSA.out k hk) hb.size
        replace HX := hidm (below_step HX.out hb)
        replace HY := hidm (below_step HY.out hb)
        clear hv hb hc8 hF
        generalize hSB : (fun k => v1.heap.size ≤ k ∧ k < v2.heap.size) = SB at HFB
        replace HSB : Hid (∀ k, SB k → k < v2.heap.size) := by rw [← hSB]; exact hidm HSB.out
        clear hSB
        refine runX_step (crem := [4, 5]) (rs := [4, 5]) (by kernel_rfl) ⟨?_, ?_, trivial⟩
        · refine ⟨_, rfl, rfl, .inr (.inl ⟨.pointer (some ⟨v2.heap.size, 0, none⟩), (v2.alloc (.cells #[.int .i64 0, .slice none 0 0] 27)), by go_simp, ⟨⟨_, below_alloc HY.out _⟩, rfl⟩, ?_⟩)⟩
          simp only [Act.put, List.getElem_toArray, List.getElem_cons_succ, List.getElem_cons_zero, List.setIfInBounds_toArray, List.set_cons_zero, List.set_cons_succ]
          have K5 : Hid ((v2.alloc (.cells #[.int .i64 0, .slice none 0 0] 27)).heap[v2.heap.size]? = some (.cells #[.int .i64 0, .slice none 0 0] 27 (0, 0))) := blk_new _ _
          have HL5 : Hid (v2.heap.size < (v2.alloc (.cells #[.int .i64 0, .slice none 0 0] 27)).heap.size) := blk_lt (blk_new _ _)
          have HG5 : Hid (w1.heap.size ≤ v2.heap.size) := HY.out.size
          have HNA5 : Hid (¬ SA v2.heap.size) := fun h => by have := HSA.out _ h; omega
          replace HFA := hidm (Kd.F_alloc HFA.out (.cells #[.int .i64 0, .slice none 0 0] 27))
          replace HSA : Hid (∀ k, SA k → k < (v2.alloc (.cells #[.int .i64 0, .slice none 0 0] 27)).heap.size) := fun k hk => Nat.lt_of_lt_of_le (HSA.out k hk) (below_alloc (Below.refl _ _) _).size
          have HNB5 : Hid (¬ SB v2.heap.size) := fun h => by have := HSB.out _ h; omega
          replace HFB := hidm (Kd.F_alloc HFB.out (.cells #[.int .i64 0, .slice none 0 0] 27))
          replace HSB : Hid (∀ k, SB k → k < (v2.alloc (.cells #[.int .i64 0, .slice none 0 0] 27)).heap.size) := fun k hk => Nat.lt_of_lt_of_le (HSB.out k hk) (below_alloc (Below.refl _ _) _).size
          replace HX := hidm (below_alloc HX.out (.cells #[.int .i64 0, .slice none 0 0] 27))
          replace HY := hidm (below_alloc HY.out (.cells #[.int .i64 0, .slice none 0 0] 27))
          generalize (v2.alloc (.cells #[.int .i64 0, .slice none 0 0] 27)) = v3 at K5 HL5 HX HY HFA HSA HFB HSB ⊢
          generalize v2.heap.size = g5 at K5 HL5 HG5 HNA5 HNB5 ⊢
          refine runX_step (crem := [5]) (rs := [5]) (by kernel_rfl) ⟨?_, trivial⟩
          · refine ⟨_, rfl, rfl, .inr (.inl ⟨.pointer (some ⟨v3.heap.size, 0, none⟩), (v3.alloc (.cells #[.int .i64 0, .slice none 0 0] 27)), by go_simp, ⟨⟨_, below_alloc HY.out _⟩, rfl⟩, ?_⟩)⟩
            simp only [Act.put, List.getElem_toArray, List.getElem_cons_succ, List.getElem_cons_zero, List.setIfInBounds_toArray, List.set_cons_zero, List.set_cons_succ]
            have K6 : Hid ((v3.alloc (.cells #[.int .i64 0, .slice none 0 0] 27)).heap[v3.heap.size]? = some (.cells #[.int .i64 0, .slice none 0 0] 27 (0, 0))) := blk_new _ _
            have HL6 : Hid (v3.heap.size < (v3.alloc (.cells #[.int .i64 0, .slice none 0 0] 27)).heap.size) := blk_lt (blk_new _ _)
            have HG6 : Hid (w1.heap.size ≤ v3.heap.size) := HY.out.size
            have HNA6 : Hid (¬ SA v3.heap.size) := fun h => by have := HSA.out _ h; omega
            replace HFA := hidm (Kd.F_alloc HFA.out (.cells #[.int .i64 0, .slice none 0 0] 27))
            replace HSA : Hid (∀ k, SA k → k < (v3.alloc (.cells #[.int .i64 0, .slice none 0 0] 27)).heap.size) := fun k hk => Nat.lt_of_lt_of_le (HSA.out k hk) (below_alloc (Below.refl _ _) _).size
            have HNB6 : Hid (¬ SB v3.heap.size) := fun h => by have := HSB.out _ h; omega
            replace HFB := hidm (Kd.F_alloc HFB.out (.cells #[.int .i64 0, .slice none 0 0] 27))
            replace HSB : Hid (∀ k, SB k → k < (v3.alloc (.cells #[.int .i64 0, .slice none 0 0] 27)).heap.size) := fun k hk => Nat.lt_of_lt_of_le (HSB.out k hk) (below_alloc (Below.refl _ _) _).size
            have HNE : Hid (g5 ≠ v3.heap.size) := by have := HL5.out; unfold Hid; omega
            replace HL5 : Hid (g5 < (v3.alloc (.cells #[.int .i64 0, .slice none 0 0] 27)).heap.size) := Nat.lt_of_lt_of_le HL5.out (below_alloc (Below.refl _ _) _).size
            replace K5 := hidm (blk_alloc K5.out (.cells #[.int .i64 0, .slice none 0 0] 27))
            replace HX := hidm (below_alloc HX.out (.cells #[.int .i64 0, .slice none 0 0] 27))
            replace HY := hidm (below_alloc HY.out (.cells #[.int .i64 0, .slice none 0 0] 27))
            generalize (v3.alloc (.cells #[.int .i64 0, .slice none 0 0] 27)) = v4 at K6 HL6 HX HY HFA HSA HFB HSB HL5 K5 ⊢
            generalize v3.heap.size = g6 at K6 HL6 HG6 HNA6 HNB6 HNE ⊢
            have HO0 := hidm (two_done (na := na) (nb := nb) HX.out (Nat.le_trans HW1.out HG5.out) (Nat.le_trans HW1.out HG6.out) HNE.out K5.out K6.out HFA.out HCA.out HFB.out HCB.out HNA5.out HNA6.out HNB5.out HNB6.out)
            have HNE5 : Hid (g5 ≠ g6) := HNE.out
            have HO := hidm (FourT.mk' HO0.out HBX.out (fun k hk => ((((HY.out.setCell (p := ⟨g5, 0, none⟩) HG5.out (.int .i64 na)).setCell (p := ⟨g5, 1, none⟩) HG5.out (.slice A8 l.length c8)).setCell (p := ⟨g6, 0, none⟩) HG6.out (.int .i64 nb)).setCell (p := ⟨g6, 1, none⟩) HG6.out (.slice B8 m.length d8)).block k hk))
            clear HO0 HBX HW1
            have f5 : ∀ i, v4.frozen? ⟨g5, i, none⟩ = false := blk_frozen K5.out
            have K6' := hidm (blk_far (p := ⟨g5, 1, none⟩) (blk_far (p := ⟨g5, 0, none⟩) K6.out (Ne.symm HNE5.out) (.int .i64 na)) (Ne.symm HNE5.out) (.slice A8 l.length c8))
            have q5 : v4.cell? ⟨g5, 0, none⟩ = some (.int .i64 0) := blk_cell K5.out 0
            have q6 : v4.cell? ⟨g5, 1, none⟩ = some (.slice none 0 0) := blk_cell K5.out 1
            have q7 : ((v4.setCell ⟨g5, 0, none⟩ (.int .i64 na)).setCell ⟨g5, 1, none⟩ (.slice A8 l.length c8)).cell? ⟨g6, 0, none⟩ = some (.int .i64 0) := blk_cell K6'.out 0
            have q8 : ((v4.setCell ⟨g5, 0, none⟩ (.int .i64 na)).setCell ⟨g5, 1, none⟩ (.slice A8 l.length c8)).cell? ⟨g6, 1, none⟩ = some (.slice none 0 0) := blk_cell K6'.out 1
            have f6 : ∀ i, ((v4.setCell ⟨g5, 0, none⟩ (.int .i64 na)).setCell ⟨g5, 1, none⟩ (.slice A8 l.length c8)).frozen? ⟨g6, i, none⟩ = false := blk_frozen K6'.out
            clear K5 K6 HFA HFB HCA HCB HNA5 HNA6 HNB5 HNB6 HX HY HG5 HG6 K6' HSA HSB HL5 HL6 HNE HNE5
            show wpList _ _ _ _ _ _
            go_wp2_with fail
            refine NoPanic.normal ?_
            go_wp2_with fail
            go_meet
            case rel => exact ⟨_, _, _, _, _, _, rfl, rfl, HO⟩
        · refine ⟨_, rfl, rfl, .inr (.inl ⟨.pointer (some ⟨v2.heap.size, 0, none⟩), (v2.alloc (.cells #[.int .i64 0, .slice none 0 0] 27)), by go_simp, ⟨⟨_, below_alloc HY.out _⟩, rfl⟩, ?_⟩)⟩
          simp only [Act.put, List.getElem_toArray, List.getElem_cons_succ, List.getElem_cons_zero, List.setIfInBounds_toArray, List.set_cons_zero, List.set_cons_succ]
          have K6 : Hid ((v2.alloc (.cells #[.int .i64 0, .slice none 0 0] 27)).heap[v2.heap.size]? = some (.cells #[.int .i64 0, .slice none 0 0] 27 (0, 0))) := blk_new _ _
          have HL6 : Hid (v2.heap.size < (v2.alloc (.cells #[.int .i64 0, .slice none 0 0] 27)).heap.size) := blk_lt (blk_new _ _)
          have HG6 : Hid (w1.heap.size ≤ v2.heap.size) := HY.out.size
          have HNA6 : Hid (¬ SA v2.heap.size) := fun h => by have := HSA.out _ h; omega
          replace HFA := hidm (Kd.F_alloc HFA.out (.cells #[.int .i64 0, .slice none 0 0] 27))
          replace HSA : Hid (∀ k, SA k → k < (v2.alloc (.cells #[.int .i64 0, .slice none 0 0] 27)).heap.size) := fun k hk => Nat.lt_of_lt_of_le (HSA.out k hk) (below_alloc (Below.refl _ _) _).size
          have HNB6 : Hid (¬ SB v2.heap.size) := fun h => by have := HSB.out _ h; omega
          replace HFB := hidm (Kd.F_alloc HFB.out (.cells #[.int .i64 0, .slice none 0 0] 27))
          replace HSB : Hid (∀ k, SB k → k < (v2.alloc (.cells #[.int .i64 0, .slice none 0 0] 27)).heap.size) := fun k hk => Nat.lt_of_lt_of_le (HSB.out k hk) (below_alloc (Below.refl _ _) _).size
          replace HX := hidm (below_alloc HX.out (.cells #[.int .i64 0, .slice none 0 0] 27))
          replace HY := hidm (below_alloc HY.out (.cells #[.int .i64 0, .slice none 0 0] 27))
          generalize (v2.alloc (.cells #[.int .i64 0, .slice none 0 0] 27)) = v5 at K6 HL6 HX HY HFA HSA HFB HSB ⊢
          generalize v2.heap.size = g6 at K6 HL6 HG6 HNA6 HNB6 ⊢
          refine runX_step (crem := [4]) (rs := [4]) (by kernel_rfl) ⟨?_, trivial⟩
          · refine ⟨_, rfl, rfl, .inr (.inl ⟨.pointer (some ⟨v5.heap.size, 0, none⟩), (v5.alloc (.cells #[.int .i64 0, .slice none 0 0] 27)), by go_simp, ⟨⟨_, below_alloc HY.out _⟩, rfl⟩, ?_⟩)⟩
            simp only [Act.put, List.getElem_toArray, List.getElem_cons_succ, List.getElem_cons_zero, List.setIfInBounds_toArray, List.set_cons_zero, List.set_cons_succ]
            have K5 : Hid ((v5.alloc (.cells #[.int .i64 0, .slice none 0 0] 27)).heap[v5.heap.size]? = some (.cells #[.int .i64 0, .slice none 0 0] 27 (0, 0))) := blk_new _ _
            have HL5 : Hid (v5.heap.size < (v5.alloc (.cells #[.int .i64 0, .slice none 0 0] 27)).heap.size) := blk_lt (blk_new _ _)
            have HG5 : Hid (w1.heap.size ≤ v5.heap.size) := HY.out.size
            have HNA5 : Hid (¬ SA v5.heap.size) := fun h => by have := HSA.out _ h; omega
            replace HFA := hidm (Kd.F_alloc HFA.out (.cells #[.int .i64 0, .slice none 0 0] 27))
            replace HSA : Hid (∀ k, SA k → k < (v5.alloc (.cells #[.int .i64 0, .slice none 0 0] 27)).heap.size) := fun k hk => Nat.lt_of_lt_of_le (HSA.out k hk) (below_alloc (Below.refl _ _) _).size
            have HNB5 : Hid (¬ SB v5.heap.size) := fun h => by have := HSB.out _ h; omega
            replace HFB := hidm (Kd.F_alloc HFB.out (.cells #[.int .i64 0, .slice none 0 0] 27))
            replace HSB : Hid (∀ k, SB k → k < (v5.alloc (.cells #[.int .i64 0, .slice none 0 0] 27)).heap.size) := fun k hk => Nat.lt_of_lt_of_le (HSB.out k hk) (below_alloc (Below.refl _ _) _).size
            have HNE : Hid (g6 ≠ v5.heap.size) := by have := HL6.out; unfold Hid; omega
            replace HL6 : Hid (g6 < (v5.alloc (.cells #[.int .i64 0, .slice none 0 0] 27)).heap.size) := Nat.lt_of_lt_of_le HL6.out (below_alloc (Below.refl _ _) _).size
            replace K6 := hidm (blk_alloc K6.out (.cells #[.int .i64 0, .slice none 0 0] 27))
            replace HX := hidm (below_alloc HX.out (.cells #[.int .i64 0, .slice none 0 0] 27))
            replace HY := hidm (below_alloc HY.out (.cells #[.int .i64 0, .slice none 0 0] 27))
            generalize (v5.alloc (.cells #[.int .i64 0, .slice none 0 0] 27)) = v6 at K5 HL5 HX HY HFA HSA HFB HSB HL6 K6 ⊢
            generalize v5.heap.size = g5 at K5 HL5 HG5 HNA5 HNB5 HNE ⊢
            have HO0 := hidm (two_done (na := na) (nb := nb) HX.out (Nat.le_trans HW1.out HG5.out) (Nat.le_trans HW1.out HG6.out) (fun e => HNE.out e.symm) K5.out K6.out HFA.out HCA.out HFB.out HCB.out HNA5.out HNA6.out HNB5.out HNB6.out)
            have HNE5 : Hid (g5 ≠ g6) := (fun e => HNE.out e.symm)
            have HO := hidm (FourT.mk' HO0.out HBX.out (fun k hk => ((((HY.out.setCell (p := ⟨g5, 0, none⟩) HG5.out (.int .i64 na)).setCell (p := ⟨g5, 1, none⟩) HG5.out (.slice A8 l.length c8)).setCell (p := ⟨g6, 0, none⟩) HG6.out (.int .i64 nb)).setCell (p := ⟨g6, 1, none⟩) HG6.out (.slice B8 m.length d8)).block k hk))
            clear HO0 HBX HW1
            have f5 : ∀ i, v6.frozen? ⟨g5, i, none⟩ = false := blk_frozen K5.out
            have K6' := hidm (blk_far (p := ⟨g5, 1, none⟩) (blk_far (p := ⟨g5, 0, none⟩) K6.out (Ne.symm HNE5.out) (.int .i64 na)) (Ne.symm HNE5.out) (.slice A8 l.length c8))
            have q5 : v6.cell? ⟨g5, 0, none⟩ = some (.int .i64 0) := blk_cell K5.out 0
            have q6 : v6.cell? ⟨g5, 1, none⟩ = some (.slice none 0 0) := blk_cell K5.out 1
            have q7 : ((v6.setCell ⟨g5, 0, none⟩ (.int .i64 na)).setCell ⟨g5, 1, none⟩ (.slice A8 l.length c8)).cell? ⟨g6, 0, none⟩ = some (.int .i64 0) := blk_cell K6'.out 0
            have q8 : ((v6.setCell ⟨g5, 0, none⟩ (.int .i64 na)).setCell ⟨g5, 1, none⟩ (.slice A8 l.length c8)).cell? ⟨g6, 1, none⟩ = some (.slice none 0 0) := blk_cell K6'.out 1
            have f6 : ∀ i, ((v6.setCell ⟨g5, 0, none⟩ (.int .i64 na)).setCell ⟨g5, 1, none⟩ (.slice A8 l.length c8)).frozen? ⟨g6, i, none⟩ = false := blk_frozen K6'.out
            clear K5 K6 HFA HFB HCA HCB HNA5 HNA6 HNB5 HNB6 HX HY HG5 HG6 K6' HSA HSB HL5 HL6 HNE HNE5
            show wpList _ _ _ _ _ _
            go_wp2_with fail
            refine NoPanic.normal ?_
            go_wp2_with fail
            go_meet
            case rel => exact ⟨_, _, _, _, _, _, rfl, rfl, HO⟩
      · refine ⟨_, rfl, rfl, .inr (.inl ⟨.pointer (some ⟨v1.heap.size, 0, none⟩), (v1.alloc (.cells #[.int .i64 0, .slice none 0 0] 27)), by go_simp, ⟨⟨_, below_alloc HY.out _⟩, rfl⟩, ?_⟩)⟩
        simp only [Act.put, List.getElem_toArray, List.getElem_cons_succ, List.getElem_cons_zero, List.setIfInBounds_toArray, List.set_cons_zero, List.set_cons_succ]
        have K5 : Hid ((v1.alloc (.cells #[.int .i64 0, .slice none 0 0] 27)).heap[v1.heap.size]? = some (.cells #[.int .i64 0, .slice none 0 0] 27 (0, 0))) := blk_new _ _
        have HL5 : Hid (v1.heap.size < (v1.alloc (.cells #[.int .i64 0, .slice none 0 0] 27)).heap.size) := blk_lt (blk_new _ _)
        have HG5 : Hid (w1.heap.size ≤ v1.heap.size) := HY.out.size
        have HNA5 : Hid (¬ SA v1.heap.size) := fun h => by have := HSA.out _ h; omega
        replace HFA := hidm (Kd.F_alloc HFA.out (.cells #[.int .i64 0, .slice none 0 0] 27))
        replace HSA : Hid (∀ k, SA k → k < (v1.alloc (.cells #[.int .i64 0, .slice none 0 0] 27)).heap.size) := fun k hk => Nat.lt_of_lt_of_le (HSA.out k hk) (below_alloc (Below.refl _ _) _).size
        replace HX := hidm (below_alloc HX.out (.cells #[.int .i64 0, .slice none 0 0] 27))
        replace HY := hidm (below_alloc HY.out (.cells #[.int .i64 0, .slice none 0 0] 27))
        generalize (v1.alloc (.cells #[.int .i64 0, .slice none 0 0] 27)) = v7 at K5 HL5 HX HY HFA HSA ⊢
        generalize v1.heap.size = g5 at K5 HL5 HG5 HNA5 ⊢
        refine runX_step (crem := [3, 5]) (rs := [3, 5]) (by kernel_rfl) ⟨?_, ?_, trivial⟩
        · refine ⟨_, rfl, rfl, .inl ⟨10, #[.agg #[.int .i64 nb, .slice B m.length d]], ?_, ?_⟩⟩
          · go_simp
          refine (refTwin_any nb B m d v7 (Kd.C_below HB.out.r HX.out) HB.out.cap HB.out.sm).mono ?_
          rintro e v8 ⟨v, rfl, hv, hb⟩
          obtain ⟨B8, d8, rfl, hc8, hF⟩ := twin_F hv
          refine ⟨_, rfl, ⟨⟨v8, below_step HY.out hb⟩, rfl⟩, ?_⟩
          simp only [Act.put, List.getElem_toArray, List.getElem_cons_succ, List.getElem_cons_zero, List.setIfInBounds_toArray, List.set_cons_zero, List.set_cons_succ]
          have HFB := hidm hF
          have HCB := hidm hc8
          have HSB : Hid (∀ k, (v7.heap.size ≤ k ∧ k < v8.heap.size) → k < v8.heap.size) := fun k hk => hk.2
          replace HFA := hidm (Kd.F_below HFA.out hb)
          replace HSA : Hid (∀ k, SA k → k < v8.heap.size) := fun k hk => Nat.lt_of_lt_of_le (HSA.out k hk) hb.size
          have HNB5 : Hid (¬ (v7.heap.size ≤ g5 ∧ g5 < v8.heap.size)) := by have := HL5.out; unfold Hid; omega
          replace HL5 : Hid (g5 < v8.heap.size) := Nat.lt_of_lt_of_le HL5.out hb.size
          replace K5 := hidm (blk_below K5.out hb)
          replace HX := hidm (below_step HX.out hb)
          replace HY := hidm (below_step HY.out hb)
          clear hv hb hc8 hF
          generalize hSB : (fun k => v7.heap.size ≤ k ∧ k < v8.heap.size) = SB at HFB
          replace HSB : Hid (∀ k, SB k → k < v8.heap.size) := by rw [← hSB]; exact hidm HSB.out
          replace HNB5 : Hid (¬ SB g5) := by rw [← hSB]; exact hidm HNB5.out
          clear hSB
          refine runX_step (crem := [5]) (rs := [5]) (by kernel_rfl) ⟨?_, trivial⟩
          · refine ⟨_, rfl, rfl, .inr (.inl ⟨.pointer (some ⟨v8.heap.size, 0, none⟩), (v8.alloc (.cells #[.int .i64 0, .slice none 0 0] 27)), by go_simp, ⟨⟨_, below_alloc HY.out _⟩, rfl⟩, ?_⟩)⟩
            simp only [Act.put, List.getElem_toArray, List.getElem_cons_succ, List.getElem_cons_zero, List.setIfInBounds_toArray, List.set_cons_zero, List.set_cons_succ]
            have K6 : Hid ((v8.alloc (.cells #[.int .i64 0, .slice none 0 0] 27)).heap[v8.heap.size]? = some (.cells #[.int .i64 0, .slice none 0 0] 27 (0, 0))) := blk_new _ _
            have HL6 : Hid (v8.heap.size < (v8.alloc (.cells #[.int .i64 0, .slice none 0 0] 27)).heap.size) := blk_lt (blk_new _ _)
            have HG6 : Hid (w1.heap.size ≤ v8.heap.size) := HY.out.size
            have HNA6 : Hid (¬ SA v8.heap.size) := fun h => by have := HSA.out _ h; omega
            replace HFA := hidm (Kd.F_alloc HFA.out (.cells #[.int .i64 0, .slice none 0 0] 27))
            replace HSA : Hid (∀ k, SA k → k < (v8.alloc (.cells #[.int .i64 0, .slice none 0 0] 27)).heap.size) := fun k hk => Nat.lt_of_lt_of_le (HSA.out k hk) (below_alloc (Below.refl _ _) _).size
            have HNE : Hid (g5 ≠ v8.heap.size) := by have := HL5.out; unfold Hid; omega
            replace HL5 : Hid (g5 < (v8.alloc (.cells #[.int .i64 0, .slice none 0 0] 27)).heap.size) := Nat.lt_of_lt_of_le HL5.out (below_alloc (Below.refl _ _) _).size
            replace K5 := hidm (blk_alloc K5.out (.cells #[.int .i64 0, .slice none 0 0] 27))
            have HNB6 : Hid (¬ SB v8.heap.size) := fun h => by have := HSB.out _ h; omega
            replace HFB := hidm (Kd.F_alloc HFB.out (.cells #[.int .i64 0, .slice none 0 0] 27))
            replace HSB : Hid (∀ k, SB k → k < (v8.alloc (.cells #[.int .i64 0, .slice none 0 0] 27)).heap.size) := fun k hk => Nat.lt_of_lt_of_le (HSB.out k hk) (below_alloc (Below.refl _ _) _).size
            replace HX := hidm (below_alloc HX.out (.cells #[.int .i64 0, .slice none 0 0] 27))
            replace HY := hidm (below_alloc HY.out (.cells #[.int .i64 0, .slice none 0 0] 27))
            generalize (v8.alloc (.cells #[.int .i64 0, .slice none 0 0] 27)) = v9 at K6 HL6 HX HY HFA HSA HL5 K5 HFB HSB ⊢
            generalize v8.heap.size = g6 at K6 HL6 HG6 HNA6 HNB6 HNE ⊢
            have HO0 := hidm (two_done (na := na) (nb := nb) HX.out (Nat.le_trans HW1.out HG5.out) (Nat.le_trans HW1.out HG6.out) HNE.out K5.out K6.out HFA.out HCA.out HFB.out HCB.out HNA5.out HNA6.out HNB5.out HNB6.out)
            have HNE5 : Hid (g5 ≠ g6) := HNE.out
            have HO := hidm (FourT.mk' HO0.out HBX.out (fun k hk => ((((HY.out.setCell (p := ⟨g5, 0, none⟩) HG5.out (.int .i64 na)).setCell (p := ⟨g5, 1, none⟩) HG5.out (.slice A8 l.length c8)).setCell (p := ⟨g6, 0, none⟩) HG6.out (.int .i64 nb)).setCell (p := ⟨g6, 1, none⟩) HG6.out (.slice B8 m.length d8)).block k hk))
            clear HO0 HBX HW1
            have f5 : ∀ i, v9.frozen? ⟨g5, i, none⟩ = false := blk_frozen K5.out
            have K6' := hidm (blk_far (p := ⟨g5, 1, none⟩) (blk_far (p := ⟨g5, 0, none⟩) K6.out (Ne.symm HNE5.out) (.int .i64 na)) (Ne.symm HNE5.out) (.slice A8 l.length c8))
            have q5 : v9.cell? ⟨g5, 0, none⟩ = some (.int .i64 0) := blk_cell K5.out 0
            have q6 : v9.cell? ⟨g5, 1, none⟩ = some (.slice none 0 0) := blk_cell K5.out 1
            have q7 : ((v9.setCell ⟨g5, 0, none⟩ (.int .i64 na)).setCell ⟨g5, 1, none⟩ (.slice A8 l.length c8)).cell? ⟨g6, 0, none⟩ = some (.int .i64 0) := blk_cell K6'.out 0
            have q8 : ((v9.setCell ⟨g5, 0, none⟩ (.int .i64 na)).setCell ⟨g5, 1, none⟩ (.slice A8 l.length c8)).cell? ⟨g6, 1, none⟩ = some (.slice none 0 0) := blk_cell K6'.out 1
            have f6 : ∀ i, ((v9.setCell ⟨g5, 0, none⟩ (.int .i64 na)).setCell ⟨g5, 1, none⟩ (.slice A8 l.length c8)).frozen? ⟨g6, i, none⟩ = false := blk_frozen K6'.out
            clear K5 K6 HFA HFB HCA HCB HNA5 HNA6 HNB5 HNB6 HX HY HG5 HG6 K6' HSA HSB HL5 HL6 HNE HNE5
            show wpList _ _ _ _ _ _
            go_wp2_with fail
            refine NoPanic.normal ?_
            go_wp2_with fail
            go_meet
            case rel => exact ⟨_, _, _, _, _, _, rfl, rfl, HO⟩
        · refine ⟨_, rfl, rfl, .inr (.inl ⟨.pointer (some ⟨v7.heap.size, 0, none⟩), (v7.alloc (.cells #[.int .i64 0, .slice none 0 0] 27)), by go_simp, ⟨⟨_, below_alloc HY.out _⟩, rfl⟩, ?_⟩)⟩
          simp only [Act.put, List.getElem_toArray, List.getElem_cons_succ, List.getElem_cons_zero, List.setIfInBounds_toArray, List.set_cons_zero, List.set_cons_succ]
          have K6 : Hid ((v7.alloc (.cells #[.int .i64 0, .slice none 0 0] 27)).heap[v7.heap.size]? = some (.cells #[.int .i64 0, .slice none 0 0] 27 (0, 0))) := blk_new _ _
          have HL6 : Hid (v7.heap.size < (v7.alloc (.cells #[.int .i64 0, .slice none 0 0] 27)).heap.size) := blk_lt (blk_new _ _)
          have HG6 : Hid (w1.heap.size ≤ v7.heap.size) := HY.out.size
          have HNA6 : Hid (¬ SA v7.heap.size) := fun h => by have := HSA.out _ h; omega
          replace HFA := hidm (Kd.F_alloc HFA.out (.cells #[.int .i64 0, .slice none 0 0] 27))
          replace HSA : Hid (∀ k, SA k → k < (v7.alloc (.cells #[.int .i64 0, .slice none 0 0] 27)).heap.size) := fun k hk => Nat.lt_of_lt_of_le (HSA.out k hk) (below_alloc (Below.refl _ _) _).size
          have HNE : Hid (g5 ≠ v7.heap.size) := by have := HL5.out; unfold Hid; omega
          replace HL5 : Hid (g5 < (v7.alloc (.cells #[.int .i64 0, .slice none 0 0] 27)).heap.size) := Nat.lt_of_lt_of_le HL5.out (below_alloc (Below.refl _ _) _).size
          replace K5 := hidm (blk_alloc K5.out (.cells #[.int .i64 0, .slice none 0 0] 27))
          replace HX := hidm (below_alloc HX.out (.cells #[.int .i64 0, .slice none 0 0] 27))
          replace HY := hidm (below_alloc HY.out (.cells #[.int .i64 0, .slice none 0 0] 27))
          generalize (v7.alloc (.cells #[.int .i64 0, .slice none 0 0] 27)) = v10 at K6 HL6 HX HY HFA HSA HL5 K5 ⊢
          generalize v7.heap.size = g6 at K6 HL6 HG6 HNA6 HNE ⊢
          refine runX_step (crem := [3]) (rs := [3]) (by kernel_rfl) ⟨?_, trivial⟩
          · refine ⟨_, rfl, rfl, .inl ⟨10, #[.agg #[.int .i64 nb, .slice B m.length d]], ?_, ?_⟩⟩
            · go_simp
            refine (refTwin_any nb B m d v10 (Kd.C_below HB.out.r HX.out) HB.out.cap HB.out.sm).mono ?_
            rintro e v11 ⟨v, rfl, hv, hb⟩
            obtain ⟨B8, d8, rfl, hc8, hF⟩ := twin_F hv
            refine ⟨_, rfl, ⟨⟨v11, below_step HY.out hb⟩, rfl⟩, ?_⟩
            simp only [Act.put, List.getElem_toArray, List.getElem_cons_succ, List.getElem_cons_zero, List.setIfInBounds_toArray, List.set_cons_zero, List.set_cons_succ]
            have HFB := hidm hF
            have HCB := hidm hc8
            have HSB : Hid (∀ k, (v10.heap.size ≤ k ∧ k < v11.heap.size) → k < v11.heap.size) := fun k hk => hk.2
            replace HFA := hidm (Kd.F_below HFA.out hb)
            replace HSA : Hid (∀ k, SA k → k < v11.heap.size) := fun k hk => Nat.lt_of_lt_of_le (HSA.out k hk) hb.size
            have HNB5 : Hid (¬ (v10.heap.size ≤ g5 ∧ g5 < v11.heap.size)) := by have := HL5.out; unfold Hid; omega
            replace HL5 : Hid (g5 < v11.heap.size) := Nat.lt_of_lt_of_le HL5.out hb.size
            replace K5 := hidm (blk_below K5.out hb)
            have HNB6 : Hid (¬ (v10.heap.size ≤ g6 ∧ g6 < v11.heap.size)) := by have := HL6.out; unfold Hid; omega
            replace HL6 : Hid (g6 < v11.heap.size) := Nat.lt_of_lt_of_le HL6.out hb.size
            replace K6 := hidm (blk_below K6.out hb)
            replace HX := hidm (below_step HX.out hb)
            replace HY := hidm (below_step HY.out hb)
            clear hv hb hc8 hF
            generalize hSB : (fun k => v10.heap.size ≤ k ∧ k < v11.heap.size) = SB at HFB
            replace HSB : Hid (∀ k, SB k → k < v11.heap.size) := by rw [← hSB]; exact hidm HSB.out
            replace HNB5 : Hid (¬ SB g5) := by rw [← hSB]; exact hidm HNB5.out
            replace HNB6 : Hid (¬ SB g6) := by rw [← hSB]; exact hidm HNB6.out
            clear hSB
            have HO0 := hidm (two_done (na := na) (nb := nb) HX.out (Nat.le_trans HW1.out HG5.out) (Nat.le_trans HW1.out HG6.out) HNE.out K5.out K6.out HFA.out HCA.out HFB.out HCB.out HNA5.out HNA6.out HNB5.out HNB6.out)
            have HNE5 : Hid (g5 ≠ g6) := HNE.out
            have HO := hidm (FourT.mk' HO0.out HBX.out (fun k hk => ((((HY.out.setCell (p := ⟨g5, 0, none⟩) HG5.out (.int .i64 na)).setCell (p := ⟨g5, 1, none⟩) HG5.out (.slice A8 l.length c8)).setCell (p := ⟨g6, 0, none⟩) HG6.out (.int .i64 nb)).setCell (p := ⟨g6, 1, none⟩) HG6.out (.slice B8 m.length d8)).block k hk))
            clear HO0 HBX HW1
            have f5 : ∀ i, v11.frozen? ⟨g5, i, none⟩ = false := blk_frozen K5.out
            have K6' := hidm (blk_far (p := ⟨g5, 1, none⟩) (blk_far (p := ⟨g5, 0, none⟩) K6.out (Ne.symm HNE5.out) (.int .i64 na)) (Ne.symm HNE5.out) (.slice A8 l.length c8))
            have q5 : v11.cell? ⟨g5, 0, none⟩ = some (.int .i64 0) := blk_cell K5.out 0
            have q6 : v11.cell? ⟨g5, 1, none⟩ = some (.slice none 0 0) := blk_cell K5.out 1
            have q7 : ((v11.setCell ⟨g5, 0, none⟩ (.int .i64 na)).setCell ⟨g5, 1, none⟩ (.slice A8 l.length c8)).cell? ⟨g6, 0, none⟩ = some (.int .i64 0) := blk_cell K6'.out 0
            have q8 : ((v11.setCell ⟨g5, 0, none⟩ (.int .i64 na)).setCell ⟨g5, 1, none⟩ (.slice A8 l.length c8)).cell? ⟨g6, 1, none⟩ = some (.slice none 0 0) := blk_cell K6'.out 1
            have f6 : ∀ i, ((v11.setCell ⟨g5, 0, none⟩ (.int .i64 na)).setCell ⟨g5, 1, none⟩ (.slice A8 l.length c8)).frozen? ⟨g6, i, none⟩ = false := blk_frozen K6'.out
            clear K5 K6 HFA HFB HCA HCB HNA5 HNA6 HNB5 HNB6 HX HY HG5 HG6 K6' HSA HSB HL5 HL6 HNE HNE5
            show wpList _ _ _ _ _ _
            go_wp2_with fail
            refine NoPanic.normal ?_
            go_wp2_with fail
            go_meet
            case rel => exact ⟨_, _, _, _, _, _, rfl, rfl, HO⟩
      · refine ⟨_, rfl, rfl, .inr (.inl ⟨.pointer (some ⟨v1.heap.size, 0, none⟩), (v1.alloc (.cells #[.int .i64 0, .slice none 0 0] 27)), by go_simp, ⟨⟨_, below_alloc HY.out _⟩, rfl⟩, ?_⟩)⟩
        simp only [Act.put, List.getElem_toArray, List.getElem_cons_succ, List.getElem_cons_zero, List.setIfInBounds_toArray, List.set_cons_zero, List.set_cons_succ]
        have K6 : Hid ((v1.alloc (.cells #[.int .i64 0, .slice none 0 0] 27)).heap[v1.heap.size]? = some (.cells #[.int .i64 0, .slice none 0 0] 27 (0, 0))) := blk_new _ _
        have HL6 : Hid (v1.heap.size < (v1.alloc (.cells #[.int .i64 0, .slice none 0 0] 27)).heap.size) := blk_lt (blk_new _ _)
        have HG6 : Hid (w1.heap.size ≤ v1.heap.size) := HY.out.size
        have HNA6 : Hid (¬ SA v1.heap.size) := fun h => by have := HSA.out _ h; omega
        replace HFA := hidm (Kd.F_alloc HFA.out (.cells #[.int .i64 0, .slice none 0 0] 27))
        replace HSA : Hid (∀ k, SA k → k < (v1.alloc (.cells #[.int .i64 0, .slice none 0 0] 27)).heap.size) := fun k hk => Nat.lt_of_lt_of_le (HSA.out k hk) (below_alloc (Below.refl _ _) _).size
        replace HX := hidm (below_alloc HX.out (.cells #[.int .i64 0, .slice none 0 0] 27))
        replace HY := hidm (below_alloc HY.out (.cells #[.int .i64 0, .slice none 0 0] 27))
        generalize (v1.alloc (.cells #[.int .i64 0, .slice none 0 0] 27)) = v12 at K6 HL6 HX HY HFA HSA ⊢
        generalize v1.heap.size = g6 at K6 HL6 HG6 HNA6 ⊢
        refine runX_step (crem := [3, 4]) (rs := [3, 4]) (by kernel_rfl) ⟨?_, ?_, trivial⟩
        · refine ⟨_, rfl, rfl, .inl ⟨10, #[.agg #[.int .i64 nb, .slice B m.length d]], ?_, ?_⟩⟩
          · go_simp
          refine (refTwin_any nb B m d v12 (Kd.C_below HB.out.r HX.out) HB.out.cap HB.out.sm).mono ?_
          rintro e v13 ⟨v, rfl, hv, hb⟩
          obtain ⟨B8, d8, rfl, hc8, hF⟩ := twin_F hv
          refine ⟨_, rfl, ⟨⟨v13, below_step HY.out hb⟩, rfl⟩, ?_⟩
          simp only [Act.put, List.getElem_toArray, List.getElem_cons_succ, List.getElem_cons_zero, List.setIfInBounds_toArray, List.set_cons_zero, List.set_cons_succ]
          have HFB := hidm hF
          have HCB := hidm hc8
          have HSB : Hid (∀ k, (v12.heap.size ≤ k ∧ k < v13.heap.size) → k < v13.heap.size) := fun k hk => hk.2
          replace HFA := hidm (Kd.F_below HFA.out hb)
          replace HSA : Hid (∀ k, SA k → k < v13.heap.size) := fun k hk => Nat.lt_of_lt_of_le (HSA.out k hk) hb.size
          have HNB6 : Hid (¬ (v12.heap.size ≤ g6 ∧ g6 < v13.heap.size)) := by have := HL6.out; unfold Hid; omega
          replace HL6 : Hid (g6 < v13.heap.size) := Nat.lt_of_lt_of_le HL6.out hb.size
          replace K6 := hidm (blk_below K6.out hb)
          replace HX := hidm (below_step HX.out hb)
          replace HY := hidm (below_step HY.out hb)
          clear hv hb hc8 hF
          generalize hSB : (fun k => v12.heap.size ≤ k ∧ k < v13.heap.size) = SB at HFB
          replace HSB : Hid (∀ k, SB k → k < v13.heap.size) := by rw [← hSB]; exact hidm HSB.out
          replace HNB6 : Hid (¬ SB g6) := by rw [← hSB]; exact hidm HNB6.out
          clear hSB
          refine runX_step (crem := [4]) (rs := [4]) (by kernel_rfl) ⟨?_, trivial⟩
          · refine ⟨_, rfl, rfl, .inr (.inl ⟨.pointer (some ⟨v13.heap.size, 0, none⟩), (v13.alloc (.cells #[.int .i64 0, .slice none 0 0] 27)), by go_simp, ⟨⟨_, below_alloc HY.out _⟩, rfl⟩, ?_⟩)⟩
            simp only [Act.put, List.getElem_toArray, List.getElem_cons_succ, List.getElem_cons_zero, List.setIfInBounds_toArray, List.set_cons_zero, List.set_cons_succ]
            have K5 : Hid ((v13.alloc (.cells #[.int .i64 0, .slice none 0 0] 27)).heap[v13.heap.size]? = some (.cells #[.int .i64 0, .slice none 0 0] 27 (0, 0))) := blk_new _ _
            have HL5 : Hid (v13.heap.size < (v13.alloc (.cells #[.int .i64 0, .slice none 0 0] 27)).heap.size) := blk_lt (blk_new _ _)
            have HG5 : Hid (w1.heap.size ≤ v13.heap.size) := HY.out.size
            have HNA5 : Hid (¬ SA v13.heap.size) := fun h => by have := HSA.out _ h; omega
            replace HFA := hidm (Kd.F_alloc HFA.out (.cells #[.int .i64 0, .slice none 0 0] 27))
            replace HSA : Hid (∀ k, SA k → k < (v13.alloc (.cells #[.int .i64 0, .slice none 0 0] 27)).heap.size) := fun k hk => Nat.lt_of_lt_of_le (HSA.out k hk) (below_alloc (Below.refl _ _) _).size
            have HNE : Hid (g6 ≠ v13.heap.size) := by have := HL6.out; unfold Hid; omega
            replace HL6 : Hid (g6 < (v13.alloc (.cells #[.int .i64 0, .slice none 0 0] 27)).heap.size) := Nat.lt_of_lt_of_le HL6.out (below_alloc (Below.refl _ _) _).size
            replace K6 := hidm (blk_alloc K6.out (.cells #[.int .i64 0, .slice none 0 0] 27))
            have HNB5 : Hid (¬ SB v13.heap.size) := fun h => by have := HSB.out _ h; omega
            replace HFB := hidm (Kd.F_alloc HFB.out (.cells #[.int .i64 0, .slice none 0 0] 27))
            replace HSB : Hid (∀ k, SB k → k < (v13.alloc (.cells #[.int .i64 0, .slice none 0 0] 27)).heap.size) := fun k hk => Nat.lt_of_lt_of_le (HSB.out k hk) (below_alloc (Below.refl _ _) _).size
            replace HX := hidm (below_alloc HX.out (.cells #[.int .i64 0, .slice none 0 0] 27))
            replace HY := hidm (below_alloc HY.out (.cells #[.int .i64 0, .slice none 0 0] 27))
            generalize (v13.alloc (.cells #[.int .i64 0, .slice none 0 0] 27)) = v14 at K5 HL5 HX HY HFA HSA HL6 K6 HFB HSB ⊢
            generalize v13.heap.size = g5 at K5 HL5 HG5 HNA5 HNB5 HNE ⊢
            have HO0 := hidm (two_done (na := na) (nb := nb) HX.out (Nat.le_trans HW1.out HG5.out) (Nat.le_trans HW1.out HG6.out) (fun e => HNE.out e.symm) K5.out K6.out HFA.out HCA.out HFB.out HCB.out HNA5.out HNA6.out HNB5.out HNB6.out)
            have HNE5 : Hid (g5 ≠ g6) := (fun e => HNE.out e.symm)
            have HO := hidm (FourT.mk' HO0.out HBX.out (fun k hk => ((((HY.out.setCell (p := ⟨g5, 0, none⟩) HG5.out (.int .i64 na)).setCell (p := ⟨g5, 1, none⟩) HG5.out (.slice A8 l.length c8)).setCell (p := ⟨g6, 0, none⟩) HG6.out (.int .i64 nb)).setCell (p := ⟨g6, 1, none⟩) HG6.out (.slice B8 m.length d8)).block k hk))
            clear HO0 HBX HW1
            have f5 : ∀ i, v14.frozen? ⟨g5, i, none⟩ = false := blk_frozen K5.out
            have K6' := hidm (blk_far (p := ⟨g5, 1, none⟩) (blk_far (p := ⟨g5, 0, none⟩) K6.out (Ne.symm HNE5.out) (.int .i64 na)) (Ne.symm HNE5.out) (.slice A8 l.length c8))
            have q5 : v14.cell? ⟨g5, 0, none⟩ = some (.int .i64 0) := blk_cell K5.out 0
            have q6 : v14.cell? ⟨g5, 1, none⟩ = some (.slice none 0 0) := blk_cell K5.out 1
            have q7 : ((v14.setCell ⟨g5, 0, none⟩ (.int .i64 na)).setCell ⟨g5, 1, none⟩ (.slice A8 l.length c8)).cell? ⟨g6, 0, none⟩ = some (.int .i64 0) := blk_cell K6'.out 0
            have q8 : ((v14.setCell ⟨g5, 0, none⟩ (.int .i64 na)).setCell ⟨g5, 1, none⟩ (.slice A8 l.length c8)).cell? ⟨g6, 1, none⟩ = some (.slice none 0 0) := blk_cell K6'.out 1
            have f6 : ∀ i, ((v14.setCell ⟨g5, 0, none⟩ (.int .i64 na)).setCell ⟨g5, 1, none⟩ (.slice A8 l.length c8)).frozen? ⟨g6, i, none⟩ = false := blk_frozen K6'.out
            clear K5 K6 HFA HFB HCA HCB HNA5 HNA6 HNB5 HNB6 HX HY HG5 HG6 K6' HSA HSB HL5 HL6 HNE HNE5
            show wpList _ _ _ _ _ _
            go_wp2_with fail
            refine NoPanic.normal ?_
            go_wp2_with fail
            go_meet
            case rel => exact ⟨_, _, _, _, _, _, rfl, rfl, HO⟩
        · refine ⟨_, rfl, rfl, .inr (.inl ⟨.pointer (some ⟨v12.heap.size, 0, none⟩), (v12.alloc (.cells #[.int .i64 0, .slice none 0 0] 27)), by go_simp, ⟨⟨_, below_alloc HY.out _⟩, rfl⟩, ?_⟩)⟩
          simp only [Act.put, List.getElem_toArray, List.getElem_cons_succ, List.getElem_cons_zero, List.setIfInBounds_toArray, List.set_cons_zero, List.set_cons_succ]
          have K5 : Hid ((v12.alloc (.cells #[.int .i64 0, .slice none 0 0] 27)).heap[v12.heap.size]? = some (.cells #[.int .i64 0, .slice none 0 0] 27 (0, 0))) := blk_new _ _
          have HL5 : Hid (v12.heap.size < (v12.alloc (.cells #[.int .i64 0, .slice none 0 0] 27)).heap.size) := blk_lt (blk_new _ _)
          have HG5 : Hid (w1.heap.size ≤ v12.heap.size) := HY.out.size
          have HNA5 : Hid (¬ SA v12.heap.size) := fun h => by have := HSA.out _ h; omega
          replace HFA := hidm (Kd.F_alloc HFA.out (.cells #[.int .i64 0, .slice none 0 0] 27))
          replace HSA : Hid (∀ k, SA k → k < (v12.alloc (.cells #[.int .i64 0, .slice none 0 0] 27)).heap.size) := fun k hk => Nat.lt_of_lt_of_le (HSA.out k hk) (below_alloc (Below.refl _ _) _).size
          have HNE : Hid (g6 ≠ v12.heap.size) := by have := HL6.out; unfold Hid; omega
          replace HL6 : Hid (g6 < (v12.alloc (.cells #[.int .i64 0, .slice none 0 0] 27)).heap.size) := Nat.lt_of_lt_of_le HL6.out (below_alloc (Below.refl _ _) _).size
          replace K6 := hidm (blk_alloc K6.out (.cells #[.int .i64 0, .slice none 0 0] 27))
          replace HX := hidm (below_alloc HX.out (.cells #[.int .i64 0, .slice none 0 0] 27))
          replace HY := hidm (below_alloc HY.out (.cells #[.int .i64 0, .slice none 0 0] 27))
          generalize (v12.alloc (.cells #[.int .i64 0, .slice none 0 0] 27)) = v15 at K5 HL5 HX HY HFA HSA HL6 K6 ⊢
          generalize v12.heap.size = g5 at K5 HL5 HG5 HNA5 HNE ⊢
          refine runX_step (crem := [3]) (rs := [3]) (by kernel_rfl) ⟨?_, trivial⟩
          · refine ⟨_, rfl, rfl, .inl ⟨10, #[.agg #[.int .i64 nb, .slice B m.length d]], ?_, ?_⟩⟩
            · go_simp
            refine (refTwin_any nb B m d v15 (Kd.C_below HB.out.r HX.out) HB.out.cap HB.out.sm).mono ?_
            rintro e v16 ⟨v, rfl, hv, hb⟩
            obtain ⟨B8, d8, rfl, hc8, hF⟩ := twin_F hv
            refine ⟨_, rfl, ⟨⟨v16, below_step HY.out hb⟩, rfl⟩, ?_⟩
            simp only [Act.put, List.getElem_toArray, List.getElem_cons_succ, List.getElem_cons_zero, List.setIfInBounds_toArray, List.set_cons_zero, List.set_cons_succ]
            have HFB := hidm hF
            have HCB := hidm hc8
            have HSB : Hid (∀ k, (v15.heap.size ≤ k ∧ k < v16.heap.size) → k < v16.heap.size) := fun k hk => hk.2
            replace HFA := hidm (Kd.F_below HFA.out hb)
            replace HSA : Hid (∀ k, SA k → k < v16.heap.size) := fun k hk => Nat.lt_of_lt_of_le (HSA.out k hk) hb.size
            have HNB6 : Hid (¬ (v15.heap.size ≤ g6 ∧ g6 < v16.heap.size)) := by have := HL6.out; unfold Hid; omega
            replace HL6 : Hid (g6 < v16.heap.size) := Nat.lt_of_lt_of_le HL6.out hb.size
            replace K6 := hidm (blk_below K6.out hb)
            have HNB5 : Hid (¬ (v15.heap.size ≤ g5 ∧ g5 < v16.heap.size)) := by have := HL5.out; unfold Hid; omega
            replace HL5 : Hid (g5 < v16.heap.size) := Nat.lt_of_lt_of_le HL5.out hb.size
            replace K5 := hidm (blk_below K5.out hb)
            replace HX := hidm (below_step HX.out hb)
            replace HY := hidm (below_step HY.out hb)
            clear hv hb hc8 hF
            generalize hSB : (fun k => v15.heap.size ≤ k ∧ k < v16.heap.size) = SB at HFB
            replace HSB : Hid (∀ k, SB k → k < v16.heap.size) := by rw [← hSB]; exact hidm HSB.out
            replace HNB6 : Hid (¬ SB g6) := by rw [← hSB]; exact hidm HNB6.out
            replace HNB5 : Hid (¬ SB g5) := by rw [← hSB]; exact hidm HNB5.out
            clear hSB
            have HO0 := hidm (two_done (na := na) (nb := nb) HX.out (Nat.le_trans HW1.out HG5.out) (Nat.le_trans HW1.out HG6.out) (fun e => HNE.out e.symm) K5.out K6.out HFA.out HCA.out HFB.out HCB.out HNA5.out HNA6.out HNB5.out HNB6.out)
            have HNE5 : Hid (g5 ≠ g6) := (fun e => HNE.out e.symm)
            have HO := hidm (FourT.mk' HO0.out HBX.out (fun k hk => ((((HY.out.setCell (p := ⟨g5, 0, none⟩) HG5.out (.int .i64 na)).setCell (p := ⟨g5, 1, none⟩) HG5.out (.slice A8 l.length c8)).setCell (p := ⟨g6, 0, none⟩) HG6.out (.int .i64 nb)).setCell (p := ⟨g6, 1, none⟩) HG6.out (.slice B8 m.length d8)).block k hk))
            clear HO0 HBX HW1
            have f5 : ∀ i, v16.frozen? ⟨g5, i, none⟩ = false := blk_frozen K5.out
            have K6' := hidm (blk_far (p := ⟨g5, 1, none⟩) (blk_far (p := ⟨g5, 0, none⟩) K6.out (Ne.symm HNE5.out) (.int .i64 na)) (Ne.symm HNE5.out) (.slice A8 l.length c8))
            have q5 : v16.cell? ⟨g5, 0, none⟩ = some (.int .i64 0) := blk_cell K5.out 0
            have q6 : v16.cell? ⟨g5, 1, none⟩ = some (.slice none 0 0) := blk_cell K5.out 1
            have q7 : ((v16.setCell ⟨g5, 0, none⟩ (.int .i64 na)).setCell ⟨g5, 1, none⟩ (.slice A8 l.length c8)).cell? ⟨g6, 0, none⟩ = some (.int .i64 0) := blk_cell K6'.out 0
            have q8 : ((v16.setCell ⟨g5, 0, none⟩ (.int .i64 na)).setCell ⟨g5, 1, none⟩ (.slice A8 l.length c8)).cell? ⟨g6, 1, none⟩ = some (.slice none 0 0) := blk_cell K6'.out 1
            have f6 : ∀ i, ((v16.setCell ⟨g5, 0, none⟩ (.int .i64 na)).setCell ⟨g5, 1, none⟩ (.slice A8 l.length c8)).frozen? ⟨g6, i, none⟩ = false := blk_frozen K6'.out
            clear K5 K6 HFA HFB HCA HCB HNA5 HNA6 HNB5 HNB6 HX HY HG5 HG6 K6' HSA HSB HL5 HL6 HNE HNE5
            show wpList _ _ _ _ _ _
            go_wp2_with fail
            refine NoPanic.normal ?_
            go_wp2_with fail
            go_meet
            case rel => exact ⟨_, _, _, _, _, _, rfl, rfl, HO⟩
    · refine ⟨_, rfl, rfl, .inr (.inl ⟨.pointer (some ⟨v0.heap.size, 0, none⟩), (v0.alloc (.cells #[.int .i64 0, .slice none 0 0] 27)), by go_simp, ⟨⟨_, below_alloc HY.out _⟩, rfl⟩, ?_⟩)⟩
      simp only [Act.put, List.getElem_toArray, List.getElem_cons_succ, List.getElem_cons_zero, List.setIfInBounds_toArray, List.set_cons_zero, List.set_cons_succ]
      have K5 : Hid ((v0.alloc (.cells #[.int .i64 0, .slice none 0 0] 27)).heap[v0.heap.size]? = some (.cells #[.int .i64 0, .slice none 0 0] 27 (0, 0))) := blk_new _ _
      have HL5 : Hid (v0.heap.size < (v0.alloc (.cells #[.int .i64 0, .slice none 0 0] 27)).heap.size) := blk_lt (blk_new _ _)
      have HG5 : Hid (w1.heap.size ≤ v0.heap.size) := HY.out.size
      replace HX := hidm (below_alloc HX.out (.cells #[.int .i64 0, .slice none 0 0] 27))
      replace HY := hidm (below_alloc HY.out (.cells #[.int .i64 0, .slice none 0 0] 27))
      generalize (v0.alloc (.cells #[.int .i64 0, .slice none 0 0] 27)) = v17 at K5 HL5 HX HY ⊢
      generalize v0.heap.size = g5 at K5 HL5 HG5 ⊢
      refine runX_step (crem := [1, 3, 5]) (rs := [1, 5]) (by kernel_rfl) ⟨?_, ?_, trivial⟩
      · refine ⟨_, rfl, rfl, .inl ⟨10, #[.agg #[.int .i64 na, .slice A l.length c]], ?_, ?_⟩⟩
        · go_simp
        refine (refTwin_any na A l c v17 (Kd.C_below HA.out.r HX.out) HA.out.cap HA.out.sm).mono ?_
        rintro e v18 ⟨v, rfl, hv, hb⟩
        obtain ⟨A8, c8, rfl, hc8, hF⟩ := twin_F hv
        refine ⟨_, rfl, ⟨⟨v18, below_step HY.out hb⟩, rfl⟩, ?_⟩
        simp only [Act.put, List.getElem_toArray, List.getElem_cons_succ, List.getElem_cons_zero, List.setIfInBounds_toArray, List.set_cons_zero, List.set_cons_succ]
        have HFA := hidm hF
        have HCA := hidm hc8
        have HSA : Hid (∀ k, (v17.heap.size ≤ k ∧ k < v18.heap.size) → k < v18.heap.size) := fun k hk => hk.2
        have HNA5 : Hid (¬ (v17.heap.size ≤ g5 ∧ g5 < v18.heap.size)) := by have := HL5.out; unfold Hid; omega
        replace HL5 : Hid (g5 < v18.heap.size) := Nat.lt_of_lt_of_le HL5.out hb.size
        replace K5 := hidm (blk_below K5.out hb)
        replace HX := hidm (below_step HX.out hb)
        replace HY := hidm (below_step HY.out hb)
        clear hv hb hc8 hF
        generalize hSA : (fun k => v17.heap.size ≤ k ∧ k < v18.heap.size) = SA at HFA
        replace HSA : Hid (∀ k, SA k → k < v18.heap.size) := by rw [← hSA]; exact hidm HSA.out
        replace HNA5 : Hid (¬ SA g5) := by rw [← hSA]; exact hidm HNA5.out
        clear hSA
        refine runX_step (crem := [3, 5]) (rs := [3, 5]) (by kernel_rfl) ⟨?_, ?_, trivial⟩
        · refine ⟨_, rfl, rfl, .inl ⟨10, #[.agg #[.int .i64 nb, .slice B m.length d]], ?_, ?_⟩⟩
          · go_simp
          refine (refTwin_any nb B m d v18 (Kd.C_below HB.out.r HX.out) HB.out.cap HB.out.sm).mono ?_
          rintro e v19 ⟨v, rfl, hv, hb⟩
          obtain ⟨B8, d8, rfl, hc8, hF⟩ := twin_F hv
          refine ⟨_, rfl, ⟨⟨v19, below_step HY.out hb⟩, rfl⟩, ?_⟩
          simp only [Act.put, List.getElem_toArray, List.getElem_cons_succ, List.getElem_cons_zero, List.setIfInBounds_toArray, List.set_cons_zero, List.set_cons_succ]
          have HFB := hidm hF
          have HCB := hidm hc8
          have HSB : Hid (∀ k, (v18.heap.size ≤ k ∧ k < v19.heap.size) → k < v19.heap.size) := fun k hk => hk.2
          have HNB5 : Hid (¬ (v18.heap.size ≤ g5 ∧ g5 < v19.heap.size)) := by have := HL5.out; unfold Hid; omega
          replace HL5 : Hid (g5 < v19.heap.size) := Nat.lt_of_lt_of_le HL5.out hb.size
          replace K5 := hidm (blk_below K5.out hb)
          replace HFA := hidm (Kd.F_below HFA.out hb)
          replace HSA : Hid (∀ k, SA k → k < v19.heap.size) := fun k hk => Nat.lt_of_lt_of_le (HSA.out k hk) hb.size
          replace HX := hidm (below_step HX.out hb)
          replace HY := hidm (below_step HY.out hb)
          clear hv hb hc8 hF
          generalize hSB : (fun k => v18.heap.size ≤ k ∧ k < v19.heap.size) = SB at HFB
          replace HSB : Hid (∀ k, SB k → k < v19.heap.size) := by rw [← hSB]; exact hidm HSB.out
          replace HNB5 : Hid (¬ SB g5) := by rw [← hSB]; exact hidm HNB5.out
          clear hSB
          refine runX_step (crem := [5]) (rs := [5]) (by kernel_rfl) ⟨?_, trivial⟩
          · refine ⟨_, rfl, rfl, .inr (.inl ⟨.pointer (some ⟨v19.heap.size, 0, none⟩), (v19.alloc (.cells #[.int .i64 0, .slice none 0 0] 27)), by go_simp, ⟨⟨_, below_alloc HY.out _⟩, rfl⟩, ?_⟩)⟩
            simp only [Act.put, List.getElem_toArray, List.getElem_cons_succ, List.getElem_cons_zero, List.setIfInBounds_toArray, List.set_cons_zero, List.set_cons_succ]
            have K6 : Hid ((v19.alloc (.cells #[.int .i64 0, .slice none 0 0] 27)).heap[v19.heap.size]? = some (.cells #[.int .i64 0, .slice none 0 0] 27 (0, 0))) := blk_new _ _
            have HL6 : Hid (v19.heap.size < (v19.alloc (.cells #[.int .i64 0, .slice none 0 0] 27)).heap.size) := blk_lt (blk_new _ _)
            have HG6 : Hid (w1.heap.size ≤ v19.heap.size) := HY.out.size
            have HNE : Hid (g5 ≠ v19.heap.size) := by have := HL5.out; unfold Hid; omega
            replace HL5 : Hid (g5 < (v19.alloc (.cells #[.int .i64 0, .slice none 0 0] 27)).heap.size) := Nat.lt_of_lt_of_le HL5.out (below_alloc (Below.refl _ _) _).size
            replace K5 := hidm (blk_alloc K5.out (.cells #[.int .i64 0, .slice none 0 0] 27))
            have HNA6 : Hid (¬ SA v19.heap.size) := fun h => by have := HSA.out _ h; omega
            replace HFA := hidm (Kd.F_alloc HFA.out (.cells #[.int .i64 0, .slice none 0 0] 27))
            replace HSA : Hid (∀ k, SA k → k < (v19.alloc (.cells #[.int .i64 0, .slice none 0 0] 27)).heap.size) := fun k hk => Nat.lt_of_lt_of_le (HSA.out k hk) (below_alloc (Below.refl _ _) _).size
            have HNB6 : Hid (¬ SB v19.heap.size) := fun h => by have := HSB.out _ h; omega
            replace HFB := hidm (Kd.F_alloc HFB.out (.cells #[.int .i64 0, .slice none 0 0] 27))
            replace HSB : Hid (∀ k, SB k → k < (v19.alloc (.cells #[.int .i64 0, .slice none 0 0] 27)).heap.size) := fun k hk => Nat.lt_of_lt_of_le (HSB.out k hk) (below_alloc (Below.refl _ _) _).size
            replace HX := hidm (below_alloc HX.out (.cells #[.int .i64 0, .slice none 0 0] 27))
            replace HY := hidm (below_alloc HY.out (.cells #[.int .i64 0, .slice none 0 0] 27))
            generalize (v19.alloc (.cells #[.int .i64 0, .slice none 0 0] 27)) = v20 at K6 HL6 HX HY HL5 K5 HFA HSA HFB HSB ⊢
            generalize v19.heap.size = g6 at K6 HL6 HG6 HNA6 HNB6 HNE ⊢
            have HO0 := hidm (two_done (na := na) (nb := nb) HX.out (Nat.le_trans HW1.out HG5.out) (Nat.le_trans HW1.out HG6.out) HNE.out K5.out K6.out HFA.out HCA.out HFB.out HCB.out HNA5.out HNA6.out HNB5.out HNB6.out)
            have HNE5 : Hid (g5 ≠ g6) := HNE.out
            have HO := hidm (FourT.mk' HO0.out HBX.out (fun k hk => ((((HY.out.setCell (p := ⟨g5, 0, none⟩) HG5.out (.int .i64 na)).setCell (p := ⟨g5, 1, none⟩) HG5.out (.slice A8 l.length c8)).setCell (p := ⟨g6, 0, none⟩) HG6.out (.int .i64 nb)).setCell (p := ⟨g6, 1, none⟩) HG6.out (.slice B8 m.length d8)).block k hk))
            clear HO0 HBX HW1
            have f5 : ∀ i, v20.frozen? ⟨g5, i, none⟩ = false := blk_frozen K5.out
            have K6' := hidm (blk_far (p := ⟨g5, 1, none⟩) (blk_far (p := ⟨g5, 0, none⟩) K6.out (Ne.symm HNE5.out) (.int .i64 na)) (Ne.symm HNE5.out) (.slice A8 l.length c8))
            have q5 : v20.cell? ⟨g5, 0, none⟩ = some (.int .i64 0) := blk_cell K5.out 0
            have q6 : v20.cell? ⟨g5, 1, none⟩ = some (.slice none 0 0) := blk_cell K5.out 1
            have q7 : ((v20.setCell ⟨g5, 0, none⟩ (.int .i64 na)).setCell ⟨g5, 1, none⟩ (.slice A8 l.length c8)).cell? ⟨g6, 0, none⟩ = some (.int .i64 0) := blk_cell K6'.out 0
            have q8 : ((v20.setCell ⟨g5, 0, none⟩ (.int .i64 na)).setCell ⟨g5, 1, none⟩ (.slice A8 l.length c8)).cell? ⟨g6, 1, none⟩ = some (.slice none 0 0) := blk_cell K6'.out 1
            have f6 : ∀ i, ((v20.setCell ⟨g5, 0, none⟩ (.int .i64 na)).setCell ⟨g5, 1, none⟩ (.slice A8 l.length c8)).frozen? ⟨g6, i, none⟩ = false := blk_frozen K6'.out
            clear K5 K6 HFA HFB HCA HCB HNA5 HNA6 HNB5 HNB6 HX HY HG5 HG6 K6' HSA HSB HL5 HL6 HNE HNE5
            show wpList _ _ _ _ _ _
            go_wp2_with fail
            refine NoPanic.normal ?_
            go_wp2_with fail
            go_meet
            case rel => exact ⟨_, _, _, _, _, _, rfl, rfl, HO⟩
        · refine ⟨_, rfl, rfl, .inr (.inl ⟨.pointer (some ⟨v18.heap.size, 0, none⟩), (v18.alloc (.cells #[.int .i64 0, .slice none 0 0] 27)), by go_simp, ⟨⟨_, below_alloc HY.out _⟩, rfl⟩, ?_⟩)⟩
          simp only [Act.put, List.getElem_toArray, List.getElem_cons_succ, List.getElem_cons_zero, List.setIfInBounds_toArray, List.set_cons_zero, List.set_cons_succ]
          have K6 : Hid ((v18.alloc (.cells #[.int .i64 0, .slice none 0 0] 27)).heap[v18.heap.size]? = some (.cells #[.int .i64 0, .slice none 0 0] 27 (0, 0))) := blk_new _ _
          have HL6 : Hid (v18.heap.size < (v18.alloc (.cells #[.int .i64 0, .slice none 0 0] 27)).heap.size) := blk_lt (blk_new _ _)
          have HG6 : Hid (w1.heap.size ≤ v18.heap.size) := HY.out.size
          have HNE : Hid (g5 ≠ v18.heap.size) := by have := HL5.out; unfold Hid; omega
          replace HL5 : Hid (g5 < (v18.alloc (.cells #[.int .i64 0, .slice none 0 0] 27)).heap.size) := Nat.lt_of_lt_of_le HL5.out (below_alloc (Below.refl _ _) _).size
          replace K5 := hidm (blk_alloc K5.out (.cells #[.int .i64 0, .slice none 0 0] 27))
          have HNA6 : Hid (¬ SA v18.heap.size) := fun h => by have := HSA.out _ h; omega
          replace HFA := hidm (Kd.F_alloc HFA.out (.cells #[.int .i64 0, .slice none 0 0] 27))
          replace HSA : Hid (∀ k, SA k → k < (v18.alloc (.cells #[.int .i64 0, .slice none 0 0] 27)).heap.size) := fun k hk => Nat.lt_of_lt_of_le (HSA.out k hk) (below_alloc (Below.refl _ _) _).size
          replace HX := hidm (below_alloc HX.out (.cells #[.int .i64 0, .slice none 0 0] 27))
          replace HY := hidm (below_alloc HY.out (.cells #[.int .i64 0, .slice none 0 0] 27))
          generalize (v18.alloc (.cells #[.int .i64 0, .slice none 0 0] 27)) = v21 at K6 HL6 HX HY HL5 K5 HFA HSA ⊢
          generalize v18.heap.size = g6 at K6 HL6 HG6 HNA6 HNE ⊢
          refine runX_step (crem := [3]) (rs := [3]) (by kernel_rfl) ⟨?_, trivial⟩
          · refine ⟨_, rfl, rfl, .inl ⟨10, #[.agg #[.int .i64 nb, .slice B m.length d]], ?_, ?_⟩⟩
            · go_simp
            refine (refTwin_any nb B m d v21 (Kd.C_below HB.out.r HX.out) HB.out.cap HB.out.sm).mono ?_
            rintro e v22 ⟨v, rfl, hv, hb⟩
            obtain ⟨B8, d8, rfl, hc8, hF⟩ := twin_F hv
            refine ⟨_, rfl, ⟨⟨v22, below_step HY.out hb⟩, rfl⟩, ?_⟩
            simp only [Act.put, List.getElem_toArray, List.getElem_cons_succ, List.getElem_cons_zero, List.setIfInBounds_toArray, List.set_cons_zero, List.set_cons_succ]
            have HFB := hidm hF
            have HCB := hidm hc8
            have HSB : Hid (∀ k, (v21.heap.size ≤ k ∧ k < v22.heap.size) → k < v22.heap.size) := fun k hk => hk.2
            have HNB5 : Hid (¬ (v21.heap.size ≤ g5 ∧ g5 < v22.heap.size)) := by have := HL5.out; unfold Hid; omega
            replace HL5 : Hid (g5 < v22.heap.size) := Nat.lt_of_lt_of_le HL5.out hb.size
            replace K5 := hidm (blk_below K5.out hb)
            replace HFA := hidm (Kd.F_below HFA.out hb)
            replace HSA : Hid (∀ k, SA k → k < v22.heap.size) := fun k hk => Nat.lt_of_lt_of_le (HSA.out k hk) hb.size
            have HNB6 : Hid (¬ (v21.heap.size ≤ g6 ∧ g6 < v22.heap.size)) := by have := HL6.out; unfold Hid; omega
            replace HL6 : Hid (g6 < v22.heap.size) := Nat.lt_of_lt_of_le HL6.out hb.size
            replace K6 := hidm (blk_below K6.out hb)
            replace HX := hidm (below_step HX.out hb)
            replace HY := hidm (below_step HY.out hb)
            clear hv hb hc8 hF
            generalize hSB : (fun k => v21.heap.size ≤ k ∧ k < v22.heap.size) = SB at HFB
            replace HSB : Hid (∀ k, SB k → k < v22.heap.size) := by rw [← hSB]; exact hidm HSB.out
            replace HNB5 : Hid (¬ SB g5) := by rw [← hSB]; exact hidm HNB5.out
            replace HNB6 : Hid (¬ SB g6) := by rw [← hSB]; exact hidm HNB6.out
            clear hSB
            have HO0 := hidm (two_done (na := na) (nb := nb) HX.out (Nat.le_trans HW1.out HG5.out) (Nat.le_trans HW1.out HG6.out) HNE.out K5.out K6.out HFA.out HCA.out HFB.out HCB.out HNA5.out HNA6.out HNB5.out HNB6.out)
            have HNE5 : Hid (g5 ≠ g6) := HNE.out
            have HO := hidm (FourT.mk' HO0.out HBX.out (fun k hk => ((((HY.out.setCell (p := ⟨g5, 0, none⟩) HG5.out (.int .i64 na)).setCell (p := ⟨g5, 1, none⟩) HG5.out (.slice A8 l.length c8)).setCell (p := ⟨g6, 0, none⟩) HG6.out (.int .i64 nb)).setCell (p := ⟨g6, 1, none⟩) HG6.out (.slice B8 m.length d8)).block k hk))
            clear HO0 HBX HW1
            have f5 : ∀ i, v22.frozen? ⟨g5, i, none⟩ = false := blk_frozen K5.out
            have K6' := hidm (blk_far (p := ⟨g5, 1, none⟩) (blk_far (p := ⟨g5, 0, none⟩) K6.out (Ne.symm HNE5.out) (.int .i64 na)) (Ne.symm HNE5.out) (.slice A8 l.length c8))
            have q5 : v22.cell? ⟨g5, 0, none⟩ = some (.int .i64 0) := blk_cell K5.out 0
            have q6 : v22.cell? ⟨g5, 1, none⟩ = some (.slice none 0 0) := blk_cell K5.out 1
            have q7 : ((v22.setCell ⟨g5, 0, none⟩ (.int .i64 na)).setCell ⟨g5, 1, none⟩ (.slice A8 l.length c8)).cell? ⟨g6, 0, none⟩ = some (.int .i64 0) := blk_cell K6'.out 0
            have q8 : ((v22.setCell ⟨g5, 0, none⟩ (.int .i64 na)).setCell ⟨g5, 1, none⟩ (.slice A8 l.length c8)).cell? ⟨g6, 1, none⟩ = some (.slice none 0 0) := blk_cell K6'.out 1
            have f6 : ∀ i, ((v22.setCell ⟨g5, 0, none⟩ (.int .i64 na)).setCell ⟨g5, 1, none⟩ (.slice A8 l.length c8)).frozen? ⟨g6, i, none⟩ = false := blk_frozen K6'.out
            clear K5 K6 HFA HFB HCA HCB HNA5 HNA6 HNB5 HNB6 HX HY HG5 HG6 K6' HSA HSB HL5 HL6 HNE HNE5
            show wpList _ _ _ _ _ _
            go_wp2_with fail
            refine NoPanic.normal ?_
            go_wp2_with fail
            go_meet
            case rel => exact ⟨_, _, _, _, _, _, rfl, rfl, HO⟩
      · refine ⟨_, rfl, rfl, .inr (.inl ⟨.pointer (some ⟨v17.heap.size, 0, none⟩), (v17.alloc (.cells #[.int .i64 0, .slice none 0 0] 27)), by go_simp, ⟨⟨_, below_alloc HY.out _⟩, rfl⟩, ?_⟩)⟩
        simp only [Act.put, List.getElem_toArray, List.getElem_cons_succ, List.getElem_cons_zero, List.setIfInBounds_toArray, List.set_cons_zero, List.set_cons_succ]
        have K6 : Hid ((v17.alloc (.cells #[.int .i64 0, .slice none 0 0] 27)).heap[v17.heap.size]? = some (.cells #[.int .i64 0, .slice none 0 0] 27 (0, 0))) := blk_new _ _
        have HL6 : Hid (v17.heap.size < (v17.alloc (.cells #[.int .i64 0, .slice none 0 0] 27)).heap.size) := blk_lt (blk_new _ _)
        have HG6 : Hid (w1.heap.size ≤ v17.heap.size) := HY.out.size
        have HNE : Hid (g5 ≠ v17.heap.size) := by have := HL5.out; unfold Hid; omega
        replace HL5 : Hid (g5 < (v17.alloc (.cells #[.int .i64 0, .slice none 0 0] 27)).heap.size) := Nat.lt_of_lt_of_le HL5.out (below_alloc (Below.refl _ _) _).size
        replace K5 := hidm (blk_alloc K5.out (.cells #[.int .i64 0, .slice none 0 0] 27))
        replace HX := hidm (below_alloc HX.out (.cells #[.int .i64 0, .slice none 0 0] 27))
        replace HY := hidm (below_alloc HY.out (.cells #[.int .i64 0, .slice none 0 0] 27))
        generalize (v17.alloc (.cells #[.int .i64 0, .slice none 0 0] 27)) = v23 at K6 HL6 HX HY HL5 K5 ⊢
        generalize v17.heap.size = g6 at K6 HL6 HG6 HNE ⊢
        refine runX_step (crem := [1, 3]) (rs := [1]) (by kernel_rfl) ⟨?_, trivial⟩
        · refine ⟨_, rfl, rfl, .inl ⟨10, #[.agg #[.int .i64 na, .slice A l.length c]], ?_, ?_⟩⟩
          · go_simp
          refine (refTwin_any na A l c v23 (Kd.C_below HA.out.r HX.out) HA.out.cap HA.out.sm).mono ?_
          rintro e v24 ⟨v, rfl, hv, hb⟩
          obtain ⟨A8, c8, rfl, hc8, hF⟩ := twin_F hv
          refine ⟨_, rfl, ⟨⟨v24, below_step HY.out hb⟩, rfl⟩, ?_⟩
          simp only [Act.put, List.getElem_toArray, List.getElem_cons_succ, List.getElem_cons_zero, List.setIfInBounds_toArray, List.set_cons_zero, List.set_cons_succ]
          have HFA := hidm hF
          have HCA := hidm hc8
          have HSA : Hid (∀ k, (v23.heap.size ≤ k ∧ k < v24.heap.size) → k < v24.heap.size) := fun k hk => hk.2
          have HNA5 : Hid (¬ (v23.heap.size ≤ g5 ∧ g5 < v24.heap.size)) := by have := HL5.out; unfold Hid; omega
          replace HL5 : Hid (g5 < v24.heap.size) := Nat.lt_of_lt_of_le HL5.out hb.size
          replace K5 := hidm (blk_below K5.out hb)
          have HNA6 : Hid (¬ (v23.heap.size ≤ g6 ∧ g6 < v24.heap.size)) := by have := HL6.out; unfold Hid; omega
          replace HL6 : Hid (g6 < v24.heap.size) := Nat.lt_of_lt_of_le HL6.out hb.size
          replace K6 := hidm (blk_below K6.out hb)
          replace HX := hidm (below_step HX.out hb)
          replace HY := hidm (below_step HY.out hb)
          clear hv hb hc8 hF
          generalize hSA : (fun k => v23.heap.size ≤ k ∧ k < v24.heap.size) = SA at HFA
          replace HSA : Hid (∀ k, SA k → k < v24.heap.size) := by rw [← hSA]; exact hidm HSA.out
          replace HNA5 : Hid (¬ SA g5) := by rw [← hSA]; exact hidm HNA5.out
          replace HNA6 : Hid (¬ SA g6) := by rw [← hSA]; exact hidm HNA6.out
          clear hSA
          refine runX_step (crem := [3]) (rs := [3]) (by kernel_rfl) ⟨?_, trivial⟩
          · refine ⟨_, rfl, rfl, .inl ⟨10, #[.agg #[.int .i64 nb, .slice B m.length d]], ?_, ?_⟩⟩
            · go_simp
            refine (refTwin_any nb B m d v24 (Kd.C_below HB.out.r HX.out) HB.out.cap HB.out.sm).mono ?_
            rintro e v25 ⟨v, rfl, hv, hb⟩
            obtain ⟨B8, d8, rfl, hc8, hF⟩ := twin_F hv
            refine ⟨_, rfl, ⟨⟨v25, below_step HY.out hb⟩, rfl⟩, ?_⟩
            simp only [Act.put, List.getElem_toArray, List.getElem_cons_succ, List.getElem_cons_zero, List.setIfInBounds_toArray, List.set_cons_zero, List.set_cons_succ]
            have HFB := hidm hF
            have HCB := hidm hc8
            have HSB : Hid (∀ k, (v24.heap.size ≤ k ∧ k < v25.heap.size) → k < v25.heap.size) := fun k hk => hk.2
            have HNB5 : Hid (¬ (v24.heap.size ≤ g5 ∧ g5 < v25.heap.size)) := by have := HL5.out; unfold Hid; omega
            replace HL5 : Hid (g5 < v25.heap.size) := Nat.lt_of_lt_of_le HL5.out hb.size
            replace K5 := hidm (blk_below K5.out hb)
            have HNB6 : Hid (¬ (v24.heap.size ≤ g6 ∧ g6 < v25.heap.size)) := by have := HL6.out; unfold Hid; omega
            replace HL6 : Hid (g6 < v25.heap.size) := Nat.lt_of_lt_of_le HL6.out hb.size
            replace K6 := hidm (blk_below K6.out hb)
            replace HFA := hidm (Kd.F_below HFA.out hb)
            replace HSA : Hid (∀ k, SA k → k < v25.heap.size) := fun k hk => Nat.lt_of_lt_of_le (HSA.out k hk) hb.size
            replace HX := hidm (below_step HX.out hb)
            replace HY := hidm (below_step HY.out hb)
            clear hv hb hc8 hF
            generalize hSB : (fun k => v24.heap.size ≤ k ∧ k < v25.heap.size) = SB at HFB
            replace HSB : Hid (∀ k, SB k → k < v25.heap.size) := by rw [← hSB]; exact hidm HSB.out
            replace HNB5 : Hid (¬ SB g5) := by rw [← hSB]; exact hidm HNB5.out
            replace HNB6 : Hid (¬ SB g6) := by rw [← hSB]; exact hidm HNB6.out
            clear hSB
            have HO0 := hidm (two_done (na := na) (nb := nb) HX.out (Nat.le_trans HW1.out HG5.out) (Nat.le_trans HW1.out HG6.out) HNE.out K5.out K6.out HFA.out HCA.out HFB.out HCB.out HNA5.out HNA6.out HNB5.out HNB6.out)
            have HNE5 : Hid (g5 ≠ g6) := HNE.out
            have HO := hidm (FourT.mk' HO0.out HBX.out (fun k hk => ((((HY.out.setCell (p := ⟨g5, 0, none⟩) HG5.out (.int .i64 na)).setCell (p := ⟨g5, 1, none⟩) HG5.out (.slice A8 l.length c8)).setCell (p := ⟨g6, 0, none⟩) HG6.out (.int .i64 nb)).setCell (p := ⟨g6, 1, none⟩) HG6.out (.slice B8 m.length d8)).block k hk))
            clear HO0 HBX HW1
            have f5 : ∀ i, v25.frozen? ⟨g5, i, none⟩ = false := blk_frozen K5.out
            have K6' := hidm (blk_far (p := ⟨g5, 1, none⟩) (blk_far (p := ⟨g5, 0, none⟩) K6.out (Ne.symm HNE5.out) (.int .i64 na)) (Ne.symm HNE5.out) (.slice A8 l.length c8))
            have q5 : v25.cell? ⟨g5, 0, none⟩ = some (.int .i64 0) := blk_cell K5.out 0
            have q6 : v25.cell? ⟨g5, 1, none⟩ = some (.slice none 0 0) := blk_cell K5.out 1
            have q7 : ((v25.setCell ⟨g5, 0, none⟩ (.int .i64 na)).setCell ⟨g5, 1, none⟩ (.slice A8 l.length c8)).cell? ⟨g6, 0, none⟩ = some (.int .i64 0) := blk_cell K6'.out 0
            have q8 : ((v25.setCell ⟨g5, 0, none⟩ (.int .i64 na)).setCell ⟨g5, 1, none⟩ (.slice A8 l.length c8)).cell? ⟨g6, 1, none⟩ = some (.slice none 0 0) := blk_cell K6'.out 1
            have f6 : ∀ i, ((v25.setCell ⟨g5, 0, none⟩ (.int .i64 na)).setCell ⟨g5, 1, none⟩ (.slice A8 l.length c8)).frozen? ⟨g6, i, none⟩ = false := blk_frozen K6'.out
            clear K5 K6 HFA HFB HCA HCB HNA5 HNA6 HNB5 HNB6 HX HY HG5 HG6 K6' HSA HSB HL5 HL6 HNE HNE5
            show wpList _ _ _ _ _ _
            go_wp2_with fail
            refine NoPanic.normal ?_
            go_wp2_with fail
            go_meet
            case rel => exact ⟨_, _, _, _, _, _, rfl, rfl, HO⟩
    · refine ⟨_, rfl, rfl, .inr (.inl ⟨.pointer (some ⟨v0.heap.size, 0, none⟩), (v0.alloc (.cells #[.int .i64 0, .slice none 0 0] 27)), by go_simp, ⟨⟨_, below_alloc HY.out _⟩, rfl⟩, ?_⟩)⟩
      simp only [Act.put, List.getElem_toArray, List.getElem_cons_succ, List.getElem_cons_zero, List.setIfInBounds_toArray, List.set_cons_zero, List.set_cons_succ]
      have K6 : Hid ((v0.alloc (.cells #[.int .i64 0, .slice none 0 0] 27)).heap[v0.heap.size]? = some (.cells #[.int .i64 0, .slice none 0 0] 27 (0, 0))) := blk_new _ _
      have HL6 : Hid (v0.heap.size < (v0.alloc (.cells #[.int .i64 0, .slice none 0 0] 27)).heap.size) := blk_lt (blk_new _ _)
      have HG6 : Hid (w1.heap.size ≤ v0.heap.size) := HY.out.size
      replace HX := hidm (below_alloc HX.out (.cells #[.int .i64 0, .slice none 0 0] 27))
      replace HY := hidm (below_alloc HY.out (.cells #[.int .i64 0, .slice none 0 0] 27))
      generalize (v0.alloc (.cells #[.int .i64 0, .slice none 0 0] 27)) = v26 at K6 HL6 HX HY ⊢
      generalize v0.heap.size = g6 at K6 HL6 HG6 ⊢
      refine runX_step (crem := [1, 3, 4]) (rs := [1, 4]) (by kernel_rfl) ⟨?_, ?_, trivial⟩
      · refine ⟨_, rfl, rfl, .inl ⟨10, #[.agg #[.int .i64 na, .slice A l.length c]], ?_, ?_⟩⟩
        · go_simp
        refine (refTwin_any na A l c v26 (Kd.C_below HA.out.r HX.out) HA.out.cap HA.out.sm).mono ?_
        rintro e v27 ⟨v, rfl, hv, hb⟩
        obtain ⟨A8, c8, rfl, hc8, hF⟩ := twin_F hv
        refine ⟨_, rfl, ⟨⟨v27, below_step HY.out hb⟩, rfl⟩, ?_⟩
        simp only [Act.put, List.getElem_toArray, List.getElem_cons_succ, List.getElem_cons_zero, List.setIfInBounds_toArray, List.set_cons_zero, List.set_cons_succ]
        have HFA := hidm hF
        have HCA := hidm hc8
        have HSA : Hid (∀ k, (v26.heap.size ≤ k ∧ k < v27.heap.size) → k < v27.heap.size) := fun k hk => hk.2
        have HNA6 : Hid (¬ (v26.heap.size ≤ g6 ∧ g6 < v27.heap.size)) := by have := HL6.out; unfold Hid; omega
        replace HL6 : Hid (g6 < v27.heap.size) := Nat.lt_of_lt_of_le HL6.out hb.size
        replace K6 := hidm (blk_below K6.out hb)
        replace HX := hidm (below_step HX.out hb)
        replace HY := hidm (below_step HY.out hb)
        clear hv hb hc8 hF
        generalize hSA : (fun k => v26.heap.size ≤ k ∧ k < v27.heap.size) = SA at HFA
        replace HSA : Hid (∀ k, SA k → k < v27.heap.size) := by rw [← hSA]; exact hidm HSA.out
        replace HNA6 : Hid (¬ SA g6) := by rw [← hSA]; exact hidm HNA6.out
        clear hSA
        refine runX_step (crem := [3, 4]) (rs := [3, 4]) (by kernel_rfl) ⟨?_, ?_, trivial⟩
        · refine ⟨_, rfl, rfl, .inl ⟨10, #[.agg #[.int .i64 nb, .slice B m.length d]], ?_, ?_⟩⟩
          · go_simp
          refine (refTwin_any nb B m d v27 (Kd.C_below HB.out.r HX.out) HB.out.cap HB.out.sm).mono ?_
          rintro e v28 ⟨v, rfl, hv, hb⟩
          obtain ⟨B8, d8, rfl, hc8, hF⟩ := twin_F hv
          refine ⟨_, rfl, ⟨⟨v28, below_step HY.out hb⟩, rfl⟩, ?_⟩
          simp only [Act.put, List.getElem_toArray, List.getElem_cons_succ, List.getElem_cons_zero, List.setIfInBounds_toArray, List.set_cons_zero, List.set_cons_succ]
          have HFB := hidm hF
          have HCB := hidm hc8
          have HSB : Hid (∀ k, (v27.heap.size ≤ k ∧ k < v28.heap.size) → k < v28.heap.size) := fun k hk => hk.2
          have HNB6 : Hid (¬ (v27.heap.size ≤ g6 ∧ g6 < v28.heap.size)) := by have := HL6.out; unfold Hid; omega
          replace HL6 : Hid (g6 < v28.heap.size) := Nat.lt_of_lt_of_le HL6.out hb.size
          replace K6 := hidm (blk_below K6.out hb)
          replace HFA := hidm (Kd.F_below HFA.out hb)
          replace HSA : Hid (∀ k, SA k → k < v28.heap.size) := fun k hk => Nat.lt_of_lt_of_le (HSA.out k hk) hb.size
          replace HX := hidm (below_step HX.out hb)
          replace HY := hidm (below_step HY.out hb)
          clear hv hb hc8 hF
          generalize hSB : (fun k => v27.heap.size ≤ k ∧ k < v28.heap.size) = SB at HFB
          replace HSB : Hid (∀ k, SB k → k < v28.heap.size) := by rw [← hSB]; exact hidm HSB.out
          replace HNB6 : Hid (¬ SB g6) := by rw [← hSB]; exact hidm HNB6.out
          clear hSB
          refine runX_step (crem := [4]) (rs := [4]) (by kernel_rfl) ⟨?_, trivial⟩
          · refine ⟨_, rfl, rfl, .inr (.inl ⟨.pointer (some ⟨v28.heap.size, 0, none⟩), (v28.alloc (.cells #[.int .i64 0, .slice none 0 0] 27)), by go_simp, ⟨⟨_, below_alloc HY.out _⟩, rfl⟩, ?_⟩)⟩
            simp only [Act.put, List.getElem_toArray, List.getElem_cons_succ, List.getElem_cons_zero, List.setIfInBounds_toArray, List.set_cons_zero, List.set_cons_succ]
            have K5 : Hid ((v28.alloc (.cells #[.int .i64 0, .slice none 0 0] 27)).heap[v28.heap.size]? = some (.cells #[.int .i64 0, .slice none 0 0] 27 (0, 0))) := blk_new _ _
            have HL5 : Hid (v28.heap.size < (v28.alloc (.cells #[.int .i64 0, .slice none 0 0] 27)).heap.size) := blk_lt (blk_new _ _)
            have HG5 : Hid (w1.heap.size ≤ v28.heap.size) := HY.out.size
            have HNE : Hid (g6 ≠ v28.heap.size) := by have := HL6.out; unfold Hid; omega
            replace HL6 : Hid (g6 < (v28.alloc (.cells #[.int .i64 0, .slice none 0 0] 27)).heap.size) := Nat.lt_of_lt_of_le HL6.out (below_alloc (Below.refl _ _) _).size
            replace K6 := hidm (blk_alloc K6.out (.cells #[.int .i64 0, .slice none 0 0] 27))
            have HNA5 : Hid (¬ SA v28.heap.size) := fun h => by have := HSA.out _ h; omega
            replace HFA := hidm (Kd.F_alloc HFA.out (.cells #[.int .i64 0, .slice none 0 0] 27))
            replace HSA : Hid (∀ k, SA k → k < (v28.alloc (.cells #[.int .i64 0, .slice none 0 0] 27)).heap.size) := fun k hk => Nat.lt_of_lt_of_le (HSA.out k hk) (below_alloc (Below.refl _ _) _).size
            have HNB5 : Hid (¬ SB v28.heap.size) := fun h => by have := HSB.out _ h; omega
            replace HFB := hidm (Kd.F_alloc HFB.out (.cells #[.int .i64 0, .slice none 0 0] 27))
            replace HSB : Hid (∀ k, SB k → k < (v28.alloc (.cells #[.int .i64 0, .slice none 0 0] 27)).heap.size) := fun k hk => Nat.lt_of_lt_of_le (HSB.out k hk) (below_alloc (Below.refl _ _) _).size
            replace HX := hidm (below_alloc HX.out (.cells #[.int .i64 0, .slice none 0 0] 27))
            replace HY := hidm (below_alloc HY.out (.cells #[.int .i64 0, .slice none 0 0] 27))
            generalize (v28.alloc (.cells #[.int .i64 0, .slice none 0 0] 27)) = v29 at K5 HL5 HX HY HL6 K6 HFA HSA HFB HSB ⊢
            generalize v28.heap.size = g5 at K5 HL5 HG5 HNA5 HNB5 HNE ⊢
            have HO0 := hidm (two_done (na := na) (nb := nb) HX.out (Nat.le_trans HW1.out HG5.out) (Nat.le_trans HW1.out HG6.out) (fun e => HNE.out e.symm) K5.out K6.out HFA.out HCA.out HFB.out HCB.out HNA5.out HNA6.out HNB5.out HNB6.out)
            have HNE5 : Hid (g5 ≠ g6) := (fun e => HNE.out e.symm)
            have HO := hidm (FourT.mk' HO0.out HBX.out (fun k hk => ((((HY.out.setCell (p := ⟨g5, 0, none⟩) HG5.out (.int .i64 na)).setCell (p := ⟨g5, 1, none⟩) HG5.out (.slice A8 l.length c8)).setCell (p := ⟨g6, 0, none⟩) HG6.out (.int .i64 nb)).setCell (p := ⟨g6, 1, none⟩) HG6.out (.slice B8 m.length d8)).block k hk))
            clear HO0 HBX HW1
            have f5 : ∀ i, v29.frozen? ⟨g5, i, none⟩ = false := blk_frozen K5.out
            have K6' := hidm (blk_far (p := ⟨g5, 1, none⟩) (blk_far (p := ⟨g5, 0, none⟩) K6.out (Ne.symm HNE5.out) (.int .i64 na)) (Ne.symm HNE5.out) (.slice A8 l.length c8))
            have q5 : v29.cell? ⟨g5, 0, none⟩ = some (.int .i64 0) := blk_cell K5.out 0
            have q6 : v29.cell? ⟨g5, 1, none⟩ = some (.slice none 0 0) := blk_cell K5.out 1
            have q7 : ((v29.setCell ⟨g5, 0, none⟩ (.int .i64 na)).setCell ⟨g5, 1, none⟩ (.slice A8 l.length c8)).cell? ⟨g6, 0, none⟩ = some (.int .i64 0) := blk_cell K6'.out 0
            have q8 : ((v29.setCell ⟨g5, 0, none⟩ (.int .i64 na)).setCell ⟨g5, 1, none⟩ (.slice A8 l.length c8)).cell? ⟨g6, 1, none⟩ = some (.slice none 0 0) := blk_cell K6'.out 1
            have f6 : ∀ i, ((v29.setCell ⟨g5, 0, none⟩ (.int .i64 na)).setCell ⟨g5, 1, none⟩ (.slice A8 l.length c8)).frozen? ⟨g6, i, none⟩ = false := blk_frozen K6'.out
            clear K5 K6 HFA HFB HCA HCB HNA5 HNA6 HNB5 HNB6 HX HY HG5 HG6 K6' HSA HSB HL5 HL6 HNE HNE5
            show wpList _ _ _ _ _ _
            go_wp2_with fail
            refine NoPanic.normal ?_
            go_wp2_with fail
            go_meet
            case rel => exact ⟨_, _, _, _, _, _, rfl, rfl, HO⟩
        · refine ⟨_, rfl, rfl, .inr (.inl ⟨.pointer (some ⟨v27.heap.size, 0, none⟩), (v27.alloc (.cells #[.int .i64 0, .slice none 0 0] 27)), by go_simp, ⟨⟨_, below_alloc HY.out _⟩, rfl⟩, ?_⟩)⟩
          simp only [Act.put, List.getElem_toArray, List.getElem_cons_succ, List.getElem_cons_zero, List.setIfInBounds_toArray, List.set_cons_zero, List.set_cons_succ]
          have K5 : Hid ((v27.alloc (.cells #[.int .i64 0, .slice none 0 0] 27)).heap[v27.heap.size]? = some (.cells #[.int .i64 0, .slice none 0 0] 27 (0, 0))) := blk_new _ _
          have HL5 : Hid (v27.heap.size < (v27.alloc (.cells #[.int .i64 0, .slice none 0 0] 27)).heap.size) := blk_lt (blk_new _ _)
          have HG5 : Hid (w1.heap.size ≤ v27.heap.size) := HY.out.size
          have HNE : Hid (g6 ≠ v27.heap.size) := by have := HL6.out; unfold Hid; omega
          replace HL6 : Hid (g6 < (v27.alloc (.cells #[.int .i64 0, .slice none 0 0] 27)).heap.size) := Nat.lt_of_lt_of_le HL6.out (below_alloc (Below.refl _ _) _).size
          replace K6 := hidm (blk_alloc K6.out (.cells #[.int .i64 0, .slice none 0 0] 27))
          have HNA5 : Hid (¬ SA v27.heap.size) := fun h => by have := HSA.out _ h; omega
          replace HFA := hidm (Kd.F_alloc HFA.out (.cells #[.int .i64 0, .slice none 0 0] 27))
          replace HSA : Hid (∀ k, SA k → k < (v27.alloc (.cells #[.int .i64 0, .slice none 0 0] 27)).heap.size) := fun k hk => Nat.lt_of_lt_of_le (HSA.out k hk) (below_alloc (Below.refl _ _) _).size
          replace HX := hidm (below_alloc HX.out (.cells #[.int .i64 0, .slice none 0 0] 27))
          replace HY := hidm (below_alloc HY.out (.cells #[.int .i64 0, .slice none 0 0] 27))
          generalize (v27.alloc (.cells #[.int .i64 0, .slice none 0 0] 27)) = v30 at K5 HL5 HX HY HL6 K6 HFA HSA ⊢
          generalize v27.heap.size = g5 at K5 HL5 HG5 HNA5 HNE ⊢
          refine runX_step (crem := [3]) (rs := [3]) (by kernel_rfl) ⟨?_, trivial⟩
          · refine ⟨_, rfl, rfl, .inl ⟨10, #[.agg #[.int .i64 nb, .slice B m.length d]], ?_, ?_⟩⟩
            · go_simp
            refine (refTwin_any nb B m d v30 (Kd.C_below HB.out.r HX.out) HB.out.cap HB.out.sm).mono ?_
            rintro e v31 ⟨v, rfl, hv, hb⟩
            obtain ⟨B8, d8, rfl, hc8, hF⟩ := twin_F hv
            refine ⟨_, rfl, ⟨⟨v31, below_step HY.out hb⟩, rfl⟩, ?_⟩
            simp only [Act.put, List.getElem_toArray, List.getElem_cons_succ, List.getElem_cons_zero, List.setIfInBounds_toArray, List.set_cons_zero, List.set_cons_succ]
            have HFB := hidm hF
            have HCB := hidm hc8
            have HSB : Hid (∀ k, (v30.heap.size ≤ k ∧ k < v31.heap.size) → k < v31.heap.size) := fun k hk => hk.2
            have HNB6 : Hid (¬ (v30.heap.size ≤ g6 ∧ g6 < v31.heap.size)) := by have := HL6.out; unfold Hid; omega
            replace HL6 : Hid (g6 < v31.heap.size) := Nat.lt_of_lt_of_le HL6.out hb.size
            replace K6 := hidm (blk_below K6.out hb)
            replace HFA := hidm (Kd.F_below HFA.out hb)
            replace HSA : Hid (∀ k, SA k → k < v31.heap.size) := fun k hk => Nat.lt_of_lt_of_le (HSA.out k hk) hb.size
            have HNB5 : Hid (¬ (v30.heap.size ≤ g5 ∧ g5 < v31.heap.size)) := by have := HL5.out; unfold Hid; omega
            replace HL5 : Hid (g5 < v31.heap.size) := Nat.lt_of_lt_of_le HL5.out hb.size
            replace K5 := hidm (blk_below K5.out hb)
            replace HX := hidm (below_step HX.out hb)
            replace HY := hidm (below_step HY.out hb)
            clear hv hb hc8 hF
            generalize hSB : (fun k => v30.heap.size ≤ k ∧ k < v31.heap.size) = SB at HFB
            replace HSB : Hid (∀ k, SB k → k < v31.heap.size) := by rw [← hSB]; exact hidm HSB.out
            replace HNB6 : Hid (¬ SB g6) := by rw [← hSB]; exact hidm HNB6.out
            replace HNB5 : Hid (¬ SB g5) := by rw [← hSB]; exact hidm HNB5.out
            clear hSB
            have HO0 := hidm (two_done (na := na) (nb := nb) HX.out (Nat.le_trans HW1.out HG5.out) (Nat.le_trans HW1.out HG6.out) (fun e => HNE.out e.symm) K5.out K6.out HFA.out HCA.out HFB.out HCB.out HNA5.out HNA6.out HNB5.out HNB6.out)
            have HNE5 : Hid (g5 ≠ g6) := (fun e => HNE.out e.symm)
            have HO := hidm (FourT.mk' HO0.out HBX.out (fun k hk => ((((HY.out.setCell (p := ⟨g5, 0, none⟩) HG5.out (.int .i64 na)).setCell (p := ⟨g5, 1, none⟩) HG5.out (.slice A8 l.length c8)).setCell (p := ⟨g6, 0, none⟩) HG6.out (.int .i64 nb)).setCell (p := ⟨g6, 1, none⟩) HG6.out (.slice B8 m.length d8)).block k hk))
            clear HO0 HBX HW1
            have f5 : ∀ i, v31.frozen? ⟨g5, i, none⟩ = false := blk_frozen K5.out
            have K6' := hidm (blk_far (p := ⟨g5, 1, none⟩) (blk_far (p := ⟨g5, 0, none⟩) K6.out (Ne.symm HNE5.out) (.int .i64 na)) (Ne.symm HNE5.out) (.slice A8 l.length c8))
            have q5 : v31.cell? ⟨g5, 0, none⟩ = some (.int .i64 0) := blk_cell K5.out 0
            have q6 : v31.cell? ⟨g5, 1, none⟩ = some (.slice none 0 0) := blk_cell K5.out 1
            have q7 : ((v31.setCell ⟨g5, 0, none⟩ (.int .i64 na)).setCell ⟨g5, 1, none⟩ (.slice A8 l.length c8)).cell? ⟨g6, 0, none⟩ = some (.int .i64 0) := blk_cell K6'.out 0
            have q8 : ((v31.setCell ⟨g5, 0, none⟩ (.int .i64 na)).setCell ⟨g5, 1, none⟩ (.slice A8 l.length c8)).cell? ⟨g6, 1, none⟩ = some (.slice none 0 0) := blk_cell K6'.out 1
            have f6 : ∀ i, ((v31.setCell ⟨g5, 0, none⟩ (.int .i64 na)).setCell ⟨g5, 1, none⟩ (.slice A8 l.length c8)).frozen? ⟨g6, i, none⟩ = false := blk_frozen K6'.out
            clear K5 K6 HFA HFB HCA HCB HNA5 HNA6 HNB5 HNB6 HX HY HG5 HG6 K6' HSA HSB HL5 HL6 HNE HNE5
            show wpList _ _ _ _ _ _
            go_wp2_with fail
            refine NoPanic.normal ?_
            go_wp2_with fail
            go_meet
            case rel => exact ⟨_, _, _, _, _, _, rfl, rfl, HO⟩
      · refine ⟨_, rfl, rfl, .inr (.inl ⟨.pointer (some ⟨v26.heap.size, 0, none⟩), (v26.alloc (.cells #[.int .i64 0, .slice none 0 0] 27)), by go_simp, ⟨⟨_, below_alloc HY.out _⟩, rfl⟩, ?_⟩)⟩
        simp only [Act.put, List.getElem_toArray, List.getElem_cons_succ, List.getElem_cons_zero, List.setIfInBounds_toArray, List.set_cons_zero, List.set_cons_succ]
        have K5 : Hid ((v26.alloc (.cells #[.int .i64 0, .slice none 0 0] 27)).heap[v26.heap.size]? = some (.cells #[.int .i64 0, .slice none 0 0] 27 (0, 0))) := blk_new _ _
        have HL5 : Hid (v26.heap.size < (v26.alloc (.cells #[.int .i64 0, .slice none 0 0] 27)).heap.size) := blk_lt (blk_new _ _)
        have HG5 : Hid (w1.heap.size ≤ v26.heap.size) := HY.out.size
        have HNE : Hid (g6 ≠ v26.heap.size) := by have := HL6.out; unfold Hid; omega
        replace HL6 : Hid (g6 < (v26.alloc (.cells #[.int .i64 0, .slice none 0 0] 27)).heap.size) := Nat.lt_of_lt_of_le HL6.out (below_alloc (Below.refl _ _) _).size
        replace K6 := hidm (blk_alloc K6.out (.cells #[.int .i64 0, .slice none 0 0] 27))
        replace HX := hidm (below_alloc HX.out (.cells #[.int .i64 0, .slice none 0 0] 27))
        replace HY := hidm (below_alloc HY.out (.cells #[.int .i64 0, .slice none 0 0] 27))
        generalize (v26.alloc (.cells #[.int .i64 0, .slice none 0 0] 27)) = v32 at K5 HL5 HX HY HL6 K6 ⊢
        generalize v26.heap.size = g5 at K5 HL5 HG5 HNE ⊢
        refine runX_step (crem := [1, 3]) (rs := [1]) (by kernel_rfl) ⟨?_, trivial⟩
        · refine ⟨_, rfl, rfl, .inl ⟨10, #[.agg #[.int .i64 na, .slice A l.length c]], ?_, ?_⟩⟩
          · go_simp
          refine (refTwin_any na A l c v32 (Kd.C_below HA.out.r HX.out) HA.out.cap HA.out.sm).mono ?_
          rintro e v33 ⟨v, rfl, hv, hb⟩
          obtain ⟨A8, c8, rfl, hc8, hF⟩ := twin_F hv
          refine ⟨_, rfl, ⟨⟨v33, below_step HY.out hb⟩, rfl⟩, ?_⟩
          simp only [Act.put, List.getElem_toArray, List.getElem_cons_succ, List.getElem_cons_zero, List.setIfInBounds_toArray, List.set_cons_zero, List.set_cons_succ]
          have HFA := hidm hF
          have HCA := hidm hc8
          have HSA : Hid (∀ k, (v32.heap.size ≤ k ∧ k < v33.heap.size) → k < v33.heap.size) := fun k hk => hk.2
          have HNA6 : Hid (¬ (v32.heap.size ≤ g6 ∧ g6 < v33.heap.size)) := by have := HL6.out; unfold Hid; omega
          replace HL6 : Hid (g6 < v33.heap.size) := Nat.lt_of_lt_of_le HL6.out hb.size
          replace K6 := hidm (blk_below K6.out hb)
          have HNA5 : Hid (¬ (v32.heap.size ≤ g5 ∧ g5 < v33.heap.size)) := by have := HL5.out; unfold Hid; omega
          replace HL5 : Hid (g5 < v33.heap.size) := Nat.lt_of_lt_of_le HL5.out hb.size
          replace K5 := hidm (blk_below K5.out hb)
          replace HX := hidm (below_step HX.out hb)
          replace HY := hidm (below_step HY.out hb)
          clear hv hb hc8 hF
          generalize hSA : (fun k => v32.heap.size ≤ k ∧ k < v33.heap.size) = SA at HFA
          replace HSA : Hid (∀ k, SA k → k < v33.heap.size) := by rw [← hSA]; exact hidm HSA.out
          replace HNA6 : Hid (¬ SA g6) := by rw [← hSA]; exact hidm HNA6.out
          replace HNA5 : Hid (¬ SA g5) := by rw [← hSA]; exact hidm HNA5.out
          clear hSA
          refine runX_step (crem := [3]) (rs := [3]) (by kernel_rfl) ⟨?_, trivial⟩
          · refine ⟨_, rfl, rfl, .inl ⟨10, #[.agg #[.int .i64 nb, .slice B m.length d]], ?_, ?_⟩⟩
            · go_simp
            refine (refTwin_any nb B m d v33 (Kd.C_below HB.out.r HX.out) HB.out.cap HB.out.sm).mono ?_
            rintro e v34 ⟨v, rfl, hv, hb⟩
            obtain ⟨B8, d8, rfl, hc8, hF⟩ := twin_F hv
            refine ⟨_, rfl, ⟨⟨v34, below_step HY.out hb⟩, rfl⟩, ?_⟩
            simp only [Act.put, List.getElem_toArray, List.getElem_cons_succ, List.getElem_cons_zero, List.setIfInBounds_toArray, List.set_cons_zero, List.set_cons_succ]
            have HFB := hidm hF
            have HCB := hidm hc8
            have HSB : Hid (∀ k, (v33.heap.size ≤ k ∧ k < v34.heap.size) → k < v34.heap.size) := fun k hk => hk.2
            have HNB6 : Hid (¬ (v33.heap.size ≤ g6 ∧ g6 < v34.heap.size)) := by have := HL6.out; unfold Hid; omega
            replace HL6 : Hid (g6 < v34.heap.size) := Nat.lt_of_lt_of_le HL6.out hb.size
            replace K6 := hidm (blk_below K6.out hb)
            have HNB5 : Hid (¬ (v33.heap.size ≤ g5 ∧ g5 < v34.heap.size)) := by have := HL5.out; unfold Hid; omega
            replace HL5 : Hid (g5 < v34.heap.size) := Nat.lt_of_lt_of_le HL5.out hb.size
            replace K5 := hidm (blk_below K5.out hb)
            replace HFA := hidm (Kd.F_below HFA.out hb)
            replace HSA : Hid (∀ k, SA k → k < v34.heap.size) := fun k hk => Nat.lt_of_lt_of_le (HSA.out k hk) hb.size
            replace HX := hidm (below_step HX.out hb)
            replace HY := hidm (below_step HY.out hb)
            clear hv hb hc8 hF
            generalize hSB : (fun k => v33.heap.size ≤ k ∧ k < v34.heap.size) = SB at HFB
            replace HSB : Hid (∀ k, SB k → k < v34.heap.size) := by rw [← hSB]; exact hidm HSB.out
            replace HNB6 : Hid (¬ SB g6) := by rw [← hSB]; exact hidm HNB6.out
            replace HNB5 : Hid (¬ SB g5) := by rw [← hSB]; exact hidm HNB5.out
            clear hSB
            have HO0 := hidm (two_done (na := na) (nb := nb) HX.out (Nat.le_trans HW1.out HG5.out) (Nat.le_trans HW1.out HG6.out) (fun e => HNE.out e.symm) K5.out K6.out HFA.out HCA.out HFB.out HCB.out HNA5.out HNA6.out HNB5.out HNB6.out)
            have HNE5 : Hid (g5 ≠ g6) := (fun e => HNE.out e.symm)
            have HO := hidm (FourT.mk' HO0.out HBX.out (fun k hk => ((((HY.out.setCell (p := ⟨g5, 0, none⟩) HG5.out (.int .i64 na)).setCell (p := ⟨g5, 1, none⟩) HG5.out (.slice A8 l.length c8)).setCell (p := ⟨g6, 0, none⟩) HG6.out (.int .i64 nb)).setCell (p := ⟨g6, 1, none⟩) HG6.out (.slice B8 m.length d8)).block k hk))
            clear HO0 HBX HW1
            have f5 : ∀ i, v34.frozen? ⟨g5, i, none⟩ = false := blk_frozen K5.out
            have K6' := hidm (blk_far (p := ⟨g5, 1, none⟩) (blk_far (p := ⟨g5, 0, none⟩) K6.out (Ne.symm HNE5.out) (.int .i64 na)) (Ne.symm HNE5.out) (.slice A8 l.length c8))
            have q5 : v34.cell? ⟨g5, 0, none⟩ = some (.int .i64 0) := blk_cell K5.out 0
            have q6 : v34.cell? ⟨g5, 1, none⟩ = some (.slice none 0 0) := blk_cell K5.out 1
            have q7 : ((v34.setCell ⟨g5, 0, none⟩ (.int .i64 na)).setCell ⟨g5, 1, none⟩ (.slice A8 l.length c8)).cell? ⟨g6, 0, none⟩ = some (.int .i64 0) := blk_cell K6'.out 0
            have q8 : ((v34.setCell ⟨g5, 0, none⟩ (.int .i64 na)).setCell ⟨g5, 1, none⟩ (.slice A8 l.length c8)).cell? ⟨g6, 1, none⟩ = some (.slice none 0 0) := blk_cell K6'.out 1
            have f6 : ∀ i, ((v34.setCell ⟨g5, 0, none⟩ (.int .i64 na)).setCell ⟨g5, 1, none⟩ (.slice A8 l.length c8)).frozen? ⟨g6, i, none⟩ = false := blk_frozen K6'.out
            clear K5 K6 HFA HFB HCA HCB HNA5 HNA6 HNB5 HNB6 HX HY HG5 HG6 K6' HSA HSB HL5 HL6 HNE HNE5
            show wpList _ _ _ _ _ _
            go_wp2_with fail
            refine NoPanic.normal ?_
            go_wp2_with fail
            go_meet
            case rel => exact ⟨_, _, _, _, _, _, rfl, rfl, HO⟩
  case rest =>
    obtain ⟨g5, g6, A8, c8, B8, d8, rfl, rfl, HT⟩ := hcut
    have HNL : Hid (l.length ≤ 1048576 ∧ m.length ≤ 1048576) := ⟨HA.out.sm.n, HB.out.sm.n⟩
    obtain ⟨er, xs, hxl, h25, h26⟩ := touched_both na nb l m HA.out.wf HB.out.wf HNL.out.1 HNL.out.2
    have HXL := hidm hxl
    have H25 := hidm h25
    have H26 := hidm h26
    have q0 : wc.cell? ⟨g5, 0, none⟩ = some (.int .i64 na) := blk_cell HT.out.t.k5 0
    have q1 : wc.cell? ⟨g5, 1, none⟩ = some (.slice A8 l.length c8) := blk_cell HT.out.t.k5 1
    have q2 : wc.cell? ⟨g6, 0, none⟩ = some (.int .i64 nb) := blk_cell HT.out.t.k6 0
    have q3 : wc.cell? ⟨g6, 1, none⟩ = some (.slice B8 m.length d8) := blk_cell HT.out.t.k6 1
    clear hxl h25 h26
    go_wp2_with fail
    refine (H25.out A8 B8 c8 d8 wc HT.out.t.rA HT.out.t.rB).mono ?_
    rintro e w4 ⟨v4, rfl, hr4, hb4⟩
    obtain ⟨X4, e4, rfl, hl4, _⟩ := Kd.R_reads hr4
    have HR4 := hidm hr4
    have HL4 := hidm hl4
    replace HT := hidm (HT.out.below hb4)
    clear hr4 hl4 hb4 q0 q1 q2 q3
    have q0 : w4.cell? ⟨w.heap.size, 0, none⟩ = some (.int .i64 na) := blk_cell HT.out.o.k1 0
    have q1 : w4.cell? ⟨w.heap.size, 1, none⟩ = some (.slice A l.length c) := blk_cell HT.out.o.k1 1
    have q2 : w4.cell? ⟨w.heap.size + 1, 0, none⟩ = some (.int .i64 nb) := blk_cell HT.out.o.k2 0
    have q3 : w4.cell? ⟨w.heap.size + 1, 1, none⟩ = some (.slice B m.length d) := blk_cell HT.out.o.k2 1
    go_wp2_with fail
    refine (H26.out A B c d w4 (Kd.C_below HA.out.r HT.out.t.b) HA.out.cap (Kd.C_below HB.out.r HT.out.t.b) HB.out.cap).mono ?_
    rintro e w5 ⟨v5, rfl, hr5, hb5⟩
    obtain ⟨X5, e5, rfl, hl5, hc5⟩ := Kd.R_reads hr5
    have HL5 := hidm hl5
    have HC5 := hidm hc5
    have HC4 : Hid (Kd.C (Kd.int .i64) w5 X4 xs.length xs) := by
      obtain ⟨A9, c9, e9, _, h9⟩ := Kd.R_reads (Kd.R_below HR4.out hb5)
      injection e9 with e1 _ _
      subst e1
      exact hidm h9
    replace HT := hidm (HT.out.below hb5)
    clear hr5 hl5 hc5 hb5 q0 q1 q2 q3 HR4 H25 H26
    go_wp2_with fail
    refine (ints_any xs xs X4 X5 e4 e5 w5 HC4.out HL4.out HC5.out HL5.out).mono ?_
    rw [tv_yes rfl]
    rintro e w6 ⟨rfl, hb6⟩
    replace HT := hidm (HT.out.below hb6)
    clear hb6 HC4 HC5 HL4 HL5
    have q0 : w6.cell? ⟨w.heap.size, 0, none⟩ = some (.int .i64 na) := blk_cell HT.out.o.k1 0
    have q1 : w6.cell? ⟨w.heap.size, 1, none⟩ = some (.slice A l.length c) := blk_cell HT.out.o.k1 1
    have q4 : w6.cell? ⟨g5, 0, none⟩ = some (.int .i64 na) := blk_cell HT.out.t.k5 0
    have q5 : w6.cell? ⟨g5, 1, none⟩ = some (.slice A8 l.length c8) := blk_cell HT.out.t.k5 1
    go_wp2_with fail
    have hcall := refSame_any na na l l A8 A c8 c w6 HT.out.t.rA HT.out.t.lA (Kd.C_below HA.out.r HT.out.t.b) HA.out.cap
    rw [tv_yes ⟨rfl, rfl⟩] at hcall
    refine hcall.mono ?_
    clear hcall
    rintro e w7 ⟨rfl, hb7⟩
    replace HT := hidm (HT.out.below hb7)
    clear hb7 q0 q1 q4 q5
    have q0 : w7.cell? ⟨w.heap.size + 1, 0, none⟩ = some (.int .i64 nb) := blk_cell HT.out.o.k2 0
    have q1 : w7.cell? ⟨w.heap.size + 1, 1, none⟩ = some (.slice B m.length d) := blk_cell HT.out.o.k2 1
    have q4 : w7.cell? ⟨g6, 0, none⟩ = some (.int .i64 nb) := blk_cell HT.out.t.k6 0
    have q5 : w7.cell? ⟨g6, 1, none⟩ = some (.slice B8 m.length d8) := blk_cell HT.out.t.k6 1
    go_wp2_with fail
    have hcall := refSame_any nb nb m m B8 B d8 d w7 HT.out.t.rB HT.out.t.lB (Kd.C_below HB.out.r HT.out.t.b) HB.out.cap
    rw [tv_yes ⟨rfl, rfl⟩] at hcall
    refine hcall.mono ?_
    clear hcall
    rintro e w8 ⟨rfl, hb8⟩
    have HBB : Hid (Below w.heap.size w w8) := below_step HT.out.t.b hb8
    clear hb8
    go_wp2_with fail
    go_ret
    exact ⟨rfl, HBB.out⟩
end Go.Proofs.Ytlopfkkegjajlaa
