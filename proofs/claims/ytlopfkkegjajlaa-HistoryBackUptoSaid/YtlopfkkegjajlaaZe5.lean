/- Texts of this proof and of the kit's print for this seat, gathered by wip/shake.py: only what the proof reaches. -/
import Derived.Test.YtlopfkkegjajlaaZe4
import Derived.Maps.RangeWalk
import Derived.Carry
import Derived.Deep.Cut
namespace Go.Proofs.Ytlopfkkegjajlaa
open Go.RowKit Go.Maps Go.WideShapes Go.Proofs.YtlopfkkegjajlaaW.PrintWords PHistoryTouched
def RV (v : Value) : Option (DataW Value × List MemPlace) := some (.held v, [])
theorem KI : Keyed Try.prog 3 := int_keyed Try.underlying3
theorem keyI {x : Int} (h : I64 x) : keyOf Try.prog 3 (.int .i64 x) = some (.int .i64 x) := keyOf_int_mk Try.underlying3 (by
  have h1 := h.lo
  have h2 := h.hi
  simp [Lit.wf, IntKind.min, IntKind.max, IntKind.signed, IntKind.bits]
  omega)
theorem int_ne {x y : Int} (h : x ≠ y) : (Lit.int .i64 x) ≠ .int .i64 y := fun e => h (by injection e)
theorem int_key (x : Int) : WideAt.IsKeyLit (.int .i64 x) := by simp [WideAt.IsKeyLit]
structure MapIs (w : World) (D : DataW Value) (xs : List S76) : Prop where
  im : IsMap D
  has : ∀ x : Int, Maps.has D (.int .i64 x) = true ↔ ∃ n ∈ xs, n.f0 = x
  at_ : ∀ n ∈ xs, ∃ A4 c4 A5 c5 A6 c6, NodeR w n A4 c4 A5 c5 A6 c6 ∧ ∀ zd, D.atKey (.int .i64 n.f0) zd = .held (nodeV n A4 c4 A5 c5 A6 c6)
theorem MapIs.nil (w : World) : MapIs w (.map []) [] := ⟨isMap_empty, fun x => by simp [Maps.has], fun n h => by simp at h⟩
theorem MapIs.put {w : World} {D : DataW Value} {xs : List S76} (h : MapIs w D xs) {y : S76} (hne : ∀ n ∈ xs, n.f0 ≠ y.f0) {A4 : Option Addr} {c4 : Nat} {A5 : Option Addr} {c5 : Nat} {A6 : Option Addr} {c6 : Nat} (hr : NodeR w y A4 c4 A5 c5 A6 c6) :
    MapIs w (D.put (.int .i64 y.f0) (.held (nodeV y A4 c4 A5 c5 A6 c6))) (xs ++ [y]) := by
  refine ⟨h.im.put _ _, fun x => ?_, fun n hn => ?_⟩
  · by_cases hx : x = y.f0
    · subst hx
      rw [has_put_same h.im (int_key _)]
      simp
    · rw [has_put_other (int_ne hx), h.has x]
      constructor
      · rintro ⟨n, hn, e⟩; exact ⟨n, List.mem_append_left _ hn, e⟩
      · rintro ⟨n, hn, e⟩
        rcases List.mem_append.1 hn with h1 | h1
        · exact ⟨n, h1, e⟩
        · rw [List.mem_singleton.1 h1] at e; exact absurd e.symm hx
  · rcases List.mem_append.1 hn with h1 | h1
    · obtain ⟨B4, d4, B5, d5, B6, d6, g1, g2⟩ := h.at_ n h1
      exact ⟨B4, d4, B5, d5, B6, d6, g1, fun zd => by rw [atKey_put_other (int_ne (hne n h1))]; exact g2 zd⟩
    · rw [List.mem_singleton.1 h1]
      exact ⟨A4, c4, A5, c5, A6, c6, hr, fun zd => atKey_put_same h.im (int_key _) _ _⟩
theorem MapIs.del {w : World} {D : DataW Value} {xs : List S76} (h : MapIs w D xs) (x : Int) : MapIs w (D.del (.int .i64 x)) (xs.filter fun n => decide (n.f0 ≠ x)) := by
  refine ⟨h.im.del _, fun z => ?_, fun n hn => ?_⟩
  · by_cases hz : z = x
    · subst hz
      rw [has_del_same]
      constructor
      · intro h; cases h
      · rintro ⟨n, hn, e⟩
        have := (List.mem_filter.1 hn).2
        simp at this
        exact absurd e this
    · rw [has_del_other (int_ne hz), h.has z]
      constructor
      · rintro ⟨n, hn, e⟩; exact ⟨n, List.mem_filter.2 ⟨hn, by simp; omega⟩, e⟩
      · rintro ⟨n, hn, e⟩; exact ⟨n, (List.mem_filter.1 hn).1, e⟩
  · obtain ⟨h1, h2⟩ := List.mem_filter.1 hn
    have hne : n.f0 ≠ x := by simpa using h2
    obtain ⟨B4, d4, B5, d5, B6, d6, g1, g2⟩ := h.at_ n h1
    exact ⟨B4, d4, B5, d5, B6, d6, g1, fun zd => by rw [atKey_del_other (int_ne hne)]; exact g2 zd⟩
section
variable {ops : Array Oper} {rest : List Oper} {o : Oper} {a : Act} {Q : Exit → Act → World → Prop}
theorem lookup_yes (w : World) (hg : o.guard = none) (m x : Operand) (hop : o.op = Op.lookup 87 m x true) {z : Value} (hz : (zeroValue 76).run Try.prog w = .ok z w) (b n : Nat) (D : DataW Value) (hm : a.eval m = .map (some b)) (hown : w.ownsMap Try.prog 3 RV b n D)
    (key : Int) (hx : a.eval x = .int .i64 key) (hkey : I64 key) (hhas : Maps.has D (.int .i64 key) = true) {V : Value} (hat : ∀ zd, D.atKey (.int .i64 key) zd = .held V) (hK : wpList Try.prog ops Q rest (a.put o.dst (.tuple #[V, .bool true])) w) :
    wpList Try.prog ops Q (o :: rest) a w :=
  wpList_lookup_own_ok w hg m x 87 hop 3 76 KI Try.underlying87 RV hz (.held z) [] rfl b n D hm hown (.int .i64 key) (.int .i64 key) hx (keyI hkey) (fun v ps hv => by
    rw [hat] at hv
    have : v = V := (show v = V ∧ ps = [] by simpa [RV] using hv).1
    rw [this, hhas]; exact hK)
theorem lookup_no (w : World) (hg : o.guard = none) (m x : Operand) (hop : o.op = Op.lookup 87 m x true) {z : Value} (hz : (zeroValue 76).run Try.prog w = .ok z w) (b n : Nat) (D : DataW Value) (hm : a.eval m = .map (some b)) (hown : w.ownsMap Try.prog 3 RV b n D)
    (key : Int) (hx : a.eval x = .int .i64 key) (hkey : I64 key) (hhas : Maps.has D (.int .i64 key) = false) (hK : wpList Try.prog ops Q rest (a.put o.dst (.tuple #[z, .bool false])) w) :
    wpList Try.prog ops Q (o :: rest) a w :=
  wpList_lookup_own_ok w hg m x 87 hop 3 76 KI Try.underlying87 RV hz (.held z) [] rfl b n D hm hown (.int .i64 key) (.int .i64 key) hx (keyI hkey) (fun v ps hv => by
    rw [atKey_of_not_has hhas] at hv
    have : v = z := (show v = z ∧ ps = [] by simpa [RV] using hv).1
    rw [this, hhas]; exact hK)
end
theorem zero76 (w : World) : (zeroValue 76).run Try.prog w = .ok (.agg #[.int .i64 0, .string ⟨#[]⟩, .int .i64 0, .string ⟨#[]⟩, .slice none 0 0, .slice none 0 0, .slice none 0 0]) w := by kernel_rfl
theorem map_apart {w : World} {base : Nat} {ok : Nat → Prop} {v : Value} {xs : List Int} {b n : Nat} {D : DataW Value} (h : (Kd.int .i64).R 3 w base ok v xs) (hm : w.ownsMap Try.prog 3 RV b n D) : some b ≠ v.ownBlock := fun e => by
  obtain ⟨inner, ho⟩ := Kd.R_own h
  obtain ⟨cells, hc⟩ := own_typed ho b e.symm
  obtain ⟨es, clock, hb, _⟩ := hm
  rw [hb] at hc
  cases hc
def Up (l : List S76) : Prop := l.Pairwise fun a b => a.f0 < b.f0
theorem up_of_check {nx : Int} {l : List S76} (h : CheckP nx l) : Up l := by
  have hu := ids_up h.hi h.ids
  refine List.pairwise_iff_getElem.2 fun i j hi hj hij => ?_
  have e : ∀ k (hk : k < l.length), rd_T76 l k = l[k] := fun k hk => by simp [rd_T76, List.getD_eq_getElem?_getD, List.getElem?_eq_getElem hk]
  have := hu.up i j hij hj
  rw [e i hi, e j hj] at this
  exact this
theorem Up.inj {l : List S76} (h : Up l) {a b : S76} (ha : a ∈ l) (hb : b ∈ l) (e : a.f0 = b.f0) : a = b := by
  induction l with
  | nil => simp at ha
  | cons x l ih =>
    obtain ⟨h1, h2⟩ := List.pairwise_cons.1 h
    rcases List.mem_cons.1 ha with ea | ha'
    · rcases List.mem_cons.1 hb with eb | hb'
      · rw [ea, eb]
      · have := h1 b hb'; rw [ea] at e; omega
    · rcases List.mem_cons.1 hb with eb | hb'
      · have := h1 a ha'; rw [eb] at e; omega
      · exact ih h2 ha' hb'
theorem mem_refT {l m : List S76} (hl : Up l) (hm : Up m) (x : Int) : x ∈ refT l m ↔ (∃ a ∈ l, a.f0 = x ∧ a ∉ m) ∨ (∃ b ∈ m, b.f0 = x ∧ b ∉ l) := by
  induction l, m using refT.induct with
  | case1 m => rw [refT_nil]; simp
  | case2 a l => rw [refT_end]; simp [eq_comm]
  | case3 a l b m hab ih =>
    obtain ⟨l1, l2⟩ := List.pairwise_cons.1 hl
    obtain ⟨m1, m2⟩ := List.pairwise_cons.1 hm
    have ha : a ∉ b :: m := fun h => by
      rcases List.mem_cons.1 h with e | h
      · rw [e] at hab; omega
      · have := m1 a h; omega
    rw [refT, if_pos hab, List.mem_cons, ih l2 hm]
    constructor
    · rintro (rfl | ⟨c, hc, e, hn⟩ | ⟨c, hc, e, hn⟩)
      · exact .inl ⟨a, List.mem_cons_self, rfl, ha⟩
      · exact .inl ⟨c, List.mem_cons_of_mem _ hc, e, hn⟩
      · exact .inr ⟨c, hc, e, fun h => by
          rcases List.mem_cons.1 h with e' | h
          · rw [e'] at hc; exact ha hc
          · exact hn h⟩
    · rintro (⟨c, hc, e, hn⟩ | ⟨c, hc, e, hn⟩)
      · rcases List.mem_cons.1 hc with e' | hc
        · rw [e'] at e; exact .inl e.symm
        · exact .inr (.inl ⟨c, hc, e, hn⟩)
      · exact .inr (.inr ⟨c, hc, e, fun h => hn (List.mem_cons_of_mem _ h)⟩)
  | case4 a l b m hab hba ih =>
    obtain ⟨l1, l2⟩ := List.pairwise_cons.1 hl
    obtain ⟨m1, m2⟩ := List.pairwise_cons.1 hm
    have hb : b ∉ a :: l := fun h => by
      rcases List.mem_cons.1 h with e | h
      · rw [e] at hba; omega
      · have := l1 b h; omega
    rw [refT, if_neg hab, if_pos hba, List.mem_cons, ih hl m2]
    constructor
    · rintro (rfl | ⟨c, hc, e, hn⟩ | ⟨c, hc, e, hn⟩)
      · exact .inr ⟨b, List.mem_cons_self, rfl, hb⟩
      · exact .inl ⟨c, hc, e, fun h => by
          rcases List.mem_cons.1 h with e' | h
          · rw [e'] at hc; exact hb hc
          · exact hn h⟩
      · exact .inr ⟨c, List.mem_cons_of_mem _ hc, e, hn⟩
    · rintro (⟨c, hc, e, hn⟩ | ⟨c, hc, e, hn⟩)
      · exact .inr (.inl ⟨c, hc, e, fun h => hn (List.mem_cons_of_mem _ h)⟩)
      · rcases List.mem_cons.1 hc with e' | hc
        · rw [e'] at e; exact .inl e.symm
        · exact .inr (.inr ⟨c, hc, e, hn⟩)
  | case5 a l b m hab hba ih =>
    obtain ⟨l1, l2⟩ := List.pairwise_cons.1 hl
    obtain ⟨m1, m2⟩ := List.pairwise_cons.1 hm
    have hid : a.f0 = b.f0 := by omega
    have hal : a ∉ m := fun h => by have := m1 a h; omega
    have hbl : b ∉ l := fun h => by have := l1 b h; omega
    rw [refT, if_neg hab, if_neg hba, List.mem_append, ih l2 m2]
    by_cases hs : a = b
    · rw [tv_yes hs, if_pos rfl]
      subst hs
      constructor
      · rintro (h | ⟨c, hc, e, hn⟩ | ⟨c, hc, e, hn⟩)
        · simp at h
        · exact .inl ⟨c, List.mem_cons_of_mem _ hc, e, fun h => by
            rcases List.mem_cons.1 h with e' | h
            · rw [e'] at hc; exact hbl hc
            · exact hn h⟩
        · exact .inr ⟨c, List.mem_cons_of_mem _ hc, e, fun h => by
            rcases List.mem_cons.1 h with e' | h
            · rw [e'] at hc; exact hal hc
            · exact hn h⟩
      · rintro (⟨c, hc, e, hn⟩ | ⟨c, hc, e, hn⟩)
        · rcases List.mem_cons.1 hc with e' | hc
          · exact absurd (by rw [e']; exact List.mem_cons_self) hn
          · exact .inr (.inl ⟨c, hc, e, fun h => hn (List.mem_cons_of_mem _ h)⟩)
        · rcases List.mem_cons.1 hc with e' | hc
          · exact absurd (by rw [e']; exact List.mem_cons_self) hn
          · exact .inr (.inr ⟨c, hc, e, fun h => hn (List.mem_cons_of_mem _ h)⟩)
    · rw [tv_no hs]
      have ha : a ∉ b :: m := fun h => by
        rcases List.mem_cons.1 h with e | h
        · exact hs e
        · exact hal h
      constructor
      · rintro (h | ⟨c, hc, e, hn⟩ | ⟨c, hc, e, hn⟩)
        · have h' : x = a.f0 := by simpa using h
          exact .inl ⟨a, List.mem_cons_self, h'.symm, ha⟩
        · exact .inl ⟨c, List.mem_cons_of_mem _ hc, e, fun h => by
            rcases List.mem_cons.1 h with e' | h
            · rw [e'] at hc; exact hbl hc
            · exact hn h⟩
        · exact .inr ⟨c, List.mem_cons_of_mem _ hc, e, fun h => by
            rcases List.mem_cons.1 h with e' | h
            · rw [e'] at hc; exact hal hc
            · exact hn h⟩
      · rintro (⟨c, hc, e, hn⟩ | ⟨c, hc, e, hn⟩)
        · rcases List.mem_cons.1 hc with e' | hc
          · rw [e'] at e; exact .inl (by simp [e])
          · exact .inr (.inl ⟨c, hc, e, fun h => hn (List.mem_cons_of_mem _ h)⟩)
        · rcases List.mem_cons.1 hc with e' | hc
          · rw [e', ← hid] at e; exact .inl (by simp [e])
          · exact .inr (.inr ⟨c, hc, e, fun h => hn (List.mem_cons_of_mem _ h)⟩)
theorem refT_up {l m : List S76} (hl : Up l) (hm : Up m) : (refT l m).Pairwise (· < ·) ∧ (∀ x ∈ refT l m, ∃ n, (n ∈ l ∨ n ∈ m) ∧ n.f0 = x) := by
  have hx : ∀ l m : List S76, Up l → Up m → ∀ x ∈ refT l m, ∃ n, (n ∈ l ∨ n ∈ m) ∧ n.f0 = x := fun l m hl hm x h => by
    rcases (mem_refT hl hm x).1 h with ⟨a, ha, e, _⟩ | ⟨a, ha, e, _⟩
    · exact ⟨a, .inl ha, e⟩
    · exact ⟨a, .inr ha, e⟩
  refine ⟨?_, hx l m hl hm⟩
  induction l, m using refT.induct with
  | case1 m => rw [refT_nil]; exact List.pairwise_map.2 hm
  | case2 a l => rw [refT_end]; exact List.pairwise_map.2 hl
  | case3 a l b m hab ih =>
    obtain ⟨l1, l2⟩ := List.pairwise_cons.1 hl
    obtain ⟨m1, m2⟩ := List.pairwise_cons.1 hm
    rw [refT, if_pos hab]
    refine List.pairwise_cons.2 ⟨fun x h => ?_, ih l2 hm⟩
    obtain ⟨n, h1 | h1, rfl⟩ := hx _ _ l2 hm x h
    · exact l1 n h1
    · rcases List.mem_cons.1 h1 with rfl | h1
      · exact hab
      · have := m1 n h1; omega
  | case4 a l b m hab hba ih =>
    obtain ⟨l1, l2⟩ := List.pairwise_cons.1 hl
    obtain ⟨m1, m2⟩ := List.pairwise_cons.1 hm
    rw [refT, if_neg hab, if_pos hba]
    refine List.pairwise_cons.2 ⟨fun x h => ?_, ih hl m2⟩
    obtain ⟨n, h1 | h1, rfl⟩ := hx _ _ hl m2 x h
    · rcases List.mem_cons.1 h1 with rfl | h1
      · exact hba
      · have := l1 n h1; omega
    · exact m1 n h1
  | case5 a l b m hab hba ih =>
    obtain ⟨l1, l2⟩ := List.pairwise_cons.1 hl
    obtain ⟨m1, m2⟩ := List.pairwise_cons.1 hm
    rw [refT, if_neg hab, if_neg hba]
    refine List.pairwise_append.2 ⟨?_, ih l2 m2, fun x h y h' => ?_⟩
    · split
      · exact List.Pairwise.nil
      · exact List.pairwise_singleton _ _
    · have hxe : x = a.f0 := by
        split at h
        · simp at h
        · simpa using h
      obtain ⟨n, h1 | h1, rfl⟩ := hx _ _ l2 m2 y h'
      · have := l1 n h1; omega
      · have := m1 n h1; omega
theorem sort_of_perm {l l' : List Int} (h : l.Perm l') : l.mergeSort leI = l'.mergeSort leI := by
  have tr : ∀ a b c : Int, leI a b = true → leI b c = true → leI a c = true := fun a b c h1 h2 => by simp only [leI, decide_eq_true_eq] at *; omega
  have tot : ∀ a b : Int, (leI a b || leI b a) = true := fun a b => by simp only [leI, Bool.or_eq_true, decide_eq_true_eq]; omega
  refine List.Perm.eq_of_pairwise (le := fun a b => leI a b = true) (fun a b _ _ h1 h2 => ?_) (List.pairwise_mergeSort tr tot l) (List.pairwise_mergeSort tr tot l') (((List.mergeSort_perm l leI).trans h).trans (List.mergeSort_perm l' leI).symm)
  simp only [leI, decide_eq_true_eq] at h1 h2
  omega
theorem sort_up {l : List Int} (h : l.Pairwise (· < ·)) : l.mergeSort leI = l := by
  have tr : ∀ a b c : Int, leI a b = true → leI b c = true → leI a c = true := fun a b c h1 h2 => by simp only [leI, decide_eq_true_eq] at *; omega
  have tot : ∀ a b : Int, (leI a b || leI b a) = true := fun a b => by simp only [leI, Bool.or_eq_true, decide_eq_true_eq]; omega
  refine List.Perm.eq_of_pairwise (le := fun a b => leI a b = true) (fun a b _ _ h1 h2 => ?_) (List.pairwise_mergeSort tr tot l) (h.imp fun {a b} hab => by simp only [leI, decide_eq_true_eq]; omega) (List.mergeSort_perm l leI)
  simp only [leI, decide_eq_true_eq] at h1 h2
  omega
noncomputable def outB (l m : List S76) : List Int := (m.filter fun y => !tv (y ∈ l)).map (·.f0)
theorem outB_snoc (l m : List S76) (y : S76) : outB l (m ++ [y]) = outB l m ++ (if tv (y ∈ l) then [] else [y.f0]) := by
  unfold outB
  rw [List.filter_append, List.map_append]
  congr 1
  cases h : tv (y ∈ l) <;> simp [h]
theorem touched_law {l m : List S76} (hl : Up l) (hm : Up m) {got : List Int} (hn : got.Nodup) (hg : ∀ x, x ∈ got ↔ ∃ a ∈ l, a.f0 = x ∧ ∀ b ∈ m, b.f0 ≠ x) : (outB l m ++ got).mergeSort leI = refT l m := by
  have hmem : ∀ x, x ∈ outB l m ↔ ∃ b ∈ m, b.f0 = x ∧ b ∉ l := fun x => by
    unfold outB
    rw [List.mem_map]
    constructor
    · rintro ⟨b, hb, rfl⟩
      obtain ⟨h1, h2⟩ := List.mem_filter.1 hb
      exact ⟨b, h1, rfl, by simpa [tv_niff] using h2⟩
    · rintro ⟨b, hb, rfl, h2⟩
      exact ⟨b, List.mem_filter.2 ⟨hb, by simp [tv_no h2]⟩, rfl⟩
  have hnd : (outB l m ++ got).Nodup := by
    refine List.nodup_append.2 ⟨?_, hn, fun x h1 y h2 e => ?_⟩
    · unfold outB
      refine List.pairwise_map.2 (List.Pairwise.imp ?_ (List.Pairwise.filter _ hm))
      intro a b hab e
      omega
    · obtain ⟨b, hb, e1, _⟩ := (hmem x).1 h1
      obtain ⟨a, _, _, h3⟩ := (hg y).1 h2
      exact h3 b hb (e1.trans e)
  have hup := (refT_up hl hm).1
  have hp : (outB l m ++ got).Perm (refT l m) := by
    refine (List.perm_ext_iff_of_nodup hnd (hup.imp fun {a b} h e => by omega)).2 fun x => ?_
    rw [List.mem_append, hmem x, hg x, mem_refT hl hm x]
    constructor
    · rintro (h | ⟨a, ha, e, hb⟩)
      · exact .inr h
      · exact .inl ⟨a, ha, e, fun h => hb a h e⟩
    · rintro (⟨a, ha, e, hn⟩ | h)
      · by_cases hb : ∃ b ∈ m, b.f0 = x
        · obtain ⟨b, hb, eb⟩ := hb
          refine .inl ⟨b, hb, eb, fun h => ?_⟩
          have := hl.inj h ha (eb.trans e.symm)
          rw [this] at hb
          exact hn hb
        · exact .inr ⟨a, ha, e, fun b hb' e' => hb ⟨b, hb', e'⟩⟩
      · exact .inl h
  rw [sort_of_perm hp, sort_up hup]
end Go.Proofs.Ytlopfkkegjajlaa
namespace Go.Proofs.Ytlopfkkegjajlaa
open Go.RowKit Go.Maps Go.Proofs.YtlopfkkegjajlaaW.PrintWords PHistoryTouched
theorem Boxed2.map {w : World} {o1 o2 : Obj} {W W' : World} {b : Nat} (h : Boxed2 w o1 o2 W) (hg : W.grownBy W' (some b)) (hb : w.heap.size + 2 ≤ b) : Boxed2 w o1 o2 W' :=
  h.grown hg (Below.grown h.b hg h.b.size (fun k e => by injection e with e; omega)) (fun e => by injection e with e; omega) (fun e => by injection e with e; omega)
theorem int_R_kept {w w' : World} {base : Nat} {ok : Nat → Prop} {v : Value} {xs : List Int} (h : (Kd.int .i64).R 3 w base ok v xs) (hk : ∀ k, v.ownBlock = some k → w'.heap[k]? = w.heap[k]?) : (Kd.int .i64).R 3 w' base (fun _ => True) v xs :=
  ints_R (own_move (inner_ints h) hk)
theorem own_lt_R {w : World} {base : Nat} {ok : Nat → Prop} {v : Value} {xs : List Int} (h : (Kd.int .i64).R 3 w base ok v xs) : ∀ k, v.ownBlock = some k → k < w.heap.size := fun k hk => own_lt (inner_ints h) k hk
theorem int_R_map {w w' : World} {base : Nat} {ok : Nat → Prop} {v : Value} {xs : List Int} {b n : Nat} {D : DataW Value} (h : (Kd.int .i64).R 3 w base ok v xs) (hm : w.ownsMap Try.prog 3 RV b n D) (hg : w.grownBy w' (some b)) : (Kd.int .i64).R 3 w' base (fun _ => True) v xs :=
  int_R_kept h (fun k hk => hg.block k (own_lt_R h k hk) (fun e => map_apart h hm (e.symm.trans hk.symm)))
theorem iter_apart {w : World} {base : Nat} {ok : Nat → Prop} {v : Value} {xs : List Int} {b r n : Nat} {D : DataW Value} {left : Lit → Bool} {cnt : Nat} (h : (Kd.int .i64).R 3 w base ok v xs) (hm : w.ranges Try.prog 3 RV b r n D left cnt) : some r ≠ v.ownBlock := fun e => by
  obtain ⟨cells, hc⟩ := own_typed (inner_ints h) r e.symm
  obtain ⟨es, clock, since, seen, c0, _, _, _, _, hr, _⟩ := hm
  rw [hr] at hc
  cases hc
theorem MapIs.congr {w : World} {D : DataW Value} {xs ys : List S76} (h : MapIs w D xs) (he : ∀ n, n ∈ xs ↔ n ∈ ys) : MapIs w D ys :=
  ⟨h.im, fun x => (h.has x).trans ⟨fun ⟨n, h1, h2⟩ => ⟨n, (he n).1 h1, h2⟩, fun ⟨n, h1, h2⟩ => ⟨n, (he n).2 h1, h2⟩⟩, fun n hn => h.at_ n ((he n).2 hn)⟩
theorem histNode_any (a b : S76) (hid : a.f0 = b.f0) (A4 A5 A6 B4 B5 B6 : Option Addr) (c4 c5 c6 d4 d5 d6 : Nat) (w : World) (ha : NodeR w a A4 c4 A5 c5 A6 c6) (hb : NodeR w b B4 d4 B5 d5 B6 d6) :
    Calls Try.prog 43 #[nodeV a A4 c4 A5 c5 A6 c6, nodeV b B4 d4 B5 d5 B6 d6] w fun e w' => e = .returned (.bool (tv (a = b))) ∧ Below w.heap.size w w' := by
  obtain ⟨k, h⟩ := (histSame_ev a b ha.len hid).rounds
  exact history_same.calls k a.f0 a.f1 a.f2 a.f3 A4 c4 a.f4 A5 c5 a.f5 A6 c6 a.f6 b.f0 b.f1 b.f2 b.f3 B4 d4 b.f4 B5 d5 b.f5 B6 d6 b.f6 _ w ha.r4 ha.l4 ha.r5 ha.l5 ha.r6 ha.l6 hb.r4 hb.l4 hb.r5 hb.l5 hb.r6 hb.l6 h
theorem size2 (w : World) (o p : Obj) : Hid (w.heap.size < ((w.alloc o).alloc p).heap.size ∧ w.heap.size + 1 < ((w.alloc o).alloc p).heap.size) := by
  have e1 : (w.alloc o).heap.size = w.heap.size + 1 := by simp
  have e2 : ((w.alloc o).alloc p).heap.size = (w.alloc o).heap.size + 1 := by simp
  unfold Hid
  omega
theorem blk_new2 (w : World) (o : Obj) (p : Obj) : ((w.alloc o).alloc p).heap[w.heap.size + 1]? = some p := by
  have := blk_new (w.alloc o) p
  have e : (w.alloc o).heap.size = w.heap.size + 1 := by simp
  rw [e] at this
  exact this
theorem take_rd {l : List S76} {j : Nat} (h : j < l.length) : l.take (j + 1) = l.take j ++ [rd_T76 l j] := by
  rw [List.take_succ_eq_append_getElem h]
  simp [rd_T76, List.getD_eq_getElem?_getD, List.getElem?_eq_getElem h]
theorem up_take {l : List S76} (h : Up l) {j : Nat} (hj : j < l.length) : ∀ n ∈ l.take j, n.f0 ≠ (rd_T76 l j).f0 := fun n hn e => by
  have h1 := List.Pairwise.sublist (List.take_sublist (j + 1) l) h
  rw [take_rd hj] at h1
  have := (List.pairwise_append.1 h1).2.2 n hn _ (List.mem_singleton.2 rfl)
  omega
theorem id_I64 {nx : Int} {l : List S76} (h : CheckP nx l) {j : Nat} (hj : j < l.length) : I64 (rd_T76 l j).f0 := by
  have hu := ids_up h.hi h.ids
  have h1 := hu.lo j hj
  have h2 := hu.hi j hj
  exact ⟨by omega, by omega⟩
noncomputable def restL (l m : List S76) (k : Nat) : List S76 := l.filter fun n => tv (∀ y ∈ m.take k, y.f0 ≠ n.f0)
theorem mem_rest {l m : List S76} {k : Nat} {n : S76} : n ∈ restL l m k ↔ n ∈ l ∧ ∀ y ∈ m.take k, y.f0 ≠ n.f0 := by
  unfold restL
  rw [List.mem_filter]
  simp [tv_iff]
theorem MapIs.start {w : World} {D : DataW Value} {l m : List S76} (h : MapIs w D (l.take l.length)) : MapIs w D (restL l m 0) :=
  h.congr fun n => by rw [mem_rest]; simp
theorem MapIs.gone {w : World} {D : DataW Value} {l m : List S76} {k : Nat} (hk : k < m.length) (h : MapIs w D (restL l m k)) : MapIs w (D.del (.int .i64 (rd_T76 m k).f0)) (restL l m (k + 1)) :=
  (h.del _).congr fun n => by
    rw [List.mem_filter, mem_rest, mem_rest, take_rd hk]
    constructor
    · rintro ⟨⟨h1, h2⟩, h3⟩
      have h3' : n.f0 ≠ (rd_T76 m k).f0 := by simpa using h3
      exact ⟨h1, fun y hy => by
        rcases List.mem_append.1 hy with hy | hy
        · exact h2 y hy
        · rw [List.mem_singleton.1 hy]; exact fun e => h3' e.symm⟩
    · rintro ⟨h1, h2⟩
      exact ⟨⟨h1, fun y hy => h2 y (List.mem_append_left _ hy)⟩, by
        have := h2 (rd_T76 m k) (by simp)
        simp; exact fun e => this e.symm⟩
theorem outB_take {l m : List S76} {k : Nat} (hk : k < m.length) : outB l (m.take (k + 1)) = outB l (m.take k) ++ (if tv (rd_T76 m k ∈ l) then [] else [(rd_T76 m k).f0]) := by
  rw [take_rd hk, outB_snoc]
def GotI (D : DataW Value) (left : Lit → Bool) (got : List Int) : Prop :=
  got.Nodup ∧ (∀ x, x ∈ got ↔ (Maps.has D (.int .i64 x) = true ∧ left (.int .i64 x) = false)) ∧ ∀ x, left (.int .i64 x) = true → Maps.has D (.int .i64 x) = true
theorem GotI.start (D : DataW Value) : GotI D (Maps.has D) [] := ⟨List.nodup_nil, fun x => by cases Maps.has D (.int .i64 x) <;> simp, fun _ h => h⟩
theorem GotI.step {D : DataW Value} {left : Lit → Bool} {got : List Int} (h : GotI D left got) {x : Int} (hl : left (.int .i64 x) = true) : GotI D (fun z => left z && !z.sameKey (.int .i64 x)) (got ++ [x]) := by
  obtain ⟨h1, h2, h3⟩ := h
  have hx : x ∉ got := fun hx => by have := (h2 x).1 hx; rw [hl] at this; cases this.2
  refine ⟨List.nodup_append.2 ⟨h1, List.nodup_cons.2 ⟨by simp, List.nodup_nil⟩, fun a ha b hb e => by rw [List.mem_singleton.1 hb] at e; rw [e] at ha; exact hx ha⟩, fun z => ?_, fun z hz => ?_⟩
  · rw [List.mem_append, h2 z]
    by_cases hz : z = x
    · subst hz
      have : (Lit.int .i64 z).sameKey (.int .i64 z) = true := by simp [Lit.sameKey]
      simp [this, h3 z hl]
    · have : (Lit.int .i64 z).sameKey (.int .i64 x) = false := by simp [Lit.sameKey]; exact hz
      simp [this, hz]
  · simp only [Bool.and_eq_true] at hz
    exact h3 z hz.1
theorem GotI.done {w : World} {D : DataW Value} {left : Lit → Bool} {got : List Int} {l m : List S76} (h : GotI D left got) (hl : ∀ kl, left kl = false) (hm : MapIs w D (restL l m m.length)) : got.Nodup ∧ ∀ x, x ∈ got ↔ ∃ a ∈ l, a.f0 = x ∧ ∀ b ∈ m, b.f0 ≠ x := by
  refine ⟨h.1, fun x => ?_⟩
  rw [h.2.1 x, hl, hm.has x]
  constructor
  · rintro ⟨⟨n, hn, rfl⟩, _⟩
    have := mem_rest.1 hn
    rw [List.take_length] at this
    exact ⟨n, this.1, rfl, this.2⟩
  · rintro ⟨n, hn, rfl, h2⟩
    exact ⟨⟨n, mem_rest.2 ⟨hn, by rw [List.take_length]; exact h2⟩, rfl⟩, rfl⟩
set_option maxRecDepth 100000 in
set_option maxHeartbeats 8000000 in
theorem touched_yes (na nb : Int) (A B : Option Addr) (l m : List S76) (c d : Nat) (w : World) (hra : Kd.C k76 w A l.length l) (hwa : WfL l) (hrb : Kd.C k76 w B m.length m) (hwb : WfL m) (hk1 : CheckP na l) (hk2 : CheckP nb m) (hl : l.length ≤ 1048576) (hm : m.length ≤ 1048576) :
    Calls Try.prog 25 #[.agg #[.int .i64 na, .slice A l.length c], .agg #[.int .i64 nb, .slice B m.length d]] w (TouchPost 0 (refT l m) w) := by
  have HK1 := hidm hk1
  have HK2 := hidm hk2
  have HLL := hidm hl
  have HML := hidm hm
  have HUL := hidm (up_of_check hk1)
  have HUM := hidm (up_of_check hk2)
  have HRA : Hid (Kd.C k76 w A l.length l) := hra
  have HRB : Hid (Kd.C k76 w B m.length m) := hrb
  have HWA : Hid (WfL l) := hwa
  have HWB : Hid (WfL m) := hwb
  have HBX : Hid (Boxed2 w (.cells #[.int .i64 na, .slice A l.length c] 27) (.cells #[.int .i64 nb, .slice B m.length d] 27) (((w.alloc (.cells #[.int .i64 na, .slice A l.length c] 27)).alloc (.cells #[.int .i64 nb, .slice B m.length d] 27)).alloc (.cells #[.int .i64 na, .slice A l.length c, .int .i64 nb, .slice B m.length d] 27))) := (boxed2 w (.cells #[.int .i64 na, .slice A l.length c] 27) (.cells #[.int .i64 nb, .slice B m.length d] 27)).below (below_alloc (Below.refl _ _) _)
  have K3 : Hid ((((w.alloc (.cells #[.int .i64 na, .slice A l.length c] 27)).alloc (.cells #[.int .i64 nb, .slice B m.length d] 27)).alloc (.cells #[.int .i64 na, .slice A l.length c, .int .i64 nb, .slice B m.length d] 27)).heap[w.heap.size + 2]? = some (.cells #[.int .i64 na, .slice A l.length c, .int .i64 nb, .slice B m.length d] 27 (0, 0))) := by
    have := blk_new ((w.alloc (.cells #[.int .i64 na, .slice A l.length c] 27)).alloc (.cells #[.int .i64 nb, .slice B m.length d] 27)) (.cells #[.int .i64 na, .slice A l.length c, .int .i64 nb, .slice B m.length d] 27)
    have e : ((w.alloc (.cells #[.int .i64 na, .slice A l.length c] 27)).alloc (.cells #[.int .i64 nb, .slice B m.length d] 27)).heap.size = w.heap.size + 2 := by simp
    rw [e] at this
    exact this
  clear hra hrb hwa hwb
  go_enter Try.func25, Try.ntmps25
  go_wp2_with fail
  generalize (((w.alloc (.cells #[.int .i64 na, .slice A l.length c] 27)).alloc (.cells #[.int .i64 nb, .slice B m.length d] 27)).alloc (.cells #[.int .i64 na, .slice A l.length c, .int .i64 nb, .slice B m.length d] 27)) = W at HBX K3 ⊢
  have q0 : W.cell? ⟨w.heap.size + 2, 0, none⟩ = some (.int .i64 na) := blk_cell K3.out 0
  have q1 : W.cell? ⟨w.heap.size + 2, 1, none⟩ = some (.slice A l.length c) := blk_cell K3.out 1
  have HBX4 : Hid (Boxed2 w (.cells #[.int .i64 na, .slice A l.length c] 27) (.cells #[.int .i64 nb, .slice B m.length d] 27) (W.alloc (.cells #[.int .i64 na, .slice A l.length c] 27))) := HBX.out.below (below_alloc (Below.refl _ _) _)
  have K4 := hidm (blk_alloc K3.out (.cells #[.int .i64 na, .slice A l.length c] 27))
  refine wp_loop_rounds 3 ?_
  rw [rounds_succ]
  go_wp2_with fail
  generalize (W.alloc (.cells #[.int .i64 na, .slice A l.length c] 27)) = w4 at HBX4 K4 ⊢
  clear HBX K3 q0 q1
  refine (check_any na l A c w4 (Kd.C_below HRA.out HBX4.out.b) HWA.out).mono ?_
  rintro e w5 ⟨rfl, hb⟩
  rw [errI_yes hk1]
  replace HBX4 := hidm (HBX4.out.below hb)
  replace K4 := hidm (blk_below K4.out hb)
  clear hb
  have q0 : w5.cell? ⟨w.heap.size + 2, 2, none⟩ = some (.int .i64 nb) := blk_cell K4.out 2
  have q1 : w5.cell? ⟨w.heap.size + 2, 3, none⟩ = some (.slice B m.length d) := blk_cell K4.out 3
  have HBX5 : Hid (Boxed2 w (.cells #[.int .i64 na, .slice A l.length c] 27) (.cells #[.int .i64 nb, .slice B m.length d] 27) (w5.alloc (.cells #[.int .i64 nb, .slice B m.length d] 27))) := HBX4.out.below (below_alloc (Below.refl _ _) _)
  have K5 := hidm (blk_alloc K4.out (.cells #[.int .i64 nb, .slice B m.length d] 27))
  go_wp2_with fail
  rw [rounds_succ]
  go_wp2_with fail
  generalize (w5.alloc (.cells #[.int .i64 nb, .slice B m.length d] 27)) = w6 at HBX5 K5 ⊢
  clear HBX4 K4 q0 q1
  have HBX4 := HBX5
  have K4 := K5
  clear HBX5 K5
  refine (check_any nb m B d w6 (Kd.C_below HRB.out HBX4.out.b) HWB.out).mono ?_
  rintro e w7 ⟨rfl, hb⟩
  rw [errI_yes hk2]
  replace HBX4 := hidm (HBX4.out.below hb)
  replace K4 := hidm (blk_below K4.out hb)
  clear hb
  clear hk1 hk2
  have hmm := @run_makeMap Try.prog
  have q0 : (w7.alloc (.map #[] 0)).cell? ⟨w.heap.size, 1, none⟩ = some (.slice A l.length c) := blk_cell (blk_alloc HBX4.out.k1 _) 1
  have HM0 : Hid ((w7.alloc (.map #[] 0)).ownsMap Try.prog 3 RV w7.heap.size 0 (.map [])) := World.ownsMap_made w7 Try.prog 3 RV
  have HB0 : Hid (Boxed2 w (.cells #[.int .i64 na, .slice A l.length c] 27) (.cells #[.int .i64 nb, .slice B m.length d] 27) (w7.alloc (.map #[] 0))) := HBX4.out.below (below_alloc (Below.refl _ _) _)
  have HMB : Hid (w.heap.size + 2 ≤ w7.heap.size) := Nat.le_of_lt (Array.getElem?_eq_some_iff.1 K4.out).1
  go_wp2_with fail
  rw [rounds_succ]
  go_wp2_with fail
  clear hmm q0 HBX4 K4
  generalize (w7.alloc (.map #[] 0)) = w8 at HM0 HB0 ⊢
  generalize w7.heap.size = mb at HM0 HMB ⊢
  go_loopw [36] (fun v W => ∃ (j : Nat) (D : DataW Value), j ≤ l.length ∧ v = .int .i64 j ∧ Hid (MapIs w D (l.take j)) ∧ Hid (W.ownsMap Try.prog 3 RV mb j D) ∧ Hid (Boxed2 w (.cells #[.int .i64 na, .slice A l.length c] 27) (.cells #[.int .i64 nb, .slice B m.length d] 27) W)) (fun v _ => l.length - (intOf v).toNat)
  case atStart => exact ⟨0, .map [], Nat.zero_le _, rfl, hidm (MapIs.nil w), HM0, HB0⟩
  case round =>
    clear HM0 HB0
    obtain ⟨j, D, hjl, rfl, HMI, HOW, HB⟩ := hrel
    by_cases hj : j < l.length
    · obtain ⟨ad, A4, c4, A5, c5, A6, c6, hA, hna⟩ := nodeAt HRA.out j hj
      subst hA
      have HNR := hidm hna.r
      have HNA := hidm (hna.below HB.out.b)
      clear hna
      have hj0 : (0 : Int) ≤ (j : Int) := by omega
      have hj1 : (j : Int) < (l.length : Int) := by omega
      have HN : Hid (j < maxLen) := by have := HLL.out; unfold Hid maxLen; omega
      have HID : Hid (I64 (rd_T76 l j).f0) := id_I64 HK1.out hj
      have x0 : wr.cell? (ad.add (j * 7)) = some (.int .i64 (rd_T76 l j).f0) := HNA.out.y0
      have x1 : wr.cell? ⟨(ad.add (j * 7)).block, (ad.add (j * 7)).off + 1, none⟩ = some (.string (rd_T76 l j).f1) := HNA.out.y1
      have x2 : wr.cell? ⟨(ad.add (j * 7)).block, (ad.add (j * 7)).off + 2, none⟩ = some (.int .i64 (rd_T76 l j).f2) := HNA.out.y2
      have x3 : wr.cell? ⟨(ad.add (j * 7)).block, (ad.add (j * 7)).off + 3, none⟩ = some (.string (rd_T76 l j).f3) := HNA.out.y3
      have x4 : wr.cell? ⟨(ad.add (j * 7)).block, (ad.add (j * 7)).off + 4, none⟩ = some (.slice A4 (rd_T76 l j).f4.length c4) := HNA.out.y4
      have x5 : wr.cell? ⟨(ad.add (j * 7)).block, (ad.add (j * 7)).off + 5, none⟩ = some (.slice A5 (rd_T76 l j).f5.length c5) := HNA.out.y5
      have x6 : wr.cell? ⟨(ad.add (j * 7)).block, (ad.add (j * 7)).off + 6, none⟩ = some (.slice A6 (rd_T76 l j).f6.length c6) := HNA.out.y6
      go_wp2_with (at_mapUpdate; refine wpList_mapUpdate_own _ rfl _ _ _ 87 rfl 3 76 KI Try.underlying87 RV mb j D rfl (HOW.out.alloc _) HN.out _ _ (.int .i64 (rd_T76 l j).f0) rfl rfl (keyI HID.out) (.held (nodeV (rd_T76 l j) A4 c4 A5 c5 A6 c6)) [] rfl ?_
                   intro w9 hown hgrow
                   have HB9 := hidm ((HB.out.below (below_alloc (Below.refl _ _) _)).map hgrow HMB.out)
                   have HO9 := hidm hown
                   clear hown hgrow)
      have HMI9 : Hid (MapIs w (D.put (.int .i64 (rd_T76 l j).f0) (.held (nodeV (rd_T76 l j) A4 c4 A5 c5 A6 c6))) (l.take (j + 1))) := by
        rw [take_rd hj]
        exact HMI.out.put (up_take HUL.out hj) HNR.out
      go_roundw
      case rel => exact ⟨j + 1, _, by omega, by go_num, HMI9, HO9, HB9⟩
      case measure => simp [intOf]; omega
    · have hje : j = l.length := by omega
      subst hje
      have hj1 : ¬ (l.length : Int) < (l.length : Int) := by omega
      have HMS : Hid (MapIs w D (restL l m 0)) := MapIs.start HMI.out
      have q1 : wr.cell? ⟨w.heap.size + 1, 1, none⟩ = some (.slice B m.length d) := blk_cell HB.out.k2 1
      have HOW0 := HOW
      have HB0 := HB
      clear HMI HOW HB hjl
      go_wp2_with fail
      clear q1
      obtain ⟨wo, rfl⟩ : ∃ wo : World, wo = wr := ⟨_, rfl⟩
      clear hj hj1
      go_loopw [12, 48] (fun u v W => ∃ (k : Nat) (D : DataW Value), k ≤ m.length ∧ v = .int .i64 k ∧ Hid (MapIs w D (restL l m k)) ∧ Hid (W.ownsMap Try.prog 3 RV mb l.length D) ∧ Hid (Boxed2 w (.cells #[.int .i64 na, .slice A l.length c] 27) (.cells #[.int .i64 nb, .slice B m.length d] 27) W) ∧ Hid ((Kd.int .i64).R 3 W w.heap.size (fun _ => True) u (outB l (m.take k))) ∧ Hid ((outB l (m.take k)).length ≤ k)) (fun _ v _ => m.length - (intOf v).toNat)
      case atStart => exact ⟨0, D, Nat.zero_le _, rfl, HMS, HOW0, HB0, hidm (by rw [List.take_zero]; exact Kd.R_nil _ _ _ _ _), hidm (by rw [List.take_zero]; exact Nat.le_refl _)⟩
      case round =>
        clear HMS HOW0 HB0
        clear D
        obtain ⟨k, D, hkl, rfl, HMI, HOW, HBX, HO, HLN⟩ := hrel
        by_cases hk : k < m.length
        · obtain ⟨bd, B4, d4, B5, d5, B6, d6, hB, hnb⟩ := nodeAt HRB.out k hk
          subst hB
          have HNR := hidm hnb.r
          have HNB := hidm (hnb.below HBX.out.b)
          clear hnb
          have hk0 : (0 : Int) ≤ (k : Int) := by omega
          have hk1 : (k : Int) < (m.length : Int) := by omega
          have HID : Hid (I64 (rd_T76 m k).f0) := id_I64 HK2.out hk
          have x0 : wr.cell? (bd.add (k * 7)) = some (.int .i64 (rd_T76 m k).f0) := HNB.out.y0
          have x1 : wr.cell? ⟨(bd.add (k * 7)).block, (bd.add (k * 7)).off + 1, none⟩ = some (.string (rd_T76 m k).f1) := HNB.out.y1
          have x2 : wr.cell? ⟨(bd.add (k * 7)).block, (bd.add (k * 7)).off + 2, none⟩ = some (.int .i64 (rd_T76 m k).f2) := HNB.out.y2
          have x3 : wr.cell? ⟨(bd.add (k * 7)).block, (bd.add (k * 7)).off + 3, none⟩ = some (.string (rd_T76 m k).f3) := HNB.out.y3
          have x4 : wr.cell? ⟨(bd.add (k * 7)).block, (bd.add (k * 7)).off + 4, none⟩ = some (.slice B4 (rd_T76 m k).f4.length d4) := HNB.out.y4
          have x5 : wr.cell? ⟨(bd.add (k * 7)).block, (bd.add (k * 7)).off + 5, none⟩ = some (.slice B5 (rd_T76 m k).f5.length d5) := HNB.out.y5
          have x6 : wr.cell? ⟨(bd.add (k * 7)).block, (bd.add (k * 7)).off + 6, none⟩ = some (.slice B6 (rd_T76 m k).f6.length d6) := HNB.out.y6
          have HNEXT : Hid (MapIs w (D.del (.int .i64 (rd_T76 m k).f0)) (restL l m (k + 1))) := HMI.out.gone hk
          have HLE : Hid ((outB l (m.take (k + 1))).length ≤ k + 1) := by
            rw [outB_take hk, List.length_append]
            have h1 := HLN.out
            have h2 : (if tv ((rd_T76 m k) ∈ l) = true then ([] : List Int) else [(rd_T76 m k).f0]).length ≤ 1 := by split <;> simp
            exact hidm (by omega)
          by_cases hx : ∃ n ∈ restL l m k, n.f0 = (rd_T76 m k).f0
          · obtain ⟨n, hn, hne⟩ := hx
            obtain ⟨C4, e4, C5, e5, C6, e6, hnr, hat⟩ := HMI.out.at_ n hn
            have HNN := hidm hnr
            have HNE := hidm hne
            have HNM : Hid (n ∈ l) := (mem_rest.1 hn).1
            have HAT : Hid (∀ zd, D.atKey (.int .i64 (rd_T76 m k).f0) zd = .held (nodeV n C4 e4 C5 e5 C6 e6)) := by rw [← hne]; exact hidm hat
            have HHAS : Hid (Maps.has D (.int .i64 (rd_T76 m k).f0) = true) := (HMI.out.has _).2 ⟨n, hn, hne⟩
            clear hn hne hnr hat
            go_wp2_with (first
              | (at_lookup; refine lookup_yes _ rfl _ _ rfl (zero76 _) mb l.length D rfl (HOW.out.alloc _) (rd_T76 m k).f0 rfl HID.out HHAS.out HAT.out ?_)
              | (at_delete; refine wpList_delete_own _ rfl _ _ 87 3 rfl 76 KI Try.underlying87 RV mb l.length D rfl ((HOW.out.alloc _).alloc _) _ (.int .i64 (rd_T76 m k).f0) rfl (keyI HID.out) ?_
                 intro w9 hown hturn
                 have HG := hidm hturn.grown
                 have HOW9 := hidm hown
                 have HSZ : Hid (wr.heap.size < ((wr.alloc (.cells (nodeCs (rd_T76 m k) B4 d4 B5 d5 B6 d6) 76)).alloc (.cells (nodeCs n C4 e4 C5 e5 C6 e6) 76)).heap.size ∧ wr.heap.size + 1 < ((wr.alloc (.cells (nodeCs (rd_T76 m k) B4 d4 B5 d5 B6 d6) 76)).alloc (.cells (nodeCs n C4 e4 C5 e5 C6 e6) 76)).heap.size) := size2 wr _ _
                 have HBX9 := hidm ((HBX.out.below (below_alloc (below_alloc (Below.refl _ _) _) _)).map HG.out HMB.out)
                 have HO9 := hidm (int_R_map (Kd.R_below HO.out (below_alloc (below_alloc (Below.refl _ _) _) _)) ((HOW.out.alloc _).alloc _) HG.out)
                 have K14 : Hid (w9.heap[wr.heap.size]? = some (.cells (nodeCs (rd_T76 m k) B4 d4 B5 d5 B6 d6) 76 (0, 0))) := (HG.out.block _ HSZ.out.1 (fun e => by injection e with e; have := HOW.out.lt; omega)).trans (blk_alloc (blk_new wr (.cells (nodeCs (rd_T76 m k) B4 d4 B5 d5 B6 d6) 76)) (.cells (nodeCs n C4 e4 C5 e5 C6 e6) 76))
                 have K15 : Hid (w9.heap[wr.heap.size + 1]? = some (.cells (nodeCs n C4 e4 C5 e5 C6 e6) 76 (0, 0))) := (HG.out.block _ HSZ.out.2 (fun e => by injection e with e; have := HOW.out.lt; omega)).trans (blk_new2 wr _ _)
                 have p0 : w9.cell? ⟨wr.heap.size, 0, none⟩ = some (.int .i64 (rd_T76 m k).f0) := blk_cell K14.out 0
                 have p1 : w9.cell? ⟨wr.heap.size, 1, none⟩ = some (.string (rd_T76 m k).f1) := blk_cell K14.out 1
                 have p2 : w9.cell? ⟨wr.heap.size, 2, none⟩ = some (.int .i64 (rd_T76 m k).f2) := blk_cell K14.out 2
                 have p3 : w9.cell? ⟨wr.heap.size, 3, none⟩ = some (.string (rd_T76 m k).f3) := blk_cell K14.out 3
                 have p4 : w9.cell? ⟨wr.heap.size, 4, none⟩ = some (.slice B4 (rd_T76 m k).f4.length d4) := blk_cell K14.out 4
                 have p5 : w9.cell? ⟨wr.heap.size, 5, none⟩ = some (.slice B5 (rd_T76 m k).f5.length d5) := blk_cell K14.out 5
                 have p6 : w9.cell? ⟨wr.heap.size, 6, none⟩ = some (.slice B6 (rd_T76 m k).f6.length d6) := blk_cell K14.out 6
                 have r0 : w9.cell? ⟨wr.heap.size + 1, 0, none⟩ = some (.int .i64 n.f0) := blk_cell K15.out 0
                 have r1 : w9.cell? ⟨wr.heap.size + 1, 1, none⟩ = some (.string n.f1) := blk_cell K15.out 1
                 have r2 : w9.cell? ⟨wr.heap.size + 1, 2, none⟩ = some (.int .i64 n.f2) := blk_cell K15.out 2
                 have r3 : w9.cell? ⟨wr.heap.size + 1, 3, none⟩ = some (.string n.f3) := blk_cell K15.out 3
                 have r4 : w9.cell? ⟨wr.heap.size + 1, 4, none⟩ = some (.slice C4 n.f4.length e4) := blk_cell K15.out 4
                 have r5 : w9.cell? ⟨wr.heap.size + 1, 5, none⟩ = some (.slice C5 n.f5.length e5) := blk_cell K15.out 5
                 have r6 : w9.cell? ⟨wr.heap.size + 1, 6, none⟩ = some (.slice C6 n.f6.length e6) := blk_cell K15.out 6
                 clear hown hturn))
            refine (histNode_any n (rd_T76 m k) HNE.out C4 C5 C6 B4 B5 B6 e4 e5 e6 d4 d5 d6 w9 (HNN.out.below HBX9.out.b) (HNR.out.below HBX9.out.b)).mono ?_
            rintro e w10 ⟨rfl, hb10⟩
            replace HOW9 := hidm (HOW9.out.kept ⟨hb10.os, hb10.tape, hb10.output, hb10.size, fun k hk _ => hb10.block k hk⟩ (row := none) (by simp))
            replace HBX9 := hidm (HBX9.out.below hb10)
            replace HO9 := hidm (Kd.R_below HO9.out hb10)
            replace K14 := hidm (blk_below K14.out hb10)
            clear hb10 p0 p1 p2 p3 p4 p5 p6 r0 r1 r2 r3 r4 r5 r6
            have p0 : w10.cell? ⟨wr.heap.size, 0, none⟩ = some (.int .i64 (rd_T76 m k).f0) := blk_cell K14.out 0
            by_cases hs : n = (rd_T76 m k)
            · have HNO : Hid (tv ((rd_T76 m k) ∈ l) = true) := tv_yes (by rw [← hs]; exact HNM.out)
              rw [tv_yes hs]
              clear hs
              go_wp2_with fail
              go_roundw
              case rel => exact ⟨k + 1, _, by omega, by go_num, HNEXT, HOW9, HBX9, hidm (by rw [outB_take hk, HNO.out, if_pos rfl, List.append_nil]; exact HO9.out), HLE⟩
              case measure => simp [intOf]; omega
            · have HNO : Hid ((if tv ((rd_T76 m k) ∈ l) = true then ([] : List Int) else [(rd_T76 m k).f0]) = [(rd_T76 m k).f0]) := by
                rw [tv_no (fun h => hs (HUL.out.inj HNM.out h HNE.out))]
                exact hidm rfl
              rw [tv_no hs]
              clear hs
              go_wp2_with (at_builtin; refine Kd.R_append (Kd.int .i64) (w0 := w) w.heap.size rfl (.tmp 70) (.tmp 73) 54 3 (.int .i64 0) 8 rfl Try.underlying54 info3 rfl (by decide) (by decide) u12 (outB l (m.take k)) (rd_T76 m k).f0 [.int .i64 (rd_T76 m k).f0] (fun _ => True) (fun _ => False) rfl rfl rfl (fun _ h => h.elim) (fun _ _ => trivial) HO9.out HBX9.out.b HBX9.out.b.size (by have := HLN.out; have := HML.out; omega) ?_
                           intro v2 w11 hN hB hg hat
                           have HB11 := hidm (HBX9.out.grown hg hB (Kd.R_ne HO9.out HBX9.out.k1 (by decide)) (Kd.R_ne HO9.out HBX9.out.k2 (by decide)))
                           have HOW11 := hidm (HOW9.out.kept hg (map_apart HO9.out HOW9.out))
                           have HO11 := hidm hN
                           clear hN hB hg hat)
              go_roundw
              case rel => exact ⟨k + 1, _, by omega, by go_num, HNEXT, HOW11, HB11, hidm (by rw [outB_take hk, HNO.out]; exact HO11.out), HLE⟩
              case measure => simp [intOf]; omega
          · have HNO : Hid ((if tv ((rd_T76 m k) ∈ l) = true then ([] : List Int) else [(rd_T76 m k).f0]) = [(rd_T76 m k).f0]) := by
              rw [tv_no (fun h => hx ⟨(rd_T76 m k), mem_rest.2 ⟨h, up_take HUM.out hk⟩, rfl⟩)]
              exact hidm rfl
            have HHAS : Hid (Maps.has D (.int .i64 (rd_T76 m k).f0) = false) := by
              cases hh : Maps.has D (.int .i64 (rd_T76 m k).f0) with
              | false => exact hidm rfl
              | true => exact absurd ((HMI.out.has _).1 hh) hx
            clear hx
            go_wp2_with (first
              | (at_lookup; refine lookup_no _ rfl _ _ rfl (zero76 _) mb l.length D rfl (HOW.out.alloc _) (rd_T76 m k).f0 rfl HID.out HHAS.out ?_)
              | (at_delete; refine wpList_delete_own _ rfl _ _ 87 3 rfl 76 KI Try.underlying87 RV mb l.length D rfl ((HOW.out.alloc _).alloc _) _ (.int .i64 (rd_T76 m k).f0) rfl (keyI HID.out) ?_
                 intro w9 hown hturn
                 have HG := hidm hturn.grown
                 have HOW9 := hidm hown
                 have HSZ : Hid (wr.heap.size < ((wr.alloc (.cells (nodeCs (rd_T76 m k) B4 d4 B5 d5 B6 d6) 76)).alloc (.cells #[.int .i64 0, .string ⟨#[]⟩, .int .i64 0, .string ⟨#[]⟩, .slice none 0 0, .slice none 0 0, .slice none 0 0] 76)).heap.size ∧ wr.heap.size + 1 < ((wr.alloc (.cells (nodeCs (rd_T76 m k) B4 d4 B5 d5 B6 d6) 76)).alloc (.cells #[.int .i64 0, .string ⟨#[]⟩, .int .i64 0, .string ⟨#[]⟩, .slice none 0 0, .slice none 0 0, .slice none 0 0] 76)).heap.size) := size2 wr _ _
                 have HBX9 := hidm ((HBX.out.below (below_alloc (below_alloc (Below.refl _ _) _) _)).map HG.out HMB.out)
                 have HO9 := hidm (int_R_map (Kd.R_below HO.out (below_alloc (below_alloc (Below.refl _ _) _) _)) ((HOW.out.alloc _).alloc _) HG.out)
                 have K14 : Hid (w9.heap[wr.heap.size]? = some (.cells (nodeCs (rd_T76 m k) B4 d4 B5 d5 B6 d6) 76 (0, 0))) := (HG.out.block _ HSZ.out.1 (fun e => by injection e with e; have := HOW.out.lt; omega)).trans (blk_alloc (blk_new wr (.cells (nodeCs (rd_T76 m k) B4 d4 B5 d5 B6 d6) 76)) (.cells #[.int .i64 0, .string ⟨#[]⟩, .int .i64 0, .string ⟨#[]⟩, .slice none 0 0, .slice none 0 0, .slice none 0 0] 76))
                 have p0 : w9.cell? ⟨wr.heap.size, 0, none⟩ = some (.int .i64 (rd_T76 m k).f0) := blk_cell K14.out 0
                 clear hown hturn)
              | (at_builtin; refine Kd.R_append (Kd.int .i64) (w0 := w) w.heap.size rfl (.tmp 70) (.tmp 73) 54 3 (.int .i64 0) 8 rfl Try.underlying54 info3 rfl (by decide) (by decide) u12 (outB l (m.take k)) (rd_T76 m k).f0 [.int .i64 (rd_T76 m k).f0] (fun _ => True) (fun _ => False) rfl rfl rfl (fun _ h => h.elim) (fun _ _ => trivial) HO9.out HBX9.out.b HBX9.out.b.size (by have := HLN.out; have := HML.out; omega) ?_
                 intro v2 w11 hN hB hg hat
                 have HB11 := hidm (HBX9.out.grown hg hB (Kd.R_ne HO9.out HBX9.out.k1 (by decide)) (Kd.R_ne HO9.out HBX9.out.k2 (by decide)))
                 have HOW11 := hidm (HOW9.out.kept hg (map_apart HO9.out HOW9.out))
                 have HO11 := hidm hN
                 clear hN hB hg hat))
            go_roundw
            case rel => exact ⟨k + 1, _, by omega, by go_num, HNEXT, HOW11, HB11, hidm (by rw [outB_take hk, HNO.out]; exact HO11.out), HLE⟩
            case measure => simp [intOf]; omega
        · have hke : k = m.length := by omega
          subst hke
          have hk1 : ¬ (m.length : Int) < (m.length : Int) := by omega
          rw [List.take_length] at HO HLN
          go_wp2_with (at_range; refine wpList_range_own _ rfl _ 87 rfl 3 76 KI Try.underlying87 RV mb l.length D rfl HOW.out ?_
                       intro w9 hrg hg hs
                       have HRG := hidm hrg
                       have HO9 := hidm (int_R_kept HO.out (fun k hk => hg.block k (own_lt_R HO.out k hk) (by simp)))
                       have HB9 : Hid (Below w.heap.size w w9) := Below.grown HBX.out.b hg HBX.out.b.size (fun k e => by cases e)
                       have HSZ : Hid (Maps.size D ≤ l.length) := HOW.out.size_le
                       have HRB9 : Hid (w.heap.size ≤ wr.heap.size) := HBX.out.b.size
                       clear hrg hg hs)
          try go_frame
          clear HOW HBX HO hk1 hkl hk
          obtain ⟨r, hr⟩ : ∃ r, wr.heap.size = r := ⟨_, rfl⟩
          rw [hr] at HRG HRB9 ⊢
          clear hr
          go_loopw [12] (fun u W => ∃ (left : Lit → Bool) (cnt : Nat) (got : List Int), Hid (W.ranges Try.prog 3 RV mb r l.length D left cnt) ∧ Hid (got.length + cnt ≤ l.length) ∧ Hid (GotI D left got) ∧ Hid (Below w.heap.size w W) ∧ Hid ((Kd.int .i64).R 3 W w.heap.size (fun _ => True) u (outB l m ++ got))) (fun _ W => W.rangeLeft mb r)
          case atStart => exact ⟨Maps.has D, Maps.size D, [], HRG, hidm (by have := HSZ.out; simpa using this), hidm (GotI.start D), HB9, hidm (by rw [List.append_nil]; exact HO9.out)⟩
          case round =>
            clear HRG HB9 HO9
            obtain ⟨left, cnt, got, HRG, HCN, HGOT, HB, HO⟩ := hrel
            have HRL : Hid (wr.rangeLeft mb r = cnt) := HRG.out.left_eq
            have HLEN : Hid ((outB l m ++ got).length ≤ m.length + l.length) := by
              have h1 := HLN.out
              have h2 := HCN.out
              unfold Hid
              rw [List.length_append]
              omega
            go_wp2_with (at_next; refine wpList_next_ranges _ rfl _ rfl 3 KI RV (Value.int .i64) (fun v : Value => v) (fun key kl hkey => by obtain ⟨x, rfl, _⟩ := Maps.keyOf_int_inv Try.underlying3 hkey; exact ⟨x, rfl⟩) (fun v y _ => ⟨v, rfl⟩) mb r l.length D left cnt rfl HRG.out ?_ ?_)
            · intro hc0 hl0
              have HD := hidm (HGOT.out.done hl0 HMI.out)
              have HLAW : Hid ((outB l m ++ got).mergeSort leI = refT l m) := touched_law HUL.out HUM.out HD.out.1 HD.out.2
              clear hc0 hl0 HD
              go_wp2_with fail
              refine (sort_any u12 (outB l m ++ got) w.heap.size _ wr HO.out (by have := HLEN.out; have := HML.out; have := HLL.out; omega)).mono ?_
              rintro e w12 ⟨rfl, hs, hg⟩
              rw [HLAW.out] at hs
              have HP : Hid (TouchPost 0 (refT l m) w (.returned (.tuple #[u12, .int .i64 0])) w12) := ⟨_, rfl, hs, Below.grown HB.out hg HB.out.size (fun k hk => own_base (inner_ints HO.out) k hk)⟩
              clear hs hg
              go_wp2_with fail
              simp [bodyPost, results, Try.results25, go_sem]
              exact HP.out
            · intro x cval kl yd yp w9 cnt2 hkey hlk hv hat hrg hlt hg hs hen
              obtain ⟨x', ex, rfl, _⟩ := Maps.keyOf_int_inv Try.underlying3 hkey
              cases ex
              have HRG9 := hidm hrg
              have HGOT9 := hidm (HGOT.out.step hlk)
              have HO9 := hidm (int_R_kept HO.out (fun k hk => hg.block k (own_lt_R HO.out k hk) (fun e => iter_apart HO.out HRG.out (e.symm.trans hk.symm))))
              have HB9 : Hid (Below w.heap.size w w9) := Below.grown HB.out hg HB.out.size (fun k e => by injection e with e; have := HRB9.out; omega)
              have HLT := hidm hlt
              clear hkey hlk hv hat hrg hlt hg hs
              go_wp2_with (at_builtin; refine Kd.R_append (Kd.int .i64) (w0 := w) w.heap.size rfl (.tmp 82) (.tmp 84) 54 3 (.int .i64 0) 8 rfl Try.underlying54 info3 rfl (by decide) (by decide) u12 (outB l m ++ got) x [.int .i64 x] (fun _ => True) (fun _ => False) rfl rfl rfl (fun _ h => h.elim) (fun _ _ => trivial) HO9.out HB9.out HB9.out.size (by have := HLEN.out; have := HML.out; have := HLL.out; omega) ?_
                           intro v2 w11 hN hB hg hat
                           have HRG11 := hidm (HRG9.out.kept hg (map_apart HO9.out HRG9.out.owns) (iter_apart HO9.out HRG9.out))
                           have HB11 := hidm hB
                           have HO11 := hidm hN
                           clear hN hB hg hat hen)
              go_roundw
              case rel => exact ⟨_, cnt2, got ++ [x], HRG11, hidm (by have h1 := HLT.out; have h2 := HCN.out; rw [List.length_append]; simp; omega), HGOT9, HB11, hidm (by rw [← List.append_assoc]; exact HO11.out)⟩
              case measure => rw [HRG11.out.left_eq, HRL.out]; exact HLT.out
end Go.Proofs.Ytlopfkkegjajlaa
namespace Go.Proofs.Ytlopfkkegjajlaa
open Go
def WW (S : Nat → Prop) (w : World) := {W : World // Wr S w W}
instance (S : Nat → Prop) (w : World) : Nonempty (WW S w) := ⟨⟨w, Wr.refl _ _⟩⟩
theorem ww_cell {S : Nat → Prop} {w : World} {a : Addr} {v : Value} (h : w.cell? a = some v) (hS : ¬ S a.block) (x : WW S w) : x.1.cell? a = some v := by
  have hb := x.2.block _ (World.block_lt_of_cell? w a h) hS
  rw [← h]
  unfold World.cell?
  rw [hb]
end Go.Proofs.Ytlopfkkegjajlaa
namespace Go.Proofs.Ytlopfkkegjajlaa
open Go.RowKit Go.Proofs.YtlopfkkegjajlaaW.PrintWords PHistoryTouched
def pairL (k : Int) : List S76 := [⟨1, ⟨#[65]⟩, 0, ⟨#[]⟩, [], [k], []⟩, ⟨k, ⟨#[65]⟩, 1, ⟨#[114]⟩, [], [], []⟩]
theorem pair_small (k : Int) : SmallL (pairL k) := by
  refine ⟨by simp [pairL], fun j hj => ?_, fun j hj => ?_, fun j hj => ?_⟩ <;> (match j, hj with | 0, _ => simp [pairL, rd_T76] | 1, _ => simp [pairL, rd_T76])
theorem pair_wf {k : Int} (h : I64 k) : WfL (pairL k) := fun i hi => by
  match i, hi with
  | 0, _ =>
    refine ⟨⟨by simp [pairL, rd_T76], by simp [pairL, rd_T76]⟩, fun j hj => ?_⟩
    match j, hj with
    | 0, _ => exact h
  | 1, _ => exact ⟨⟨by simp [pairL, rd_T76], by simp [pairL, rd_T76]⟩, fun j hj => absurd hj (Nat.not_lt_zero _)⟩
theorem word_A : wordB ⟨#[65]⟩ = true := by kernel_rfl
theorem word_r : wordB ⟨#[114]⟩ = true := by kernel_rfl
theorem pair_check {k : Int} (h2 : 2 ≤ k) (h3 : k ≤ 3) : CheckP 4 (pairL k) := by
  refine ⟨by omega, by omega, by simp [pairL], fun i hi => ?_, fun i hi => ?_, ⟨fun i hi => ?_, fun i hi he => ?_, fun i hi he => ?_, fun i hi => ?_⟩⟩
  · match i, hi with
    | 0, _ => exact ⟨show (0 : Int) < 1 by omega, show (1 : Int) < 4 by omega⟩
    | 1, _ => exact ⟨show (1 : Int) < k by omega, show k < 4 by omega⟩
  · match i, hi with
    | 0, _ => exact ⟨word_A, by simp [pairL, rd_T76], fun h => absurd (by simp [pairL, rd_T76]) h, by simp [pairL, rd_T76], fun j hj => absurd hj (Nat.not_lt_zero _), fun j hj => absurd hj (Nat.not_lt_zero _)⟩
    | 1, _ => exact ⟨word_A, ⟨fun h => absurd h (by simp [pairL, rd_T76]), fun h => absurd h (by simp [pairL, rd_T76])⟩, fun _ => word_r, by simp [pairL, rd_T76], fun j hj => absurd hj (Nat.not_lt_zero _), fun j hj => absurd hj (Nat.not_lt_zero _)⟩
  · match i, hi with
    | 0, _ =>
      intro j hj
      have hj1 : j < 1 := hj
      have hj0 : j = 0 := by omega
      subst hj0
      exact ⟨1, by simp [pairL], rfl, rfl⟩
    | 1, _ => exact fun j hj => absurd hj (Nat.not_lt_zero _)
  · match i, hi with
    | 0, _ =>
      show ([k] ++ ([] ++ [])).count 1 = 0
      exact List.count_eq_zero.2 (by simp; omega)
    | 1, _ => exact absurd he (by simp [pairL, rd_T76])
  · match i, hi with
    | 0, _ => exact absurd rfl he
    | 1, _ =>
      show ([k] ++ ([] ++ [])).count k = 1
      simp
  · match i, hi with
    | 0, _ => exact .inl rfl
    | 1, _ => exact .inr ⟨0, by simp [pairL], rfl, .inl rfl⟩
def allocs (w : World) : List Obj → World
  | [] => w
  | o :: os => allocs (w.alloc o) os
theorem allocs_below : ∀ (os : List Obj) (w0 w : World), Below w0.heap.size w0 w → Below w0.heap.size w0 (allocs w os)
  | [], _, _, h => h
  | o :: os, w0, w, h => allocs_below os w0 (w.alloc o) (below_alloc h o)
theorem allocs_at : ∀ (os : List Obj) (w : World) (k : Nat) (o : Obj), os[k]? = some o → (allocs w os).heap[w.heap.size + k]? = some o
  | [], _, _, _, h => by simp at h
  | p :: os, w, 0, o, h => by
    obtain rfl : p = o := Option.some.inj h
    have h1 : (w.alloc p).heap[w.heap.size]? = some p := blk_new _ _
    have h2 := (allocs_below os (w.alloc p) (w.alloc p) (Below.refl _ _)).block w.heap.size (by simp)
    exact h2.trans h1
  | p :: os, w, k + 1, o, h => by
    have h1 := allocs_at os (w.alloc p) k o (by simpa using h)
    have e : (w.alloc p).heap.size + k = w.heap.size + (k + 1) := by simp; omega
    rw [e] at h1
    exact h1
abbrev pairO (k : Int) (g : Nat) : Obj := .cells #[.int .i64 1, .string ⟨#[65]⟩, .int .i64 0, .string ⟨#[]⟩, .slice none 0 0, .slice (some ⟨g, 0, none⟩) 1 1, .slice none 0 0, .int .i64 k, .string ⟨#[65]⟩, .int .i64 1, .string ⟨#[114]⟩, .slice none 0 0, .slice none 0 0, .slice none 0 0] 76
theorem nil_C {α : Type} (d : Kd α) (w : World) : Kd.C d w none 0 [] := Kd.F_now (Kd.F_nil d w (fun _ => False))
theorem pair_C {W : World} {k : Int} {g g5 : Nat} (hk : W.heap[g]? = some (pairO k g5)) (h5 : W.heap[g5]? = some (.cells #[.int .i64 k] 3 (0, 0))) : Kd.C k76 W (some ⟨g, 0, none⟩) 2 (pairL k) := by
  refine ⟨rfl, by omega, fun _ => ⟨_, rfl, fun j p hj => ?_⟩⟩
  match j, hj with
  | 0, hj =>
    obtain rfl := Option.some.inj hj
    have hkid : Kd.C (Kd.int .i64) W (some ⟨g5, 0, none⟩) 1 [k] := ⟨rfl, by omega, fun _ => ⟨_, rfl, fun j p hj => by
      match j, hj with
      | 0, hj =>
        obtain rfl := Option.some.inj hj
        refine ⟨[.int .i64 k], rfl, rfl, fun i u hu => ?_⟩
        match i, hu with
        | 0, hu => obtain rfl := Option.some.inj hu; rw [add_plain]; exact blk_cell h5 0⟩⟩
    refine ⟨_, rfl, k76_mk W ⟨1, ⟨#[65]⟩, 0, ⟨#[]⟩, [], [k], []⟩ (c4 := 0) (Nat.le_refl _) (nil_C _ W) (c5 := 1) (Nat.le_refl _) hkid (c6 := 0) (Nat.le_refl _) (nil_C _ W), fun i u hu => ?_⟩
    rw [add_plain, Nat.zero_mul, Nat.zero_add, blk_cell hk]
    match i, hu with
    | 0, hu => exact hu
    | 1, hu => exact hu
    | 2, hu => exact hu
    | 3, hu => exact hu
    | 4, hu => exact hu
    | 5, hu => exact hu
    | 6, hu => exact hu
  | 1, hj =>
    obtain rfl := Option.some.inj hj
    refine ⟨_, rfl, k76_mk W ⟨k, ⟨#[65]⟩, 1, ⟨#[114]⟩, [], [], []⟩ (c4 := 0) (Nat.le_refl _) (nil_C _ W) (c5 := 0) (Nat.le_refl _) (nil_C _ W) (c6 := 0) (Nat.le_refl _) (nil_C _ W), fun i u hu => ?_⟩
    rw [add_plain, blk_cell hk]
    match i, hu with
    | 0, hu => exact hu
    | 1, hu => exact hu
    | 2, hu => exact hu
    | 3, hu => exact hu
    | 4, hu => exact hu
    | 5, hu => exact hu
    | 6, hu => exact hu
def TwoPost (w : World) (e : Ending) (w' : World) : Prop :=
  ∃ g1 g2, e = .returned (.tuple #[.agg #[.int .i64 4, .slice (some ⟨g1, 0, none⟩) 2 2], .agg #[.int .i64 4, .slice (some ⟨g2, 0, none⟩) 2 2]]) ∧ Kd.C k76 w' (some ⟨g1, 0, none⟩) 2 (pairL 2) ∧ Kd.C k76 w' (some ⟨g2, 0, none⟩) 2 (pairL 3) ∧ Below w.heap.size w w'
abbrev Z27 : Obj := .cells #[.int .i64 0, .slice none 0 0] 27
def twoOs (s : Nat) : List Obj := [Z27, Z27, .cells #[.int .i64 2] 3, pairO 2 (s + 1 + 1), .cells #[.int .i64 4, .slice (some ⟨s + 1 + 1 + 1, 0, none⟩) 2 2] 27, .cells #[.int .i64 3] 3, pairO 3 (s + 1 + 1 + 1 + 1 + 1), .cells #[.int .i64 4, .slice (some ⟨s + 1 + 1 + 1 + 1 + 1 + 1, 0, none⟩) 2 2] 27]
theorem twoF_done {w W : World} (hW : Wr (fun k => k = w.heap.size ∨ k = w.heap.size + 1) (allocs w (twoOs w.heap.size)) W) :
    TwoPost w (.returned (.tuple #[.agg #[.int .i64 4, .slice (some ⟨w.heap.size + 1 + 1 + 1, 0, none⟩) 2 2], .agg #[.int .i64 4, .slice (some ⟨w.heap.size + 1 + 1 + 1 + 1 + 1 + 1, 0, none⟩) 2 2]]))
      ((((W.setCell ⟨w.heap.size, 0, none⟩ (.int .i64 4)).setCell ⟨w.heap.size, 1, none⟩ (.slice (some ⟨w.heap.size + 1 + 1 + 1, 0, none⟩) 2 2)).setCell ⟨w.heap.size + 1, 0, none⟩ (.int .i64 4)).setCell ⟨w.heap.size + 1, 1, none⟩ (.slice (some ⟨w.heap.size + 1 + 1 + 1 + 1 + 1 + 1, 0, none⟩) 2 2)) := by
  have hat := fun k o h => allocs_at (twoOs w.heap.size) w k o h
  have hk : ∀ k o, 2 ≤ k → (twoOs w.heap.size)[k]? = some o → ((((W.setCell ⟨w.heap.size, 0, none⟩ (.int .i64 4)).setCell ⟨w.heap.size, 1, none⟩ (.slice (some ⟨w.heap.size + 1 + 1 + 1, 0, none⟩) 2 2)).setCell ⟨w.heap.size + 1, 0, none⟩ (.int .i64 4)).setCell ⟨w.heap.size + 1, 1, none⟩ (.slice (some ⟨w.heap.size + 1 + 1 + 1 + 1 + 1 + 1, 0, none⟩) 2 2)).heap[w.heap.size + k]? = some o := fun k o h2 h => by
    rw [Below.heap_setCell _ _ _ _ (by show w.heap.size + k ≠ w.heap.size + 1; omega), Below.heap_setCell _ _ _ _ (by show w.heap.size + k ≠ w.heap.size + 1; omega), Below.heap_setCell _ _ _ _ (by show w.heap.size + k ≠ w.heap.size; omega), Below.heap_setCell _ _ _ _ (by show w.heap.size + k ≠ w.heap.size; omega)]
    exact (hW.block _ (Array.getElem?_eq_some_iff.1 (hat k o h)).1 (by omega)).trans (hat k o h)
  refine ⟨_, _, rfl, pair_C (hk 3 _ (by omega) rfl) (hk 2 _ (by omega) rfl), pair_C (hk 6 _ (by omega) rfl) (hk 5 _ (by omega) rfl), ?_⟩
  have hb : Below w.heap.size w W := ((Wr.of_below (S := fun k => k = w.heap.size ∨ k = w.heap.size + 1) (allocs_below (twoOs w.heap.size) w w (Below.refl _ _))).trans hW (fun _ _ h => h)).below (Nat.le_refl _) (fun k h => by omega)
  exact (((hb.setCell (Nat.le_refl _) _).setCell (Nat.le_refl _) _).setCell (Nat.le_succ _) _).setCell (Nat.le_succ _) _
def TC (s : Nat) (w : World) := {W : World // Wr (fun k => k = s ∨ k = s + 1) w W ∧ ((w.heap[s]? = some Z27 ∧ w.heap[s + 1]? = some Z27) → ∃ u0 u1 v0 v1, W.heap[s]? = some (.cells #[u0, u1] 27 (0, 0)) ∧ W.heap[s + 1]? = some (.cells #[v0, v1] 27 (0, 0)))}
instance (s : Nat) (w : World) : Nonempty (TC s w) := ⟨⟨w, Wr.refl _ _, fun h => ⟨_, _, _, _, h.1, h.2⟩⟩⟩
theorem tc_cell {s : Nat} {w : World} {a : Addr} {v : Value} (h : w.cell? a = some v) (hS : ¬ (a.block = s ∨ a.block = s + 1)) (x : TC s w) : x.1.cell? a = some v := ww_cell (S := fun k => k = s ∨ k = s + 1) h hS ⟨x.1, x.2.1⟩
set_option maxRecDepth 100000 in
set_option maxHeartbeats 4000000 in
theorem two_any (w : World) : Calls Try.prog 45 #[] w (TwoPost w) := by
  have HD := hidm (fun W => twoF_done (w := w) (W := W))
  have HAT : Hid (∀ k o, (twoOs w.heap.size)[k]? = some o → (allocs w (twoOs w.heap.size)).heap[w.heap.size + k]? = some o) := fun k o h => allocs_at (twoOs w.heap.size) w k o h
  have HE : Hid (allocs w (twoOs w.heap.size) = ((((((((w.alloc Z27).alloc Z27).alloc (.cells #[.int .i64 2] 3)).alloc (pairO 2 (w.heap.size + 1 + 1))).alloc (.cells #[.int .i64 4, .slice (some ⟨w.heap.size + 1 + 1 + 1, 0, none⟩) 2 2] 27)).alloc (.cells #[.int .i64 3] 3)).alloc (pairO 3 (w.heap.size + 1 + 1 + 1 + 1 + 1))).alloc (.cells #[.int .i64 4, .slice (some ⟨w.heap.size + 1 + 1 + 1 + 1 + 1 + 1, 0, none⟩) 2 2] 27))) := rfl
  go_enter Try.func45, Try.ntmps45
  go_wp2_with fail
  generalize ((((((((w.alloc Z27).alloc Z27).alloc (.cells #[.int .i64 2] 3)).alloc (pairO 2 (w.heap.size + 1 + 1))).alloc (.cells #[.int .i64 4, .slice (some ⟨w.heap.size + 1 + 1 + 1, 0, none⟩) 2 2] 27)).alloc (.cells #[.int .i64 3] 3)).alloc (pairO 3 (w.heap.size + 1 + 1 + 1 + 1 + 1))).alloc (.cells #[.int .i64 4, .slice (some ⟨w.heap.size + 1 + 1 + 1 + 1 + 1 + 1, 0, none⟩) 2 2] 27)) = W8 at HE ⊢
  rw [HE.out] at HD HAT
  have H0 : Hid (W8.heap[w.heap.size]? = some (.cells #[.int .i64 0, .slice none 0 0] 27 (0, 0))) := HAT.out 0 _ rfl
  have H1 : Hid (W8.heap[w.heap.size + 1]? = some (.cells #[.int .i64 0, .slice none 0 0] 27 (0, 0))) := HAT.out 1 _ rfl
  have H4 : Hid (W8.heap[w.heap.size + 1 + 1 + 1 + 1]? = some (.cells #[.int .i64 4, .slice (some ⟨w.heap.size + 1 + 1 + 1, 0, none⟩) 2 2] 27 (0, 0))) := HAT.out 4 _ rfl
  have H7 : Hid (W8.heap[w.heap.size + 1 + 1 + 1 + 1 + 1 + 1 + 1]? = some (.cells #[.int .i64 4, .slice (some ⟨w.heap.size + 1 + 1 + 1 + 1 + 1 + 1, 0, none⟩) 2 2] 27 (0, 0))) := HAT.out 7 _ rfl
  clear HE HAT
  have s0 : ∀ y : TC w.heap.size W8, y.1.cell? ⟨w.heap.size + 1 + 1 + 1 + 1, 0, none⟩ = some (.int .i64 4) := tc_cell (blk_cell H4.out 0) (by simp; omega)
  have s1 : ∀ y : TC w.heap.size W8, y.1.cell? ⟨w.heap.size + 1 + 1 + 1 + 1, 1, none⟩ = some (.slice (some ⟨w.heap.size + 1 + 1 + 1, 0, none⟩) 2 2) := tc_cell (blk_cell H4.out 1) (by simp; omega)
  have s2 : ∀ y : TC w.heap.size W8, y.1.cell? ⟨w.heap.size + 1 + 1 + 1 + 1 + 1 + 1 + 1, 0, none⟩ = some (.int .i64 4) := tc_cell (blk_cell H7.out 0) (by simp; omega)
  have s3 : ∀ y : TC w.heap.size W8, y.1.cell? ⟨w.heap.size + 1 + 1 + 1 + 1 + 1 + 1 + 1, 1, none⟩ = some (.slice (some ⟨w.heap.size + 1 + 1 + 1 + 1 + 1 + 1, 0, none⟩) 2 2) := tc_cell (blk_cell H7.out 1) (by simp; omega)
  refine wp_region_noPanic ?_
  refine wp_region_holdX (C := fun w' => ∃ x : TC w.heap.size W8, w' = x.1) 3 [] [] [0, 1] [2] (by kernel_rfl) (by kernel_rfl) (by kernel_rfl) (by kernel_rfl) (fun _ _ _ _ _ h => (h : False).elim) ⟨⟨{ W8 with drawn := W8.drawn + 1 }, ⟨rfl, rfl, rfl, Nat.le_refl _, fun _ _ _ => rfl⟩, fun _ => ⟨_, _, _, _, H0.out, H1.out⟩⟩, rfl⟩ ?_
  simp only [pickOps, Option.elim_some, List.getElem?_cons_succ, List.getElem?_cons_zero, List.drop_succ_cons, List.drop_zero]
  repeat (go_big_quiet_step (fail))
  refine wpQuiet_nil ?_
  rintro _ ⟨y, rfl⟩
  have hwy := y.2.1
  obtain ⟨u0, u1, v0, v1, k0, k1⟩ := y.2.2 ⟨H0.out, H1.out⟩
  clear s0 s1 s2 s3
  generalize y.1 = wy at hwy k0 k1 ⊢
  have HO := hidm (HD.out wy hwy)
  have HBY := hidm hwy
  have K0 := hidm k0
  have K1 := hidm k1
  clear H0 H1 H4 H7 HD hwy k0 k1
  have HNE : Hid (w.heap.size ≠ w.heap.size + 1) := by unfold Hid; omega
  have K2 := hidm (blk_far (p := ⟨w.heap.size, 1, none⟩) (blk_far (p := ⟨w.heap.size, 0, none⟩) K1.out (Ne.symm HNE.out) (.int .i64 4)) (Ne.symm HNE.out) (.slice (some ⟨w.heap.size + 1 + 1 + 1, 0, none⟩) 2 2))
  have q0 : wy.cell? ⟨w.heap.size, 0, none⟩ = some u0 := blk_cell K0.out 0
  have q1 : wy.cell? ⟨w.heap.size, 1, none⟩ = some u1 := blk_cell K0.out 1
  have q2 : ((wy.setCell ⟨w.heap.size, 0, none⟩ (.int .i64 4)).setCell ⟨w.heap.size, 1, none⟩ (.slice (some ⟨w.heap.size + 1 + 1 + 1, 0, none⟩) 2 2)).cell? ⟨w.heap.size + 1, 0, none⟩ = some v0 := blk_cell K2.out 0
  have q3 : ((wy.setCell ⟨w.heap.size, 0, none⟩ (.int .i64 4)).setCell ⟨w.heap.size, 1, none⟩ (.slice (some ⟨w.heap.size + 1 + 1 + 1, 0, none⟩) 2 2)).cell? ⟨w.heap.size + 1, 1, none⟩ = some v1 := blk_cell K2.out 1
  have f0 : ∀ i, wy.frozen? ⟨w.heap.size, i, none⟩ = false := blk_frozen K0.out
  have f1 : ∀ i, ((wy.setCell ⟨w.heap.size, 0, none⟩ (.int .i64 4)).setCell ⟨w.heap.size, 1, none⟩ (.slice (some ⟨w.heap.size + 1 + 1 + 1, 0, none⟩) 2 2)).frozen? ⟨w.heap.size + 1, i, none⟩ = false := blk_frozen K2.out
  have N0 : Hid (((((wy.setCell ⟨w.heap.size, 0, none⟩ (.int .i64 4)).setCell ⟨w.heap.size, 1, none⟩ (.slice (some ⟨w.heap.size + 1 + 1 + 1, 0, none⟩) 2 2)).setCell ⟨w.heap.size + 1, 0, none⟩ (.int .i64 4)).setCell ⟨w.heap.size + 1, 1, none⟩ (.slice (some ⟨w.heap.size + 1 + 1 + 1 + 1 + 1 + 1, 0, none⟩) 2 2)).heap[w.heap.size]? = some (.cells #[.int .i64 4, .slice (some ⟨w.heap.size + 1 + 1 + 1, 0, none⟩) 2 2] 27 (0, 0))) := blk_far (blk_far (blk_put (blk_put K0.out 0 _ rfl) 1 _ rfl) HNE.out _) HNE.out _
  have N1 : Hid (((((wy.setCell ⟨w.heap.size, 0, none⟩ (.int .i64 4)).setCell ⟨w.heap.size, 1, none⟩ (.slice (some ⟨w.heap.size + 1 + 1 + 1, 0, none⟩) 2 2)).setCell ⟨w.heap.size + 1, 0, none⟩ (.int .i64 4)).setCell ⟨w.heap.size + 1, 1, none⟩ (.slice (some ⟨w.heap.size + 1 + 1 + 1 + 1 + 1 + 1, 0, none⟩) 2 2)).heap[w.heap.size + 1]? = some (.cells #[.int .i64 4, .slice (some ⟨w.heap.size + 1 + 1 + 1 + 1 + 1 + 1, 0, none⟩) 2 2] 27 (0, 0))) := blk_put (blk_put K2.out 0 _ rfl) 1 _ rfl
  have r0 : ((((wy.setCell ⟨w.heap.size, 0, none⟩ (.int .i64 4)).setCell ⟨w.heap.size, 1, none⟩ (.slice (some ⟨w.heap.size + 1 + 1 + 1, 0, none⟩) 2 2)).setCell ⟨w.heap.size + 1, 0, none⟩ (.int .i64 4)).setCell ⟨w.heap.size + 1, 1, none⟩ (.slice (some ⟨w.heap.size + 1 + 1 + 1 + 1 + 1 + 1, 0, none⟩) 2 2)).cell? ⟨w.heap.size, 0, none⟩ = some (.int .i64 4) := blk_cell N0.out 0
  have r1 : ((((wy.setCell ⟨w.heap.size, 0, none⟩ (.int .i64 4)).setCell ⟨w.heap.size, 1, none⟩ (.slice (some ⟨w.heap.size + 1 + 1 + 1, 0, none⟩) 2 2)).setCell ⟨w.heap.size + 1, 0, none⟩ (.int .i64 4)).setCell ⟨w.heap.size + 1, 1, none⟩ (.slice (some ⟨w.heap.size + 1 + 1 + 1 + 1 + 1 + 1, 0, none⟩) 2 2)).cell? ⟨w.heap.size, 1, none⟩ = some (.slice (some ⟨w.heap.size + 1 + 1 + 1, 0, none⟩) 2 2) := blk_cell N0.out 1
  have r2 : ((((wy.setCell ⟨w.heap.size, 0, none⟩ (.int .i64 4)).setCell ⟨w.heap.size, 1, none⟩ (.slice (some ⟨w.heap.size + 1 + 1 + 1, 0, none⟩) 2 2)).setCell ⟨w.heap.size + 1, 0, none⟩ (.int .i64 4)).setCell ⟨w.heap.size + 1, 1, none⟩ (.slice (some ⟨w.heap.size + 1 + 1 + 1 + 1 + 1 + 1, 0, none⟩) 2 2)).cell? ⟨w.heap.size + 1, 0, none⟩ = some (.int .i64 4) := blk_cell N1.out 0
  have r3 : ((((wy.setCell ⟨w.heap.size, 0, none⟩ (.int .i64 4)).setCell ⟨w.heap.size, 1, none⟩ (.slice (some ⟨w.heap.size + 1 + 1 + 1, 0, none⟩) 2 2)).setCell ⟨w.heap.size + 1, 0, none⟩ (.int .i64 4)).setCell ⟨w.heap.size + 1, 1, none⟩ (.slice (some ⟨w.heap.size + 1 + 1 + 1 + 1 + 1 + 1, 0, none⟩) 2 2)).cell? ⟨w.heap.size + 1, 1, none⟩ = some (.slice (some ⟨w.heap.size + 1 + 1 + 1 + 1 + 1 + 1, 0, none⟩) 2 2) := blk_cell N1.out 1
  have K0' := K0
  clear K0 K1 N0 N1 HNE
  refine runX_step (crem := [2]) (rs := [2]) (by kernel_rfl) ⟨?_, trivial⟩
  refine ⟨_, rfl, rfl, .inr (.inr ?_)⟩
  unfold Oper.wp
  generalize hr : Sem.run Try.prog _ _ = r
  have hr2 : r = .ok .skip ((wy.setCell ⟨w.heap.size, 0, none⟩ (.int .i64 4)).setCell ⟨w.heap.size, 1, none⟩ (.slice (some ⟨w.heap.size + 1 + 1 + 1, 0, none⟩) 2 2)) := by rw [← hr]; go_simp
  rw [hr2]
  clear hr hr2
  refine ⟨⟨⟨((wy.setCell ⟨w.heap.size, 0, none⟩ (.int .i64 4)).setCell ⟨w.heap.size, 1, none⟩ (.slice (some ⟨w.heap.size + 1 + 1 + 1, 0, none⟩) 2 2)), (HBY.out.set _ _ _ (.inl (.inl rfl))).set _ _ _ (.inl (.inl rfl)), fun _ => ⟨_, _, _, _, blk_put (blk_put K0'.out 0 _ rfl) 1 _ rfl, K2.out⟩⟩, rfl⟩, ?_⟩
  simp only [Act.put]
  clear q0 q1 f0
  show wpList _ _ _ _ _ _
  go_wp2_with fail
  refine NoPanic.normal ?_
  go_wp2_with fail
  simp [bodyPost, results, Try.results45, go_sem, r0, r1, r2, r3]
  exact HO.out
end Go.Proofs.Ytlopfkkegjajlaa
namespace Go.Proofs.Ytlopfkkegjajlaa
open Go.RowKit Go.Proofs.YtlopfkkegjajlaaW.PrintWords PHistoryTouched
theorem pushL_new {W : World} {D : Nat → Prop} {pb : Nat} {ms : List S27} {now : Nat} {nx : Int} {l : List S76} {A : Option Addr} {c : Nat} (hP : PastR W D pb ms now) (hD : ¬ D pb) (hn : now < ms.length) (hm : ms.length ≤ 65) (hr : Kd.C k76 W A l.length l) (hwf : WfL l) (hs : SmallL l) (hk : CheckP nx l) (hne : (⟨nx, l⟩ : S27) ≠ rd_T27 ms now) :
    Calls Try.prog 15 #[.pointer (some ⟨pb, 0, none⟩), .agg #[.int .i64 nx, .slice A l.length c]] W (PastPost pb D 0 (pushed ms now ⟨nx, l⟩) ((pushed ms now ⟨nx, l⟩).length - 1) W) := by
  obtain ⟨ad, cp, hb, hcp, hF⟩ := hP
  refine (push_yes nx pb D ad ms cp now A l c W hb hn hm hcp hF hD hr hwf hs hk).mono ?_
  rintro e w' (⟨he, _⟩ | ⟨_, A', c', rfl, hc', hb', hF', hw'⟩)
  · exact absurd he hne
  · have hpos : 0 < (pushed ms now ⟨nx, l⟩).length := by
      unfold pushed
      split
      · simp at *; omega
      · simp
    obtain ⟨ad', cs, hA, _⟩ := Kd.F_get hF' z27 0 (by omega) (by omega)
    subst hA
    exact ⟨rfl, ⟨ad', c', hb', hc', hF'⟩, hw'⟩
theorem pushL_same {W : World} {D : Nat → Prop} {pb : Nat} {ms : List S27} {now : Nat} {nx : Int} {l : List S76} {A : Option Addr} {c : Nat} (hP : PastR W D pb ms now) (hD : ¬ D pb) (hn : now < ms.length) (hm : ms.length ≤ 65) (hr : Kd.C k76 W A l.length l) (hwf : WfL l) (hs : SmallL l) (hk : CheckP nx l) (he : (⟨nx, l⟩ : S27) = rd_T27 ms now) :
    Calls Try.prog 15 #[.pointer (some ⟨pb, 0, none⟩), .agg #[.int .i64 nx, .slice A l.length c]] W fun e w' => e = .returned (.int .i64 0) ∧ Below W.heap.size W w' := by
  obtain ⟨ad, cp, hb, hcp, hF⟩ := hP
  refine (push_yes nx pb D ad ms cp now A l c W hb hn hm hcp hF hD hr hwf hs hk).mono ?_
  rintro e w' (⟨_, rfl, hb'⟩ | ⟨hne, _⟩)
  · exact ⟨rfl, hb'⟩
  · exact absurd he hne
theorem pushL_no {W : World} {D : Nat → Prop} {pb : Nat} {ms : List S27} {now : Nat} {nx : Int} {l : List S76} {A : Option Addr} {c : Nat} (hP : PastR W D pb ms now) (hn : now < ms.length) (hr : Kd.C k76 W A l.length l) (hwf : WfL l) (hk : ¬ CheckP nx l) :
    Calls Try.prog 15 #[.pointer (some ⟨pb, 0, none⟩), .agg #[.int .i64 nx, .slice A l.length c]] W fun e w' => e = .returned (.int .i64 29) ∧ Below W.heap.size W w' := by
  obtain ⟨ad, cp, hb, hcp, hF⟩ := hP
  exact push_no nx pb (some ad) ms.length cp now A l c W hb hn hr hwf hk
theorem undoL_yes {W : World} {D : Nat → Prop} {pb : Nat} {ms : List S27} {now : Nat} (hP : PastR W D pb ms (now + 1)) (hD : ¬ D pb) (hn : now + 1 < ms.length) (hm : ms.length ≤ 65) (hs : SmallL (rd_T27 ms now).f1) :
    Calls Try.prog 17 #[.pointer (some ⟨pb, 0, none⟩)] W (MovePost pb D (rd_T27 ms now) 0 ms now W) := by
  have hlt := hP.lt
  obtain ⟨ad, cp, hb, hcp, hF⟩ := hP
  refine (undo_any (m := rd_T27 ms now) (er := 0) (nw := now) hlt (fun W' hW' => ?_)).mono (fun e w' hp => move_of_step hcp hF hD hp)
  exact to_yes (-1) pb D (some ad) ms cp (now + 1) now W' (blk_below hb hW') (Kd.F_below hF hW') hD (by omega) hs (by omega) (by omega)
theorem undoL_no {W : World} {D : Nat → Prop} {pb : Nat} {ms : List S27} (hP : PastR W D pb ms 0) (hD : ¬ D pb) (hn : 0 < ms.length) (hm : ms.length ≤ 65) :
    Calls Try.prog 17 #[.pointer (some ⟨pb, 0, none⟩)] W (MovePost pb D ⟨0, []⟩ 270 ms 0 W) := by
  have hlt := hP.lt
  obtain ⟨ad, cp, hb, hcp, hF⟩ := hP
  exact (undo_any (m := ⟨0, []⟩) (er := 270) hlt (fun W' hW' => to_no (-1) pb (some ad) ms.length cp 0 W' (blk_below hb hW') hn (by omega) (by omega) (.inl (by omega)))).mono (fun e w' hp => move_of_step hcp hF hD hp)
theorem redoL_yes {W : World} {D : Nat → Prop} {pb : Nat} {ms : List S27} {now : Nat} (hP : PastR W D pb ms now) (hD : ¬ D pb) (hn : now + 1 < ms.length) (hm : ms.length ≤ 65) (hs : SmallL (rd_T27 ms (now + 1 : Nat)).f1) :
    Calls Try.prog 20 #[.pointer (some ⟨pb, 0, none⟩)] W (MovePost pb D (rd_T27 ms (now + 1 : Nat)) 0 ms (now + 1) W) := by
  have hlt := hP.lt
  obtain ⟨ad, cp, hb, hcp, hF⟩ := hP
  refine (redo_any (m := rd_T27 ms (now + 1 : Nat)) (er := 0) (nw := now + 1) hlt (fun W' hW' => ?_)).mono (fun e w' hp => move_of_step hcp hF hD hp)
  exact to_yes 1 pb D (some ad) ms cp now (now + 1) W' (blk_below hb hW') (Kd.F_below hF hW') hD (by omega) hs (by omega) (by omega)
theorem redoL_no {W : World} {D : Nat → Prop} {pb : Nat} {ms : List S27} {now : Nat} (hP : PastR W D pb ms now) (hD : ¬ D pb) (hn : now + 1 = ms.length) (hm : ms.length ≤ 65) :
    Calls Try.prog 20 #[.pointer (some ⟨pb, 0, none⟩)] W (MovePost pb D ⟨0, []⟩ 270 ms now W) := by
  have hlt := hP.lt
  obtain ⟨ad, cp, hb, hcp, hF⟩ := hP
  exact (redo_any (m := ⟨0, []⟩) (er := 270) hlt (fun W' hW' => to_no 1 pb (some ad) ms.length cp now W' (blk_below hb hW') (by omega) (by omega) (by omega) (.inr (by omega)))).mono (fun e w' hp => move_of_step hcp hF hD hp)
theorem depthL {W : World} {D : Nat → Prop} {pb : Nat} {ms : List S27} {now : Nat} (hP : PastR W D pb ms now) (hn : now < ms.length) (hm : ms.length ≤ 65) :
    Calls Try.prog 32 #[.pointer (some ⟨pb, 0, none⟩)] W fun e w' => e = .returned (.tuple #[.int .i64 (now : Int), .int .i64 ((ms.length : Int) - 1 - now)]) ∧ Below W.heap.size W w' := by
  obtain ⟨ad, cp, hb, hcp, hF⟩ := hP
  exact depth_any pb (some ad) ms.length cp now W hb hn (by omega)
theorem pastL_of_new {w w' : World} {pb : Nat} {m : S27} {A : Option Addr} {c : Nat} (hc : 1 ≤ c) (hb : w'.heap[pb]? = some (pastO A 1 c 0)) (hF : Kd.F k27 w' (fun k => w.heap.size ≤ k ∧ k < w'.heap.size ∧ k ≠ pb) A 1 [m]) : PastR w' (fun k => w.heap.size ≤ k ∧ k < w'.heap.size ∧ k ≠ pb) pb [m] 0 := by
  obtain ⟨ad, cs, hA, _⟩ := Kd.F_get hF z27 0 (by omega) (by omega)
  subst hA
  exact ⟨ad, c, hb, hc, hF⟩
structure ModW (pb g : Nat) (A : Option Addr) (c : Nat) (m : S27) (W : World) : Prop where
  k : W.heap[g]? = some (.cells #[.int .i64 m.f0, .slice A m.f1.length c] 27 (0, 0))
  ne : g ≠ pb
  f : Kd.F k76 W (fun k => k ≠ pb) A m.f1.length m.f1
  l : m.f1.length ≤ c
theorem ModW.wr {pb g : Nat} {A : Option Addr} {c : Nat} {m : S27} {W W' : World} (h : ModW pb g A c m W) (hw : Wr (· = pb) W W') : ModW pb g A c m W' :=
  ⟨(hw.block _ (Array.getElem?_eq_some_iff.1 h.k).1 h.ne).trans h.k, h.ne, Kd.F_step h.f (fun k hk hlt => hw.block k hlt hk), h.l⟩
theorem ModW.below {pb g : Nat} {A : Option Addr} {c : Nat} {m : S27} {W W' : World} (h : ModW pb g A c m W) (hb : Below W.heap.size W W') : ModW pb g A c m W' :=
  ⟨blk_below h.k hb, h.ne, Kd.F_below h.f hb, h.l⟩
theorem modW_of_move {W w' : World} {pb : Nat} {m : S27} {v : Value} (hpb : pb < W.heap.size) (hsz : W.heap.size ≤ w'.heap.size) (h : k76.R 76 w' W.heap.size (fun _ => True) v m.f1) : ∃ A c, v = .slice A m.f1.length c ∧ ModW pb w'.heap.size A c m (w'.alloc (.cells #[.int .i64 m.f0, .slice A m.f1.length c] 27)) := by
  obtain ⟨A9, c9, e9, h8, h9⟩ := (Kd.R_V (d := k76) (base' := 0) (Kd.R_mono (Kd.R_bound h) (ok' := fun k => k ≠ pb) (fun k hk => by have := hk.2.1; omega)))
  exact ⟨A9, c9, e9, blk_new _ _, by omega, Kd.F_alloc h9 _, h8⟩
theorem refT_pair : refT (pairL 2) (pairL 3) = [1, 2, 3] := by
  have h1 : refT [(⟨2, ⟨#[65]⟩, 1, ⟨#[114]⟩, [], [], []⟩ : S76)] [⟨3, ⟨#[65]⟩, 1, ⟨#[114]⟩, [], [], []⟩] = [2, 3] := by
    rw [refT, if_pos (by decide), refT_nil]
    rfl
  unfold pairL
  rw [refT, if_neg (by decide), if_neg (by decide), h1, tv_no (by simp)]
  rfl
theorem check_nil : ¬ CheckP 0 [] := fun h => by have := h.lo; omega
end Go.Proofs.Ytlopfkkegjajlaa
namespace Go.Proofs.Ytlopfkkegjajlaa
open Go.RowKit Go.Proofs.YtlopfkkegjajlaaW.PrintWords PHistoryTouched
def mA : S27 := ⟨4, pairL 2⟩
def mB : S27 := ⟨4, pairL 3⟩
theorem mAB : mB ≠ mA := fun h => by
  have := congrArg (fun m : S27 => (rd_T76 m.f1 1).f0) h
  simp [mA, mB, pairL, rd_T76] at this
theorem cA : CheckP 4 (pairL 2) := pair_check (by omega) (by omega)
theorem cB : CheckP 4 (pairL 3) := pair_check (by omega) (by omega)
theorem i64_small {k : Int} (h0 : 0 ≤ k) (h1 : k ≤ 9) : I64 k := ⟨by omega, by omega⟩
theorem modW_of_C {W : World} {pb g g1 : Nat} {m : S27} {c : Nat} (hk : W.heap[g]? = some (.cells #[.int .i64 m.f0, .slice (some ⟨g1, 0, none⟩) m.f1.length c] 27 (0, 0))) (hC : Kd.C k76 W (some ⟨g1, 0, none⟩) m.f1.length m.f1) (hl : m.f1.length ≤ c) (hpb : W.heap.size ≤ pb) : ModW pb g (some ⟨g1, 0, none⟩) c m W :=
  ⟨hk, by have := (Array.getElem?_eq_some_iff.1 hk).1; omega, Kd.F_mono (Kd.C_F heap76 hC) (fun k hk => by have : k < W.heap.size := hk; omega), hl⟩
theorem below_wrT {w0 W W' : World} {T : Nat → Prop} (h : Below w0.heap.size w0 W) (hw : Wr T W W') (hT : ∀ k, T k → k < W.heap.size → w0.heap.size ≤ k) : Below w0.heap.size w0 W' :=
  ((Wr.of_below (S := fun k => w0.heap.size ≤ k) h).trans (hw.mono (S' := fun k => w0.heap.size ≤ k) (fun k hk ht => hT k ht hk)) (fun _ _ h => h)).below (Nat.le_refl _) (fun _ h => h)
theorem int_at {W : World} {A : Option Addr} {n : Nat} {xs : List Int} (h : Kd.C (Kd.int .i64) W A n xs) (i : Nat) (hi : i < n) : ∃ ad, A = some ad ∧ W.cell? (ad.add i) = some (.int .i64 (xs.getD i 0)) := by
  obtain ⟨ad, c, hA, _, hK, hc⟩ := Kd.C_get h 0 (i : Int) (by omega) (by omega)
  have hK' : c = [.int .i64 (xs.getD i 0)] := hK
  have := hc 0 (.int .i64 (xs.getD i 0)) (by rw [hK']; rfl)
  have e : (i : Int).toNat * (Kd.int .i64).sz + 0 = i := by show i * 1 + 0 = i; omega
  rw [e] at this
  exact ⟨ad, hA, this⟩
set_option maxRecDepth 100000 in
set_option maxHeartbeats 8000000 in
theorem awake_any (w : World) : Calls Try.prog 28 #[] w fun e w' => e = .returned (.bool true) ∧ Below w.heap.size w w' := by
  go_enter Try.func28, Try.ntmps28
  go_wp2_with fail
  refine (two_any w).mono ?_
  rintro e w1 ⟨g1, g2, rfl, hc1, hc2, hb1⟩
  have HB := hidm (below_alloc (below_alloc hb1 (.cells #[.int .i64 4, .slice (some ⟨g1, 0, none⟩) 2 2] 27)) (.cells #[.int .i64 4, .slice (some ⟨g2, 0, none⟩) 2 2] 27))
  have KA : Hid (((w1.alloc (.cells #[.int .i64 4, .slice (some ⟨g1, 0, none⟩) 2 2] 27)).alloc (.cells #[.int .i64 4, .slice (some ⟨g2, 0, none⟩) 2 2] 27)).heap[w1.heap.size]? = some (.cells #[.int .i64 mA.f0, .slice (some ⟨g1, 0, none⟩) mA.f1.length 2] 27 (0, 0))) := blk_alloc (blk_new w1 (.cells #[.int .i64 4, .slice (some ⟨g1, 0, none⟩) 2 2] 27)) (.cells #[.int .i64 4, .slice (some ⟨g2, 0, none⟩) 2 2] 27)
  have KB : Hid (((w1.alloc (.cells #[.int .i64 4, .slice (some ⟨g1, 0, none⟩) 2 2] 27)).alloc (.cells #[.int .i64 4, .slice (some ⟨g2, 0, none⟩) 2 2] 27)).heap[w1.heap.size + 1]? = some (.cells #[.int .i64 mB.f0, .slice (some ⟨g2, 0, none⟩) mB.f1.length 2] 27 (0, 0))) := blk_new2 w1 _ _
  have HC1 : Hid (Kd.C k76 ((w1.alloc (.cells #[.int .i64 4, .slice (some ⟨g1, 0, none⟩) 2 2] 27)).alloc (.cells #[.int .i64 4, .slice (some ⟨g2, 0, none⟩) 2 2] 27)) (some ⟨g1, 0, none⟩) mA.f1.length mA.f1) := Kd.C_below hc1 (below_alloc (below_alloc (Below.refl _ _) _) _)
  have HC2 : Hid (Kd.C k76 ((w1.alloc (.cells #[.int .i64 4, .slice (some ⟨g1, 0, none⟩) 2 2] 27)).alloc (.cells #[.int .i64 4, .slice (some ⟨g2, 0, none⟩) 2 2] 27)) (some ⟨g2, 0, none⟩) mB.f1.length mB.f1) := Kd.C_below hc2 (below_alloc (below_alloc (Below.refl _ _) _) _)
  clear hc1 hc2 hb1
  go_wp2_with fail
  generalize ((w1.alloc (.cells #[.int .i64 4, .slice (some ⟨g1, 0, none⟩) 2 2] 27)).alloc (.cells #[.int .i64 4, .slice (some ⟨g2, 0, none⟩) 2 2] 27)) = w2 at HB KA KB HC1 HC2 ⊢
  generalize hga : w1.heap.size = ga at KA ⊢
  rw [hga] at KB
  clear hga
  refine (new_yes 4 (some ⟨g1, 0, none⟩) (pairL 2) 2 w2 HC1.out (pair_wf (i64_small (by omega) (by omega))) (pair_small 2) cA).mono ?_
  rintro e w3 ⟨pb, A3, c3, rfl, hpb, hc3, hblk, hF, hb3⟩
  have HPL : Hid (PastR w3 (fun k => w2.heap.size ≤ k ∧ k < w3.heap.size ∧ k ≠ pb) pb [mA] 0) := pastL_of_new hc3 hblk hF
  have MA := hidm ((modW_of_C (m := mA) KA.out HC1.out (Nat.le_refl _) hpb).below hb3)
  have MB := hidm ((modW_of_C (m := mB) KB.out HC2.out (Nat.le_refl _) hpb).below hb3)
  have HGP : Hid (w.heap.size ≤ pb) := Nat.le_trans HB.out.size hpb
  have HDN : Hid (¬ (w2.heap.size ≤ pb ∧ pb < w3.heap.size ∧ pb ≠ pb)) := fun h => h.2.2 rfl
  have HDL : Hid (∀ k, (w2.heap.size ≤ k ∧ k < w3.heap.size ∧ k ≠ pb) → k < w3.heap.size) := fun k hk => hk.2.1
  replace HB := hidm (below_step HB.out hb3)
  obtain ⟨D, hD⟩ : ∃ D : Nat → Prop, D = fun k => w2.heap.size ≤ k ∧ k < w3.heap.size ∧ k ≠ pb := ⟨_, rfl⟩
  rw [← hD] at HPL
  replace HDN : Hid (¬ D pb) := by rw [hD]; exact HDN
  replace HDL : Hid (∀ k, D k → k < w3.heap.size) := by rw [hD]; exact HDL
  clear hpb hc3 hblk hF hb3 KA KB HC1 HC2 hD
  have q0 : w3.cell? ⟨ga + 1, 0, none⟩ = some (.int .i64 4) := blk_cell MB.out.k 0
  have q1 : w3.cell? ⟨ga + 1, 1, none⟩ = some (.slice (some ⟨g2, 0, none⟩) 2 2) := blk_cell MB.out.k 1
  go_wp2_with fail
  refine (pushL_new (now := 0) (ms := [mA]) (nx := 4) (l := pairL 3) HPL.out HDN.out (by simp) (by simp) (Kd.F_now MB.out.f) (pair_wf (i64_small (by omega) (by omega))) (pair_small 3) cB mAB).mono ?_
  rintro e w4 ⟨rfl, hP4, hw4⟩
  have HPU : Hid (pushed [mA] 0 (⟨4, pairL 3⟩ : S27) = [mA, mB]) := hidm (by unfold pushed; simp [mB])
  rw [HPU.out] at hP4
  obtain ⟨E, hE⟩ : ∃ E : Nat → Prop, E = fun k => D k ∨ (w3.heap.size ≤ k ∧ k < w4.heap.size) := ⟨_, rfl⟩
  rw [← hE] at hP4
  have HPE : Hid (PastR w4 E pb [mA, mB] 1) := hP4
  have HEN : Hid (¬ E pb) := by
    rw [hE]
    exact hidm (fun h => h.elim HDN.out (fun h => by have := HPL.out.lt; omega))
  replace HB := hidm (below_wrT HB.out hw4 (fun k hk _ => by have := HGP.out; omega))
  replace MA := hidm (MA.out.wr hw4)
  replace MB := hidm (MB.out.wr hw4)
  clear hP4 hw4 hE HPL HDN HDL HPU q0 q1
  have q0 : w4.cell? ⟨ga + 1, 0, none⟩ = some (.int .i64 4) := blk_cell MB.out.k 0
  have q1 : w4.cell? ⟨ga + 1, 1, none⟩ = some (.slice (some ⟨g2, 0, none⟩) 2 2) := blk_cell MB.out.k 1
  go_wp2_with fail
  refine (pushL_same (now := 1) (ms := [mA, mB]) (nx := 4) (l := pairL 3) HPE.out HEN.out (by simp) (by simp) (Kd.F_now MB.out.f) (pair_wf (i64_small (by omega) (by omega))) (pair_small 3) cB rfl).mono ?_
  rintro e w5 ⟨rfl, hb5⟩
  replace HPE := hidm (HPE.out.below hb5)
  replace HB := hidm (below_step HB.out hb5)
  replace MA := hidm (MA.out.below hb5)
  replace MB := hidm (MB.out.below hb5)
  clear hb5 q0 q1
  go_wp2_with fail
  refine (undoL_yes (now := 0) (ms := [mA, mB]) HPE.out HEN.out (by simp) (by simp) (pair_small 2)).mono ?_
  rintro e w6 ⟨v6, he, hv6, hP6, hw6⟩
  have he' : e = .returned (.tuple #[.agg #[.int .i64 4, v6], .int .i64 0]) := he
  subst he'
  clear he
  obtain ⟨A7, c7, hv, hM7⟩ := modW_of_move (pb := pb) HPE.out.lt hw6.size hv6
  have hv' : v6 = .slice A7 2 c7 := hv
  subst hv'
  clear hv
  have M7 : Hid (ModW pb w6.heap.size A7 c7 mA (w6.alloc (.cells #[.int .i64 4, .slice A7 2 c7] 27))) := hM7
  have HBA : Hid (Below w6.heap.size w6 (w6.alloc (.cells #[.int .i64 4, .slice A7 2 c7] 27))) := below_alloc (Below.refl _ _) _
  replace HPE := hidm (hP6.below HBA.out)
  replace HB := hidm (below_step (below_wrT HB.out hw6 (fun k hk _ => by have := HGP.out; omega)) HBA.out)
  replace MA := hidm (MA.out.wr hw6)
  replace MB := hidm (MB.out.wr hw6)
  replace MA := hidm (MA.out.below HBA.out)
  replace MB := hidm (MB.out.below HBA.out)
  clear hv6 hP6 hw6 hM7 HBA
  go_wp2_with fail
  generalize (w6.alloc (.cells #[.int .i64 4, .slice A7 2 c7] 27)) = w7 at M7 HPE HB MA MB ⊢
  generalize w6.heap.size = g7 at M7 ⊢
  refine (undoL_no (ms := [mA, mB]) HPE.out HEN.out (by simp) (by simp)).mono ?_
  rintro e w8 ⟨v8, he, hv8, hP8, hw8⟩
  have he' : e = .returned (.tuple #[.agg #[.int .i64 0, v8], .int .i64 270]) := he
  subst he'
  clear he
  obtain ⟨A8, c8, hv, _⟩ := modW_of_move (pb := pb) (m := ⟨0, []⟩) HPE.out.lt hw8.size hv8
  have hv' : v8 = .slice A8 0 c8 := hv
  subst hv'
  clear hv
  have HBA : Hid (Below w8.heap.size w8 (w8.alloc (.cells #[.int .i64 0, .slice A8 0 c8] 27))) := below_alloc (Below.refl _ _) _
  replace HPE := hidm (hP8.below HBA.out)
  replace HB := hidm (below_step (below_wrT HB.out hw8 (fun k hk _ => by have := HGP.out; omega)) HBA.out)
  replace MA := hidm (MA.out.wr hw8)
  replace MB := hidm (MB.out.wr hw8)
  replace M7 := hidm (M7.out.wr hw8)
  replace MA := hidm (MA.out.below HBA.out)
  replace MB := hidm (MB.out.below HBA.out)
  replace M7 := hidm (M7.out.below HBA.out)
  clear hv8 hP8 hw8 HBA
  go_wp2_with fail
  generalize (w8.alloc (.cells #[.int .i64 0, .slice A8 0 c8] 27)) = w9 at HPE HB MA MB M7 ⊢
  refine (redoL_yes (now := 0) (ms := [mA, mB]) HPE.out HEN.out (by simp) (by simp) (pair_small 3)).mono ?_
  rintro e wa ⟨va, he, hva, hPa, hwa⟩
  have he' : e = .returned (.tuple #[.agg #[.int .i64 4, va], .int .i64 0]) := he
  subst he'
  clear he
  obtain ⟨Ab, cb, hv, hMb⟩ := modW_of_move (pb := pb) HPE.out.lt hwa.size hva
  have hv' : va = .slice Ab 2 cb := hv
  subst hv'
  clear hv
  have M9 : Hid (ModW pb wa.heap.size Ab cb mB (wa.alloc (.cells #[.int .i64 4, .slice Ab 2 cb] 27))) := hMb
  have HBA : Hid (Below wa.heap.size wa (wa.alloc (.cells #[.int .i64 4, .slice Ab 2 cb] 27))) := below_alloc (Below.refl _ _) _
  replace HPE := hidm (hPa.below HBA.out)
  replace HB := hidm (below_step (below_wrT HB.out hwa (fun k hk _ => by have := HGP.out; omega)) HBA.out)
  replace MA := hidm (MA.out.wr hwa)
  replace MB := hidm (MB.out.wr hwa)
  replace M7 := hidm (M7.out.wr hwa)
  replace MA := hidm (MA.out.below HBA.out)
  replace MB := hidm (MB.out.below HBA.out)
  replace M7 := hidm (M7.out.below HBA.out)
  clear hva hPa hwa hMb HBA
  go_wp2_with fail
  generalize (wa.alloc (.cells #[.int .i64 4, .slice Ab 2 cb] 27)) = wb at M9 HPE HB MA MB M7 ⊢
  generalize wa.heap.size = g9 at M9 ⊢
  refine (depthL HPE.out (by simp) (by simp)).mono ?_
  rintro e wc ⟨rfl, hbc⟩
  replace HB := hidm (below_step HB.out hbc)
  replace MA := hidm (MA.out.below hbc)
  replace MB := hidm (MB.out.below hbc)
  replace M7 := hidm (M7.out.below hbc)
  replace M9 := hidm (M9.out.below hbc)
  clear hbc HPE HEN HGP
  have q0 : wc.cell? ⟨ga, 0, none⟩ = some (.int .i64 4) := blk_cell MA.out.k 0
  have q1 : wc.cell? ⟨ga, 1, none⟩ = some (.slice (some ⟨g1, 0, none⟩) 2 2) := blk_cell MA.out.k 1
  have q2 : wc.cell? ⟨ga + 1, 0, none⟩ = some (.int .i64 4) := blk_cell MB.out.k 0
  have q3 : wc.cell? ⟨ga + 1, 1, none⟩ = some (.slice (some ⟨g2, 0, none⟩) 2 2) := blk_cell MB.out.k 1
  go_wp2_with fail
  refine (touched_yes 4 4 (some ⟨g1, 0, none⟩) (some ⟨g2, 0, none⟩) (pairL 2) (pairL 3) 2 2 wc (Kd.F_now MA.out.f) (pair_wf (i64_small (by omega) (by omega))) (Kd.F_now MB.out.f) (pair_wf (i64_small (by omega) (by omega))) cA cB (by simp [pairL]) (by simp [pairL])).mono ?_
  rintro e wd ⟨vt, rfl, hrt, hbd⟩
  rw [refT_pair] at hrt
  obtain ⟨At, ct, rfl, hlt, hCt⟩ := Kd.R_reads hrt
  have HCT := hidm hCt
  replace HB := hidm (below_step HB.out hbd)
  replace MA := hidm (MA.out.below hbd)
  replace MB := hidm (MB.out.below hbd)
  replace M7 := hidm (M7.out.below hbd)
  replace M9 := hidm (M9.out.below hbd)
  clear hbd hrt hlt hCt q0 q1 q2 q3
  go_wp2_with fail
  refine (new_no 0 none [] 0 wd (nil_C _ _) (fun i hi => absurd hi (Nat.not_lt_zero _)) check_nil).mono ?_
  rintro e we ⟨rfl, hbe⟩
  replace HB := hidm (below_step HB.out hbe)
  replace HCT := hidm (Kd.C_below HCT.out hbe)
  replace MA := hidm (MA.out.below hbe)
  replace MB := hidm (MB.out.below hbe)
  replace M7 := hidm (M7.out.below hbe)
  replace M9 := hidm (M9.out.below hbe)
  clear hbe
  have q0 : we.cell? ⟨g7, 0, none⟩ = some (.int .i64 4) := blk_cell M7.out.k 0
  have q1 : we.cell? ⟨g7, 1, none⟩ = some (.slice A7 2 c7) := blk_cell M7.out.k 1
  have q2 : we.cell? ⟨ga, 0, none⟩ = some (.int .i64 4) := blk_cell MA.out.k 0
  have q3 : we.cell? ⟨ga, 1, none⟩ = some (.slice (some ⟨g1, 0, none⟩) 2 2) := blk_cell MA.out.k 1
  go_wp2_with fail
  have hcall := same_any 4 4 (pairL 2) (pairL 2) A7 (some ⟨g1, 0, none⟩) c7 2 we (Kd.F_now M7.out.f) (Kd.F_now MA.out.f)
  rw [tv_yes ⟨rfl, rfl⟩] at hcall
  refine hcall.mono ?_
  clear hcall
  rintro e wf ⟨rfl, hbf⟩
  replace HB := hidm (below_step HB.out hbf)
  replace HCT := hidm (Kd.C_below HCT.out hbf)
  replace MB := hidm (MB.out.below hbf)
  replace M9 := hidm (M9.out.below hbf)
  clear hbf q0 q1 q2 q3
  have q0 : wf.cell? ⟨g9, 0, none⟩ = some (.int .i64 4) := blk_cell M9.out.k 0
  have q1 : wf.cell? ⟨g9, 1, none⟩ = some (.slice Ab 2 cb) := blk_cell M9.out.k 1
  have q2 : wf.cell? ⟨ga + 1, 0, none⟩ = some (.int .i64 4) := blk_cell MB.out.k 0
  have q3 : wf.cell? ⟨ga + 1, 1, none⟩ = some (.slice (some ⟨g2, 0, none⟩) 2 2) := blk_cell MB.out.k 1
  go_wp2_with fail
  have hcall := same_any 4 4 (pairL 3) (pairL 3) Ab (some ⟨g2, 0, none⟩) cb 2 wf (Kd.F_now M9.out.f) (Kd.F_now MB.out.f)
  rw [tv_yes ⟨rfl, rfl⟩] at hcall
  refine hcall.mono ?_
  clear hcall
  rintro e wg ⟨rfl, hbg⟩
  replace HB := hidm (below_step HB.out hbg)
  replace HCT := hidm (Kd.C_below HCT.out hbg)
  clear hbg q0 q1 q2 q3 MA MB M7 M9
  obtain ⟨at_, rfl, x0⟩ := int_at HCT.out 0 (by simp)
  obtain ⟨_, e, x2⟩ := int_at HCT.out 2 (by simp)
  injection e with e
  subst e
  have y0 : wg.cell? at_ = some (.int .i64 1) := by simpa [Addr.add] using x0
  have y2 : wg.cell? ⟨at_.block, at_.off + 2, none⟩ = some (.int .i64 3) := by simpa [Addr.add] using x2
  clear x0 x2 HCT
  go_wp2_with fail
  go_ret
  exact ⟨rfl, HB.out⟩
end Go.Proofs.Ytlopfkkegjajlaa
namespace Go.Proofs.Ytlopfkkegjajlaa
open Go.RowKit Go.Proofs.YtlopfkkegjajlaaW.PrintWords PHistoryTouched
structure TwoT (w : World) (na nb : Int) (l m : List S76) (g5 g6 : Nat) (A8 : Option Addr) (c8 : Nat) (B8 : Option Addr) (d8 : Nat) (W : World) : Prop where
  b : Below w.heap.size w W
  k5 : W.heap[g5]? = some (.cells #[.int .i64 na, .slice A8 l.length c8] 27 (0, 0))
  k6 : W.heap[g6]? = some (.cells #[.int .i64 nb, .slice B8 m.length d8] 27 (0, 0))
  rA : Kd.C k76 W A8 l.length l
  lA : l.length ≤ c8
  rB : Kd.C k76 W B8 m.length m
  lB : m.length ≤ d8
theorem TwoT.below {w : World} {na nb : Int} {l m : List S76} {g5 g6 : Nat} {A8 : Option Addr} {c8 : Nat} {B8 : Option Addr} {d8 : Nat} {W W' : World} (h : TwoT w na nb l m g5 g6 A8 c8 B8 d8 W) (hb : Below W.heap.size W W') : TwoT w na nb l m g5 g6 A8 c8 B8 d8 W' :=
  ⟨below_step h.b hb, blk_below h.k5 hb, blk_below h.k6 hb, Kd.C_below h.rA hb, h.lA, Kd.C_below h.rB hb, h.lB⟩
structure FourT (w : World) (na nb : Int) (A : Option Addr) (l : List S76) (c : Nat) (B : Option Addr) (m : List S76) (d : Nat) (g5 g6 : Nat) (A8 : Option Addr) (c8 : Nat) (B8 : Option Addr) (d8 : Nat) (W : World) : Prop where
  t : TwoT w na nb l m g5 g6 A8 c8 B8 d8 W
  o : Boxed2 w (.cells #[.int .i64 na, .slice A l.length c] 27) (.cells #[.int .i64 nb, .slice B m.length d] 27) W
theorem FourT.below {w : World} {na nb : Int} {A : Option Addr} {l : List S76} {c : Nat} {B : Option Addr} {m : List S76} {d : Nat} {g5 g6 : Nat} {A8 : Option Addr} {c8 : Nat} {B8 : Option Addr} {d8 : Nat} {W W' : World} (h : FourT w na nb A l c B m d g5 g6 A8 c8 B8 d8 W) (hb : Below W.heap.size W W') : FourT w na nb A l c B m d g5 g6 A8 c8 B8 d8 W' :=
  ⟨h.t.below hb, h.o.below hb⟩
end Go.Proofs.Ytlopfkkegjajlaa
namespace Go.Proofs.Ytlopfkkegjajlaa
open Go.RowKit Go.Proofs.YtlopfkkegjajlaaW.PrintWords PHistoryTouched
structure LongI (nx : Int) (l : List S76) (i : Nat) (ms : List S27) : Prop where
  len : ms.length = min (i + 1) 65
  at_ : ∀ j : Nat, j < ms.length → rd_T27 ms j = ⟨nx + ((i + 1 - ms.length + j : Nat) : Int), l⟩
theorem rd27_app (xs : List S27) (m : S27) (j : Nat) : rd_T27 (xs ++ [m]) j = if j < xs.length then rd_T27 xs j else if j = xs.length then m else z27 := by
  unfold rd_T27
  simp only [Int.toNat_natCast, List.getD_eq_getElem?_getD]
  by_cases h : j < xs.length
  · rw [if_pos h, List.getElem?_append_left h]
  · rw [if_neg h, List.getElem?_append_right (by omega)]
    by_cases e : j = xs.length
    · rw [if_pos e, e]; simp
    · rw [if_neg e, List.getElem?_eq_none (by simp; omega)]; rfl
theorem rd27_drop (xs : List S27) (j : Nat) : rd_T27 (xs.drop 1) j = rd_T27 xs (j + 1 : Nat) := by
  unfold rd_T27
  simp only [Int.toNat_natCast, List.getD_eq_getElem?_getD, List.getElem?_drop]
  rw [Nat.add_comm]
theorem LongI.start (nx : Int) (l : List S76) : LongI nx l 0 [⟨nx, l⟩] :=
  ⟨rfl, fun j hj => by
    have h1 : j < 1 := hj
    have h0 : j = 0 := by omega
    subst h0
    show (⟨nx, l⟩ : S27) = ⟨nx + 0, l⟩
    rw [Int.add_zero]⟩
theorem LongI.step {nx : Int} {l : List S76} {i : Nat} {ms : List S27} (h : LongI nx l i ms) : LongI nx l (i + 1) (pushed ms (ms.length - 1) ⟨nx + ((i + 1 : Nat) : Int), l⟩) := by
  have hlen := h.len
  have hpos : 0 < ms.length := by omega
  have ht : ms.take (ms.length - 1 + 1) = ms := by rw [Nat.sub_add_cancel hpos, List.take_length]
  unfold pushed
  rw [ht]
  by_cases hb : 65 < (ms ++ [(⟨nx + ((i + 1 : Nat) : Int), l⟩ : S27)]).length
  · rw [if_pos hb]
    have hb' : 65 < ms.length + 1 := by simpa using hb
    have hl : ((ms ++ [(⟨nx + ((i + 1 : Nat) : Int), l⟩ : S27)]).drop 1).length = 65 := by simp; omega
    refine ⟨by rw [hl]; omega, fun j hj => ?_⟩
    rw [hl] at hj
    rw [rd27_drop, rd27_app, hl]
    by_cases hj2 : j + 1 < ms.length
    · rw [if_pos hj2, h.at_ (j + 1) hj2]
      have : i + 1 - ms.length + (j + 1) = i + 1 + 1 - 65 + j := by omega
      rw [this]
    · rw [if_neg hj2, if_pos (by omega)]
      have : i + 1 + 1 - 65 + j = i + 1 := by omega
      rw [this]
  · rw [if_neg hb]
    have hb' : ¬ 65 < ms.length + 1 := by simpa using hb
    have hl : (ms ++ [(⟨nx + ((i + 1 : Nat) : Int), l⟩ : S27)]).length = ms.length + 1 := by simp
    refine ⟨by rw [hl]; omega, fun j hj => ?_⟩
    rw [hl] at hj
    rw [rd27_app, hl]
    by_cases hj2 : j < ms.length
    · rw [if_pos hj2, h.at_ j hj2]
      have : i + 1 - ms.length + j = i + 1 + 1 - (ms.length + 1) + j := by omega
      rw [this]
    · rw [if_neg hj2, if_pos (by omega)]
      have : i + 1 + 1 - (ms.length + 1) + j = i + 1 := by omega
      rw [this]
structure LongW (w : World) (pb : Nat) (D : Nat → Prop) (ms : List S27) (now : Nat) (nx : Int) (A : Option Addr) (l : List S76) (c : Nat) (W : World) : Prop where
  b : Below w.heap.size w W
  gp : w.heap.size ≤ pb
  nD : ¬ D pb
  p : PastR W D pb ms now
  m : ModW pb w.heap.size A c ⟨nx, l⟩ W
theorem LongW.below {w : World} {pb : Nat} {D : Nat → Prop} {ms : List S27} {now : Nat} {nx : Int} {A : Option Addr} {l : List S76} {c : Nat} {W W' : World} (h : LongW w pb D ms now nx A l c W) (hb : Below W.heap.size W W') : LongW w pb D ms now nx A l c W' :=
  ⟨below_step h.b hb, h.gp, h.nD, h.p.below hb, h.m.below hb⟩
theorem LongW.move {w : World} {pb : Nat} {D D' : Nat → Prop} {ms ms' : List S27} {now now' : Nat} {nx : Int} {A : Option Addr} {l : List S76} {c : Nat} {W W' : World} (h : LongW w pb D ms now nx A l c W) (hw : Wr (· = pb) W W') (hp : PastR W' D' pb ms' now') (hD : ¬ D' pb) : LongW w pb D' ms' now' nx A l c W' :=
  ⟨below_wrT h.b hw (fun k hk _ => by have := h.gp; omega), h.gp, hD, hp, h.m.wr hw⟩
end Go.Proofs.Ytlopfkkegjajlaa
namespace Go.Proofs.Ytlopfkkegjajlaa
open Go.RowKit Go.Proofs.YtlopfkkegjajlaaW.PrintWords PHistoryTouched
theorem elt27b {W : World} {D : Nat → Prop} {A : Option Addr} {l : List S27} (h : Kd.F k27 W D A l.length l) (j : Nat) (hj : j < l.length) :
    ∃ ad A7 c7, A = some ad ∧ W.cell? (ad.add (j * 2)) = some (.int .i64 (rd_T27 l j).f0) ∧ W.cell? ⟨(ad.add (j * 2)).block, (ad.add (j * 2)).off + 1, none⟩ = some (.slice A7 (rd_T27 l j).f1.length c7) ∧ (rd_T27 l j).f1.length ≤ c7 ∧ Kd.F k76 W D A7 (rd_T27 l j).f1.length (rd_T27 l j).f1 := by
  obtain ⟨ad, cs, hA, _, hFK, hcc, _⟩ := Kd.F_get h z27 (j : Int) (by omega) (by omega)
  obtain ⟨A7, c7, he7, hc7, hF7⟩ := k27_openF hFK
  have g0 := hcc 0 (.int .i64 (rd_T27 l j).f0) (by rw [he7]; rfl)
  have g1 := hcc 1 (.slice A7 (rd_T27 l j).f1.length c7) (by rw [he7]; rfl)
  have e : (j : Int).toNat * k27.sz = j * 2 := rfl
  rw [e] at g0 g1
  refine ⟨ad, A7, c7, hA, g0, ?_, hc7, hF7⟩
  rw [Addr_add_off]; exact g1
theorem rd27_memb {l : List S27} {j : Nat} (hj : j < l.length) : rd_T27 l j ∈ l := by
  have : rd_T27 l j = l[j] := by simp [rd_T27, List.getD_eq_getElem?_getD, List.getElem?_eq_getElem hj]
  rw [this]; exact List.getElem_mem hj
theorem one_rowN {W : World} {D : Nat → Prop} {base : Nat} {nx : Int} {A2 : Option Addr} {c2 : Nat} {l : List S76} (hb : base ≤ W.heap.size) (hD : ∀ k, D k → k < W.heap.size) (h2 : l.length ≤ c2) (f2 : Kd.F k76 W D A2 l.length l) :
    Kd.N k27 27 (W.alloc (.cells #[.int .i64 nx, .slice A2 l.length c2] 27)) base (fun k => D k ∨ k = W.heap.size) (.slice (some ⟨W.heap.size, 0, none⟩) 1 1) [⟨nx, l⟩] := by
  have hk1 : (W.alloc (.cells #[.int .i64 nx, .slice A2 l.length c2] 27)).heap[W.heap.size]? = some (.cells #[.int .i64 nx, .slice A2 l.length c2] 27 (0, 0)) := blk_new _ _
  refine ⟨fun k hk => ?_, [[.int .i64 nx, .slice A2 l.length c2]], rfl, ⟨fun k hk => hk.symm, [.int .i64 nx, .slice A2 l.length c2], ⟨rfl, .inr ⟨W.heap.size, 1, _, rfl, hb, hk1, Nat.le_refl _, by simp [maxLen], rfl, rfl⟩⟩, ⟨rfl, fun j p hj => ?_⟩⟩, fun j x c hx hc => ?_⟩
  · have : W.heap.size = k := by simpa [Value.ownBlock] using hk
    exact .inr this.symm
  · cases j with
    | zero =>
      obtain rfl : _ = p := Option.some.inj hj
      refine ⟨rfl, rfl, fun u hu => ?_⟩
      rcases List.mem_cons.1 hu with rfl | hu
      · rfl
      · rw [List.mem_singleton.1 hu]; rfl
    | succ j => simp at hj
  · cases j with
    | zero =>
      obtain rfl : _ = x := Option.some.inj hx
      obtain rfl : _ = c := Option.some.inj hc
      exact Kd.FK_mono (k27_mkF _ D ⟨nx, l⟩ h2 (Kd.F_alloc f2 _)) (fun k hk => ⟨.inl hk, fun e => by
        have := hD k hk
        have e' : k = W.heap.size := by simpa [Value.ownBlock] using e
        omega⟩)
    | succ j => simp at hx
theorem eltC {W : World} {A : Option Addr} {n : Nat} {xs : List S27} (h : Kd.C k27 W A n xs) (j : Nat) (hj : j < n) : ∃ ad A1 c1, A = some ad ∧ W.cell? (ad.add (j * 2)) = some (.int .i64 (rd_T27 xs j).f0) ∧ W.cell? ⟨(ad.add (j * 2)).block, (ad.add (j * 2)).off + 1, none⟩ = some (.slice A1 (rd_T27 xs j).f1.length c1) ∧ Kd.C k76 W A1 (rd_T27 xs j).f1.length (rd_T27 xs j).f1 := by
  obtain ⟨ad, A1, c1, hA, h0, h1, _, h2⟩ := at_T27 h (j : Int) (by omega) (by omega)
  exact ⟨ad, A1, c1, hA, h0, h1, h2⟩
structure In5 (w : World) (Al : Option Addr) (l : List S27) (cl : Nat) : Prop where
  f : Kd.F k27 w (fun k => k < w.heap.size) Al l.length l
  cl : l.length ≤ cl
  sm : ∀ m ∈ l, SmallL m.f1
  wf : ∀ m ∈ l, WfL m.f1
  nl : l.length ≤ 1048576
structure BackW (w : World) (pb : Nat) (D : Nat → Prop) (ms : List S27) (now : Nat) (kv : Value) (W : World) : Prop where
  b : Below w.heap.size w W
  gp : w.heap.size ≤ pb
  nD : ¬ D pb
  gD : ∀ k, D k → w.heap.size ≤ k ∧ k < W.heap.size
  p : PastR W D pb ms now
  kp : Kd.N k27 27 W w.heap.size (fun k => k ≠ pb ∧ ¬ D k) kv ms
theorem BackW.below {w : World} {pb : Nat} {D : Nat → Prop} {ms : List S27} {now : Nat} {kv : Value} {W W' : World} (h : BackW w pb D ms now kv W) (hb : Below W.heap.size W W') : BackW w pb D ms now kv W' :=
  ⟨below_step h.b hb, h.gp, h.nD, fun k hk => ⟨(h.gD k hk).1, Nat.lt_of_lt_of_le (h.gD k hk).2 hb.size⟩, h.p.below hb, Kd.N_below h.kp hb⟩
theorem BackW.move {w : World} {pb : Nat} {D : Nat → Prop} {ms : List S27} {now now' : Nat} {kv : Value} {W W' : World} (h : BackW w pb D ms now kv W) (hw : Wr (· = pb) W W') (hp : PastR W' D pb ms now') : BackW w pb D ms now' kv W' :=
  ⟨below_wrT h.b hw (fun k hk _ => by have := h.gp; omega), h.gp, h.nD, fun k hk => ⟨(h.gD k hk).1, Nat.lt_of_lt_of_le (h.gD k hk).2 hw.size⟩, hp, Kd.N_step h.kp (fun k hk hlt => hw.block k hlt hk.1)⟩
theorem BackW.more {w : World} {pb : Nat} {D : Nat → Prop} {ms : List S27} {now : Nat} {kv kv' : Value} {W W1 W2 W3 : World} {m : S27} (h : BackW w pb D ms now kv W) (hw : Wr (· = pb) W W1) (hp : PastR W1 (fun k => D k ∨ (W.heap.size ≤ k ∧ k < W1.heap.size)) pb (ms ++ [m]) ms.length) (hb : Below W1.heap.size W1 W2)
    (hk : Kd.N k27 27 W3 w.heap.size (fun k => k ≠ pb ∧ ¬ (D k ∨ (W.heap.size ≤ k ∧ k < W1.heap.size))) kv' (ms ++ [m])) (hg : W2.grownBy W3 kv.ownBlock) (hB : Below w.heap.size w W3) :
    BackW w pb (fun k => D k ∨ (W.heap.size ≤ k ∧ k < W1.heap.size)) (ms ++ [m]) ms.length kv' W3 := by
  have hpl := h.p.lt
  have s1 := hw.size
  have s2 := hb.size
  have s3 := hg.size
  have s0 := h.b.size
  have hown : ∀ k, (D k ∨ (W.heap.size ≤ k ∧ k < W1.heap.size)) → some k ≠ kv.ownBlock := fun k hk e => by
    have h1 := h.kp.1 k e.symm
    have h2 := Kd.N_lt h.kp k e.symm
    rcases hk with hk | hk
    · exact h1.2 hk
    · omega
  refine ⟨hB, h.gp, fun hd => hd.elim h.nD (fun hd => by omega), fun k hk => ?_, (hp.below hb).step ?_ (fun k hk hlt => hg.block k hlt (hown k hk)), hk⟩
  · rcases hk with hk | hk
    · have := h.gD k hk; omega
    · omega
  · exact hg.block pb (by omega) (fun e => (h.kp.1 pb e.symm).1 rfl)
theorem s27_ext {a b : S27} (h0 : a.f0 = b.f0) (h1 : a.f1 = b.f1) : a = b := by cases a; cases b; cases h0; cases h1; rfl
theorem BackW.step {w W w' : World} {pb : Nat} {D : Nat → Prop} {ms : List S27} {now now' : Nat} {kv : Value} {m : S27} {er : Int} {e : Ending} (h : BackW w pb D ms now kv W) (hp : MovePost pb D m er ms now' W e w') :
    ∃ A c, e = .returned (.tuple #[.agg #[.int .i64 m.f0, .slice A m.f1.length c], .int .i64 er]) ∧ (w'.alloc (.cells #[.int .i64 m.f0, .slice A m.f1.length c] 27)).heap[w'.heap.size]? = some (.cells #[.int .i64 m.f0, .slice A m.f1.length c] 27 (0, 0)) ∧ Kd.C k76 (w'.alloc (.cells #[.int .i64 m.f0, .slice A m.f1.length c] 27)) A m.f1.length m.f1 ∧ BackW w pb D ms now' kv (w'.alloc (.cells #[.int .i64 m.f0, .slice A m.f1.length c] 27)) := by
  obtain ⟨v, he, hv, hP, hw⟩ := hp
  obtain ⟨A, c, rfl, hM⟩ := modW_of_move (pb := pb) (m := m) h.p.lt hw.size hv
  exact ⟨A, c, he, hM.k, Kd.F_now hM.f, (h.move hw hP).below (below_alloc (Below.refl _ _) _)⟩
theorem BackW.twin {w W w' : World} {pb : Nat} {D : Nat → Prop} {ms : List S27} {now : Nat} {kv : Value} {nx : Int} {l : List S76} {e : Ending} (h : BackW w pb D ms now kv W) (hp : TwinPost nx l W e w') :
    ∃ A c, e = .returned (.agg #[.int .i64 nx, .slice A l.length c]) ∧ (w'.alloc (.cells #[.int .i64 nx, .slice A l.length c] 27)).heap[w'.heap.size]? = some (.cells #[.int .i64 nx, .slice A l.length c] 27 (0, 0)) ∧ Kd.C k76 (w'.alloc (.cells #[.int .i64 nx, .slice A l.length c] 27)) A l.length l ∧ BackW w pb D ms now kv (w'.alloc (.cells #[.int .i64 nx, .slice A l.length c] 27)) := by
  obtain ⟨v, he, hv, hb⟩ := hp
  obtain ⟨A, c, rfl, hM⟩ := modW_of_move (pb := pb) (m := ⟨nx, l⟩) h.p.lt hb.size hv
  exact ⟨A, c, he, hM.k, Kd.F_now hM.f, (h.below hb).below (below_alloc (Below.refl _ _) _)⟩
theorem nowL {W : World} {D : Nat → Prop} {pb : Nat} {ms : List S27} {now : Nat} (hP : PastR W D pb ms now) (hn : now < ms.length) (hm : ms.length ≤ 65) (hs : SmallL (rd_T27 ms now).f1) :
    Calls Try.prog 31 #[.pointer (some ⟨pb, 0, none⟩)] W (TwinPost (rd_T27 ms now).f0 (rd_T27 ms now).f1 W) := by
  obtain ⟨ad, cp, hb, hcp, hF⟩ := hP
  exact now_any pb (some ad) ms cp now W hb (Kd.F_now hF) hn (by omega) hs
theorem BackW.same {w W : World} {pb : Nat} {D : Nat → Prop} {ms : List S27} {now : Nat} {Ak : Option Addr} {ck : Nat} (h : BackW w pb D ms now (.slice Ak ms.length ck) W) (j : Nat) (hj : j < ms.length) {A : Option Addr} {c : Nat} (hC : Kd.C k76 W A (rd_T27 ms j).f1.length (rd_T27 ms j).f1) :
    ∃ ak B d, Ak = some ak ∧ W.cell? (ak.add (j * 2)) = some (.int .i64 (rd_T27 ms j).f0) ∧ W.cell? ⟨(ak.add (j * 2)).block, (ak.add (j * 2)).off + 1, none⟩ = some (.slice B (rd_T27 ms j).f1.length d) ∧
    Hid (∀ y : BW W, Calls Try.prog 30 #[.agg #[.int .i64 (rd_T27 ms j).f0, .slice A (rd_T27 ms j).f1.length c], .agg #[.int .i64 (rd_T27 ms j).f0, .slice B (rd_T27 ms j).f1.length d]] y.1 fun e w' => e = .returned (.bool true) ∧ Below y.1.heap.size y.1 w') := by
  obtain ⟨ak, B, d, hA, z0, z1, hCk⟩ := eltC (Kd.N_reads' h.kp).2.2 j hj
  refine ⟨ak, B, d, hA, z0, z1, fun y => ?_⟩
  have := same_any (rd_T27 ms j).f0 (rd_T27 ms j).f0 (rd_T27 ms j).f1 (rd_T27 ms j).f1 A B c d y.1 (Kd.C_below hC y.2) (Kd.C_below hCk y.2)
  rwa [tv_yes ⟨rfl, rfl⟩] at this
set_option maxRecDepth 100000 in
set_option maxHeartbeats 8000000 in
theorem back_any (Al : Option Addr) (l : List S27) (cl : Nat) (w : World) (hin : In5 w Al l cl) :
    Calls Try.prog 5 #[.slice Al l.length cl] w fun e w' => e = .returned (.bool true) ∧ Below w.heap.size w w' := by
  have HIN := hidm hin
  clear hin
  go_enter Try.func5, Try.ntmps5
  go_wp2_with fail
  refine (awake_any w).mono ?_
  rintro e w0 ⟨rfl, hb0⟩
  have HB0 := hidm hb0
  clear hb0
  go_wp2_with fail
  obtain ⟨r, hg⟩ := great_any Al l cl w0 (Kd.C_below (Kd.F_now HIN.out.f) HB0.out) HIN.out.cl
  refine hg.mono ?_
  clear hg
  rintro e w1 ⟨rfl, hb1⟩
  have HB1 := hidm (below_step HB0.out hb1)
  clear hb1 HB0
  cases r with
  | true =>
    go_wp2_with fail
    go_ret
    exact ⟨rfl, HB1.out⟩
  | false =>
  by_cases hl0 : l.length = 0
  · have hl1 : ((l.length : Int) == 0) = true := by rw [hl0]; rfl
    go_wp2_with fail
    go_ret
    exact ⟨rfl, HB1.out⟩
  have hl1 : ((l.length : Int) == 0) = false := by rw [beq_eq_false_iff_ne]; omega
  by_cases hl2 : 64 < l.length
  · have hl3 : decide ((64 : Int) < (l.length : Int)) = true := decide_eq_true (by omega)
    go_wp2_with fail
    go_ret
    exact ⟨rfl, HB1.out⟩
  have hl3 : decide ((64 : Int) < (l.length : Int)) = false := decide_eq_false (by omega)
  have hlp : 0 < l.length := by omega
  have hll : l.length ≤ 64 := by omega
  clear hl0 hl2
  obtain ⟨ad, A0, c0, rfl, z0, z1, hc0, hF0⟩ := elt27b HIN.out.f 0 hlp
  have HC0 := hidm hc0
  have HF0 := hidm hF0
  have Z0 : Hid (w.cell? ad = some (.int .i64 (rd_T27 l 0).f0)) := by have := z0; simp [Addr.add] at this; exact this
  have Z1 : Hid (w.cell? ⟨ad.block, ad.off + 1, none⟩ = some (.slice A0 (rd_T27 l 0).f1.length c0)) := by have := z1; simp [Addr.add] at this; exact this
  have q0 : w1.cell? ad = some (.int .i64 (rd_T27 l 0).f0) := pw_cell_below HB1.out Z0.out
  have q1 : w1.cell? ⟨ad.block, ad.off + 1, none⟩ = some (.slice A0 (rd_T27 l 0).f1.length c0) := pw_cell_below HB1.out Z1.out
  have HSM : Hid (SmallL (rd_T27 l 0).f1) := HIN.out.sm _ (rd27_memb hlp)
  have HWF : Hid (WfL (rd_T27 l 0).f1) := HIN.out.wf _ (rd27_memb hlp)
  have hi0 : (0 : Int) < (l.length : Int) := by omega
  clear z0 z1 hc0 hF0
  by_cases hk : CheckP (rd_T27 l 0).f0 (rd_T27 l 0).f1
  · have HK := hidm hk
    clear hk
    go_wp2_with fail
    refine (new_yes (rd_T27 l 0).f0 A0 (rd_T27 l 0).f1 c0 w1 (Kd.C_below (Kd.F_now HF0.out) HB1.out) HWF.out HSM.out HK.out).mono ?_
    rintro e w2 ⟨pb, Ap, cp, rfl, hpb, hcp, hblk, hFp, hb2⟩
    have HP := hidm (pastL_of_new hcp hblk hFp)
    have HPB := hidm hpb
    have HB2 := hidm (below_step HB1.out hb2)
    have q2 : w2.cell? ad = some (.int .i64 (rd_T27 l 0).f0) := pw_cell_below HB2.out Z0.out
    have q3 : w2.cell? ⟨ad.block, ad.off + 1, none⟩ = some (.slice A0 (rd_T27 l 0).f1.length c0) := pw_cell_below HB2.out Z1.out
    have HKP : Hid (Kd.N k27 27 (w2.alloc (.cells #[.int .i64 (rd_T27 l 0).f0, .slice A0 (rd_T27 l 0).f1.length c0] 27)) w.heap.size (fun k => k ≠ pb ∧ ¬ (w1.heap.size ≤ k ∧ k < w2.heap.size ∧ k ≠ pb)) (.slice (some ⟨w2.heap.size, 0, none⟩) 1 1) [rd_T27 l 0]) := by
      have h1 := one_rowN (W := w2) (base := w.heap.size) (D := fun k => k < w.heap.size) (nx := (rd_T27 l 0).f0) HB2.out.size (fun k hk => Nat.lt_of_lt_of_le hk HB2.out.size) HC0.out (Kd.F_below HF0.out HB2.out)
      have hs := HB1.out.size
      have hpl := HP.out.lt
      have hpb := HPB.out
      exact hidm (Kd.N_mono h1 (fun k hk => by
        rcases hk with hk | hk
        · have hk' : k < w.heap.size := hk
          exact ⟨by omega, by omega⟩
        · exact ⟨by omega, by omega⟩))
    have HBK : Hid (∃ D, BackW w pb D [rd_T27 l 0] 0 (.slice (some ⟨w2.heap.size, 0, none⟩) 1 1) (w2.alloc (.cells #[.int .i64 (rd_T27 l 0).f0, .slice A0 (rd_T27 l 0).f1.length c0] 27))) :=
      ⟨_, below_alloc HB2.out _, Nat.le_trans HB1.out.size HPB.out, fun h => h.2.2 rfl, fun k hk => ⟨Nat.le_trans HB1.out.size hk.1, Nat.lt_of_lt_of_le hk.2.1 (below_alloc (Below.refl _ _) _).size⟩, HP.out.below (below_alloc (Below.refl _ _) _), HKP.out⟩
    clear hpb hcp hblk hFp hb2 HP HPB HB2 HKP HB1 q0 q1
    go_wp2_with fail
    generalize (w2.alloc (.cells #[.int .i64 (rd_T27 l 0).f0, .slice A0 (rd_T27 l 0).f1.length c0] 27)) = w3 at HBK ⊢
    clear q2 q3
    go_loopw [5, 6] (fun kv iv W => ∃ (i : Nat) (D : Nat → Prop) (ms : List S27), 1 ≤ i ∧ i ≤ l.length ∧ iv = .int .i64 i ∧ 0 < ms.length ∧ ms.length ≤ i ∧ Hid (∀ m ∈ ms, SmallL m.f1) ∧ Hid (BackW w pb D ms (ms.length - 1) kv W)) (fun _ iv _ => l.length - (intOf iv).toNat)
    case atStart =>
      obtain ⟨D, hB⟩ := HBK.out
      exact ⟨1, D, [rd_T27 l 0], Nat.le_refl _, hlp, rfl, Nat.succ_pos _, Nat.le_refl _, hidm (fun m hm => by rw [List.mem_singleton.1 hm]; exact HSM.out), hidm hB⟩
    case round =>
      clear HBK
      obtain ⟨i, D, ms, hi1, hil, rfl, hmp, hmi, HMS, HB⟩ := hrel
      by_cases hi : i < l.length
      · obtain ⟨ad', A7, c7, hA7, z0, z1, hc7, hF7⟩ := elt27b HIN.out.f i hi
        injection hA7 with hA7
        subst hA7
        have Y0 := hidm z0
        have Y1 := hidm z1
        have HC7 := hidm hc7
        have HF7 := hidm hF7
        have HSM7 : Hid (SmallL (rd_T27 l i).f1) := HIN.out.sm _ (rd27_memb hi)
        have HWF7 : Hid (WfL (rd_T27 l i).f1) := HIN.out.wf _ (rd27_memb hi)
        have g0 : (0 : Int) ≤ (i : Int) := by omega
        have g1 : (i : Int) < (l.length : Int) := by omega
        clear z0 z1 hc7 hF7
        have y0 : wr.cell? (ad.add (i * 2)) = some (.int .i64 (rd_T27 l i).f0) := pw_cell_below HB.out.b Y0.out
        have y1 : wr.cell? ⟨(ad.add (i * 2)).block, (ad.add (i * 2)).off + 1, none⟩ = some (.slice A7 (rd_T27 l i).f1.length c7) := pw_cell_below HB.out.b Y1.out
        go_wp2_with fail
        refine (check_any (rd_T27 l i).f0 (rd_T27 l i).f1 A7 c7 wr (Kd.C_below (Kd.F_now HF7.out) HB.out.b) HWF7.out).mono ?_
        rintro e w4 ⟨rfl, hb4⟩
        replace HB := hidm (HB.out.below hb4)
        clear hb4 y0 y1
        have y0 : w4.cell? (ad.add (i * 2)) = some (.int .i64 (rd_T27 l i).f0) := pw_cell_below HB.out.b Y0.out
        have y1 : w4.cell? ⟨(ad.add (i * 2)).block, (ad.add (i * 2)).off + 1, none⟩ = some (.slice A7 (rd_T27 l i).f1.length c7) := pw_cell_below HB.out.b Y1.out
        by_cases hk : CheckP (rd_T27 l i).f0 (rd_T27 l i).f1
        · have HKI := hidm hk
          rw [errI_yes hk]
          clear hk
          obtain ⟨q, hq⟩ : ∃ q : Nat, ms.length = q + 1 := ⟨ms.length - 1, by omega⟩
          have HQ := hidm hq
          obtain ⟨Ak, ck, hkv⟩ := Kd.N_slice HB.out.kp
          subst hkv
          by_cases hsame : (rd_T27 l i) = rd_T27 ms q
          · have HSAME := hidm hsame
            have HPUSH := hidm (pushL_same (nx := (rd_T27 l i).f0) (l := (rd_T27 l i).f1) (now := ms.length - 1) HB.out.p HB.out.nD (by omega) (by omega) (Kd.C_below (Kd.F_now HF7.out) HB.out.b) HWF7.out HSM7.out HKI.out (by rw [hq]; exact hsame) (c := c7))
            clear hq hsame
            go_wp2_with fail
            refine HPUSH.out.mono ?_
            rintro e w5 ⟨rfl, hb5⟩
            replace HB := hidm (HB.out.below hb5)
            clear hb5 y0 y1 HPUSH
            obtain ⟨ak, B7, d7, rfl, z0, z1, hCk⟩ := eltC (Kd.N_reads' HB.out.kp).2.2 q (by have := HQ.out; omega)
            have HCK := hidm hCk
            have s0 : ∀ y : BW w5, y.1.cell? (ad.add (i * 2)) = some (.int .i64 (rd_T27 l i).f0) := bw_cell (pw_cell_below HB.out.b Y0.out)
            have s1 : ∀ y : BW w5, y.1.cell? ⟨(ad.add (i * 2)).block, (ad.add (i * 2)).off + 1, none⟩ = some (.slice A7 (rd_T27 l i).f1.length c7) := bw_cell (pw_cell_below HB.out.b Y1.out)
            have s2 : ∀ y : BW w5, y.1.cell? (ak.add (q * 2)) = some (.int .i64 (rd_T27 ms q).f0) := bw_cell z0
            have s3 : ∀ y : BW w5, y.1.cell? ⟨(ak.add (q * 2)).block, (ak.add (q * 2)).off + 1, none⟩ = some (.slice B7 (rd_T27 ms q).f1.length d7) := bw_cell z1
            have hw : IntKind.i64.wrap ((ms.length : Int) - 1) = (q : Int) := by have := HQ.out; rw [show (ms.length : Int) - 1 = (q : Int) from by omega]; exact IntWalk.i64_in _ (by omega)
            have gq0 : (0 : Int) ≤ (q : Int) := by omega
            have gq1 : (q : Int) < (ms.length : Int) := by have := HQ.out; omega
            have HSC : Hid (∀ y : BW w5, Calls Try.prog 30 #[.agg #[.int .i64 (rd_T27 l i).f0, .slice A7 (rd_T27 l i).f1.length c7], .agg #[.int .i64 (rd_T27 ms q).f0, .slice B7 (rd_T27 ms q).f1.length d7]] y.1 fun e w' => e = .returned (.bool true) ∧ Below y.1.heap.size y.1 w') := fun y => by
              have := same_any (rd_T27 l i).f0 (rd_T27 ms q).f0 (rd_T27 l i).f1 (rd_T27 ms q).f1 A7 B7 c7 d7 y.1 (Kd.C_below (Kd.C_below (Kd.F_now HF7.out) HB.out.b) y.2) (Kd.C_below HCK.out y.2)
              rwa [tv_yes ⟨congrArg S27.f0 HSAME.out, congrArg S27.f1 HSAME.out⟩] at this
            clear z0 z1 hCk
            go_wp2_with fail
            refine wp_region_bw (by kernel_rfl) (by kernel_rfl) ?_
            repeat (go_big_quiet_step ((go_at_call 30; exact calls_bw (HSC.out _))))
            refine wpQuiet_nil ?_
            rintro _ ⟨y, rfl⟩
            have HB6 := hidm (HB.out.below y.2)
            clear s0 s1 s2 s3 HSC HB HCK
            go_wp2_with fail
            go_roundw
            case rel => exact ⟨i + 1, D, ms, by omega, by omega, by go_num, hmp, by omega, HMS, HB6⟩
            case measure => simp [intOf]; omega
          · have HDIFF := hidm hsame
            have HPUSH := hidm (pushL_new (nx := (rd_T27 l i).f0) (l := (rd_T27 l i).f1) (now := ms.length - 1) HB.out.p HB.out.nD (by omega) (by omega) (Kd.C_below (Kd.F_now HF7.out) HB.out.b) HWF7.out HSM7.out HKI.out (by rw [hq]; exact hsame) (c := c7))
            have HPU : Hid (pushed ms (ms.length - 1) (⟨(rd_T27 l i).f0, (rd_T27 l i).f1⟩ : S27) = ms ++ [(rd_T27 l i)]) := by
              unfold pushed
              rw [Nat.sub_add_cancel hmp, List.take_length, if_neg (by simp; omega)]
              exact hidm rfl
            have HPN : Hid ((ms ++ [(rd_T27 l i)]).length - 1 = ms.length) := by unfold Hid; simp
            rw [HPU.out, HPN.out] at HPUSH
            clear hq hsame
            go_wp2_with fail
            refine HPUSH.out.mono ?_
            rintro e w5 ⟨rfl, hP5, hw5⟩
            have HP5 := hidm hP5
            have HW5 := hidm hw5
            have HB5 : Hid (Below w.heap.size w w5) := below_wrT HB.out.b hw5 (fun k hk _ => by have := HB.out.gp; omega)
            have HK5 : Hid (Kd.N k27 27 w5 w.heap.size (fun k => k ≠ pb ∧ ¬ D k) (.slice Ak ms.length ck) ms) := Kd.N_step HB.out.kp (fun k hk hlt => hw5.block k hlt hk.1)
            clear hP5 hw5 y0 y1 HPUSH
            obtain ⟨ak, B7, d7, rfl, z0, z1, hCk⟩ := eltC (Kd.N_reads' HK5.out).2.2 q (by have := HQ.out; omega)
            have HCK := hidm hCk
            have s0 : ∀ y : BW w5, y.1.cell? (ad.add (i * 2)) = some (.int .i64 (rd_T27 l i).f0) := bw_cell (pw_cell_below HB5.out Y0.out)
            have s1 : ∀ y : BW w5, y.1.cell? ⟨(ad.add (i * 2)).block, (ad.add (i * 2)).off + 1, none⟩ = some (.slice A7 (rd_T27 l i).f1.length c7) := bw_cell (pw_cell_below HB5.out Y1.out)
            have s2 : ∀ y : BW w5, y.1.cell? (ak.add (q * 2)) = some (.int .i64 (rd_T27 ms q).f0) := bw_cell z0
            have s3 : ∀ y : BW w5, y.1.cell? ⟨(ak.add (q * 2)).block, (ak.add (q * 2)).off + 1, none⟩ = some (.slice B7 (rd_T27 ms q).f1.length d7) := bw_cell z1
            have hw : IntKind.i64.wrap ((ms.length : Int) - 1) = (q : Int) := by have := HQ.out; rw [show (ms.length : Int) - 1 = (q : Int) from by omega]; exact IntWalk.i64_in _ (by omega)
            have gq0 : (0 : Int) ≤ (q : Int) := by omega
            have gq1 : (q : Int) < (ms.length : Int) := by have := HQ.out; omega
            have HSC : Hid (∀ y : BW w5, Calls Try.prog 30 #[.agg #[.int .i64 (rd_T27 l i).f0, .slice A7 (rd_T27 l i).f1.length c7], .agg #[.int .i64 (rd_T27 ms q).f0, .slice B7 (rd_T27 ms q).f1.length d7]] y.1 fun e w' => e = .returned (.bool false) ∧ Below y.1.heap.size y.1 w') := fun y => by
              have := same_any (rd_T27 l i).f0 (rd_T27 ms q).f0 (rd_T27 l i).f1 (rd_T27 ms q).f1 A7 B7 c7 d7 y.1 (Kd.C_below (Kd.C_below (Kd.F_now HF7.out) HB5.out) y.2) (Kd.C_below HCK.out y.2)
              rwa [tv_no (fun h => HDIFF.out (s27_ext h.1 h.2))] at this
            clear z0 z1 hCk
            go_wp2_with fail
            refine wp_region_bw (by kernel_rfl) (by kernel_rfl) ?_
            repeat (go_big_quiet_step ((go_at_call 30; exact calls_bw (HSC.out _))))
            refine wpQuiet_nil ?_
            rintro _ ⟨y, rfl⟩
            have H56 : Hid (Below w5.heap.size w5 y.1) := y.2
            clear s0 s1 s2 s3 HSC HCK
            obtain ⟨w6, hy⟩ := y
            dsimp only at H56 ⊢
            clear hy
            have HB6 := hidm (below_step HB5.out H56.out)
            have y0 : w6.cell? (ad.add (i * 2)) = some (.int .i64 (rd_T27 l i).f0) := pw_cell_below HB6.out Y0.out
            have y1 : w6.cell? ⟨(ad.add (i * 2)).block, (ad.add (i * 2)).off + 1, none⟩ = some (.slice A7 (rd_T27 l i).f1.length c7) := pw_cell_below HB6.out Y1.out
            have HS45 : Hid (w4.heap.size ≤ w5.heap.size ∧ w5.heap.size ≤ w6.heap.size ∧ pb < w4.heap.size) := ⟨HW5.out.size, H56.out.size, HB.out.p.lt⟩
            have HK6 : Hid (Kd.N k27 27 w6 w.heap.size (fun k => k ≠ pb ∧ ¬ (D k ∨ (w4.heap.size ≤ k ∧ k < w5.heap.size))) (.slice (some ak) ms.length ck) ms) := Kd.N_below (Kd.N_mono (Kd.N_step (Kd.N_bound HB.out.kp) (fun k hk hlt => HW5.out.block k hlt hk.1.1)) (fun k hk => ⟨hk.1.1, fun h => h.elim hk.1.2 (fun h => by have := hk.2; omega)⟩)) H56.out
            have HOKP : Hid (∀ k, k < w.heap.size → (k ≠ pb ∧ ¬ (D k ∨ (w4.heap.size ≤ k ∧ k < w5.heap.size))) ∧ some k ≠ (Value.slice (some ak) ms.length ck).ownBlock) := fun k hk => ⟨⟨by have := HB.out.gp; omega, fun h => h.elim (fun h => by have := (HB.out.gD k h).1; omega) (fun h => by have := HB.out.b.size; omega)⟩, fun e => by have := Kd.N_base HK6.out k e.symm; omega⟩
            have HFR : Hid (∀ k, w6.heap.size ≤ k → (k ≠ pb ∧ ¬ (D k ∨ (w4.heap.size ≤ k ∧ k < w5.heap.size)))) := fun k hk => ⟨by have := HS45.out; omega, fun h => h.elim (fun h => by have := (HB.out.gD k h).2; have := HS45.out; omega) (fun h => by have := HS45.out; omega)⟩
            have HMS2 : Hid (∀ m ∈ ms ++ [(rd_T27 l i)], SmallL m.f1) := fun m hm => (List.mem_append.1 hm).elim (HMS.out m) (fun h => by rw [List.mem_singleton.1 h]; exact HSM7.out)
            have HLM : Hid (ms.length ≤ 64) := by unfold Hid; omega
            go_wp2_with (at_builtin; refine Kd.N_append k27 (w0 := w) w.heap.size rfl (.tmp 87) (.tmp 92) 22 27 (.agg #[.int .i64 0, .slice none 0 0]) 32 rfl Try.underlying22 info27 rfl (by decide) (by decide) (.slice (some ak) ms.length ck) ms (rd_T27 l i) [.int .i64 (rd_T27 l i).f0, .slice A7 (rd_T27 l i).f1.length c7] (fun k => k ≠ pb ∧ ¬ (D k ∨ (w4.heap.size ≤ k ∧ k < w5.heap.size))) (fun k => k < w.heap.size) rfl rfl (k27_mkF w6 _ (rd_T27 l i) HC7.out (Kd.F_below HF7.out HB6.out)) HOKP.out HFR.out HK6.out HB6.out HB6.out.size (by have := HLM.out; omega) ?_
                         intro v2 w7 hN hB hg hat
                         have HB7 := hidm (BackW.more HB.out HW5.out HP5.out H56.out hN hg hB)
                         clear hN hB hg hat)
            go_roundw
            case rel => exact ⟨i + 1, _, ms ++ [(rd_T27 l i)], by omega, by omega, by go_num, by simp, by simp; omega, HMS2, by rw [HPN.out]; exact HB7⟩
            case measure => simp [intOf]; omega
        · have HKI := hidm hk
          rw [errI_no hk]
          clear hk
          have HPUSH := hidm (pushL_no (nx := (rd_T27 l i).f0) (l := (rd_T27 l i).f1) (now := ms.length - 1) HB.out.p (by omega) (Kd.C_below (Kd.F_now HF7.out) HB.out.b) HWF7.out HKI.out (c := c7))
          go_wp2_with fail
          refine HPUSH.out.mono ?_
          rintro e w5 ⟨rfl, hb5⟩
          replace HB := hidm (HB.out.below hb5)
          clear hb5 y0 y1 HPUSH
          have y0 : ∀ y : BW w5, y.1.cell? (ad.add (i * 2)) = some (.int .i64 (rd_T27 l i).f0) := bw_cell (pw_cell_below HB.out.b Y0.out)
          go_wp2_with fail
          refine wp_region_bw (by kernel_rfl) (by kernel_rfl) ?_
          repeat (go_big_quiet_step (fail))
          refine wpQuiet_nil ?_
          rintro _ ⟨y, rfl⟩
          have HB6 := hidm (HB.out.below y.2)
          clear y0 HB
          go_wp2_with fail
          go_roundw
          case rel => exact ⟨i + 1, D, ms, by omega, by omega, by go_num, hmp, by omega, HMS, HB6⟩
          case measure => simp [intOf]; omega
      · have hx1 : ¬ (i : Int) < (l.length : Int) := by omega
        have HLM : Hid (ms.length ≤ 64) := by unfold Hid; omega
        obtain ⟨Ak, ck, hkv⟩ := Kd.N_slice HB.out.kp
        subst hkv
        have hw0 : IntKind.i64.wrap ((ms.length : Int) - 2) = (ms.length : Int) - 2 := IntWalk.i64_in _ (by have := HLM.out; omega)
        go_wp2_with fail
        obtain ⟨wo, hwo⟩ : ∃ wo : World, wo = wr := ⟨_, rfl⟩
        clear hx1 hi hmi hwo wo
        go_loopw [9] (fun v W => ∃ now : Nat, now < ms.length ∧ v = .int .i64 ((now : Int) - 1) ∧ Hid (BackW w pb D ms now (.slice Ak ms.length ck) W)) (fun v _ => (intOf v + 1).toNat)
        case atStart => exact ⟨ms.length - 1, by omega, by rw [show ((ms.length - 1 : Nat) : Int) - 1 = (ms.length : Int) - 2 from by omega], HB⟩
        case round =>
          clear HB
          obtain ⟨now, hnow, hv, HB⟩ := hrel
          cases now with
          | succ q =>
            have hv' : u9 = .int .i64 (q : Int) := by rw [hv, show ((q + 1 : Nat) : Int) - 1 = (q : Int) from by omega]
            subst hv'
            clear hv
            have hq0 : (0 : Int) ≤ (q : Int) := by omega
            have hq1 : (q : Int) < (ms.length : Int) := by omega
            have HU := hidm (undoL_yes HB.out.p HB.out.nD hnow (by have := HLM.out; omega) (HMS.out _ (rd27_memb (by omega))))
            go_wp2_with fail
            refine HU.out.mono ?_
            rintro e w8 hp
            obtain ⟨A8, c8, rfl, hk8, hC8, hB8⟩ := HB.out.step hp
            have HB8 := hidm hB8
            obtain ⟨ak, B9, d9, hAk, z0, z1, HSC⟩ := hB8.same q (by omega) hC8 (c := c8)
            subst hAk
            obtain ⟨w9, hw9⟩ : ∃ w9, w9 = w8.alloc (.cells #[.int .i64 (rd_T27 ms q).f0, .slice A8 (rd_T27 ms q).f1.length c8] 27) := ⟨_, rfl⟩
            rw [← hw9] at hk8 z0 z1 HSC HB8
            have s0 : ∀ y : BW w9, y.1.cell? ⟨w8.heap.size, 0, none⟩ = some (.int .i64 (rd_T27 ms q).f0) := bw_cell (blk_cell hk8 0)
            have s1 : ∀ y : BW w9, y.1.cell? ⟨w8.heap.size, 1, none⟩ = some (.slice A8 (rd_T27 ms q).f1.length c8) := bw_cell (blk_cell hk8 1)
            have s2 : ∀ y : BW w9, y.1.cell? (ak.add (q * 2)) = some (.int .i64 (rd_T27 ms q).f0) := bw_cell z0
            have s3 : ∀ y : BW w9, y.1.cell? ⟨(ak.add (q * 2)).block, (ak.add (q * 2)).off + 1, none⟩ = some (.slice B9 (rd_T27 ms q).f1.length d9) := bw_cell z1
            have HWE := hidm hw9
            have hwq : IntKind.i64.wrap ((q : Int) - 1) = (q : Int) - 1 := IntWalk.i64_in _ (by have := HLM.out; omega)
            clear hw9 hp hk8 hC8 hB8 z0 z1 HU HB
            go_wp2_with fail
            rw [← HWE.out]
            refine wp_region_bw (by kernel_rfl) (by kernel_rfl) ?_
            repeat (go_big_quiet_step ((go_at_call 30; exact calls_bw (HSC.out _))))
            refine wpQuiet_nil ?_
            rintro _ ⟨y, rfl⟩
            have HB6 := hidm (HB8.out.below y.2)
            clear s0 s1 s2 s3 HSC HB8
            go_wp2_with fail
            go_roundw
            case rel => exact ⟨q, by omega, rfl, HB6⟩
            case measure => simp [intOf]
          | zero =>
            have hv' : u9 = .int .i64 (-1) := hv
            subst hv'
            clear hv
            have HU := hidm (undoL_no HB.out.p HB.out.nD hmp (by have := HLM.out; omega))
            go_wp2_with fail
            refine HU.out.mono ?_
            rintro e w8 hp
            obtain ⟨A8, c8, he, hk8, hC8, hB8⟩ := HB.out.step hp
            have he' : e = .returned (.tuple #[.agg #[.int .i64 0, .slice A8 0 c8], .int .i64 270]) := he
            subst he'
            replace HB := hidm hB8
            clear he hk8 hC8 hB8 hp HU
            go_wp2_with fail
            obtain ⟨w9, hw9⟩ : ∃ w9, w9 = w8.alloc (.cells #[.int .i64 (⟨0, []⟩ : S27).f0, .slice A8 (⟨0, []⟩ : S27).f1.length c8] 27) := ⟨_, rfl⟩
            have hw9' : w8.alloc (.cells #[.int .i64 0, .slice A8 0 c8] 27) = w9 := hw9.symm
            rw [← hw9] at HB
            rw [hw9']
            clear hw9 hw9'
            go_loopw [15] (fun v W => ∃ now : Nat, now < ms.length ∧ v = .int .i64 ((now : Int) + 1) ∧ Hid (BackW w pb D ms now (.slice Ak ms.length ck) W)) (fun v _ => ms.length - (intOf v).toNat)
            case atStart => exact ⟨0, hmp, rfl, HB⟩
            case round =>
              clear HB
              obtain ⟨now, hnow, hv, HB⟩ := hrel
              by_cases hq : now + 1 < ms.length
              · obtain ⟨j, hj⟩ : ∃ j : Nat, j = now + 1 := ⟨_, rfl⟩
                have hv' : u15 = .int .i64 (j : Int) := by rw [hv, hj]; rfl
                subst hv'
                have hq0 : (0 : Int) ≤ (j : Int) := by omega
                have hq1 : (j : Int) < (ms.length : Int) := by omega
                have HU := hidm (redoL_yes HB.out.p HB.out.nD hq (by have := HLM.out; omega) (HMS.out _ (rd27_memb hq)))
                rw [← hj] at HU hq
                clear hj hv hnow
                go_wp2_with fail
                refine HU.out.mono ?_
                rintro e w8 hp
                obtain ⟨A8, c8, rfl, hk8, hC8, hB8⟩ := HB.out.step hp
                have HB8 := hidm hB8
                obtain ⟨ak, B9, d9, hAk, z0, z1, HSC⟩ := hB8.same j hq hC8 (c := c8)
                subst hAk
                obtain ⟨w9, hw9⟩ : ∃ w9, w9 = w8.alloc (.cells #[.int .i64 (rd_T27 ms j).f0, .slice A8 (rd_T27 ms j).f1.length c8] 27) := ⟨_, rfl⟩
                rw [← hw9] at hk8 z0 z1 HSC HB8
                have s0 : ∀ y : BW w9, y.1.cell? ⟨w8.heap.size, 0, none⟩ = some (.int .i64 (rd_T27 ms j).f0) := bw_cell (blk_cell hk8 0)
                have s1 : ∀ y : BW w9, y.1.cell? ⟨w8.heap.size, 1, none⟩ = some (.slice A8 (rd_T27 ms j).f1.length c8) := bw_cell (blk_cell hk8 1)
                have s2 : ∀ y : BW w9, y.1.cell? (ak.add (j * 2)) = some (.int .i64 (rd_T27 ms j).f0) := bw_cell z0
                have s3 : ∀ y : BW w9, y.1.cell? ⟨(ak.add (j * 2)).block, (ak.add (j * 2)).off + 1, none⟩ = some (.slice B9 (rd_T27 ms j).f1.length d9) := bw_cell z1
                have HWE := hidm hw9
                have htn : (j : Int).toNat = j := by omega
                have hwq : IntKind.i64.wrap ((j : Int) + 1) = (j : Int) + 1 := IntWalk.i64_in _ (by have := HLM.out; omega)
                clear hw9 hp hk8 hC8 hB8 z0 z1 HU HB
                go_wp2_with fail
                rw [← HWE.out]
                refine wp_region_bw (by kernel_rfl) (by kernel_rfl) ?_
                repeat (go_big_quiet_step ((go_at_call 30; exact calls_bw (HSC.out _))))
                refine wpQuiet_nil ?_
                rintro _ ⟨y, rfl⟩
                have HB6 := hidm (HB8.out.below y.2)
                clear s0 s1 s2 s3 HSC HB8
                go_wp2_with fail
                go_roundw
                case rel => exact ⟨j, hq, by go_num, HB6⟩
                case measure => simp [intOf]; omega
              · subst hv
                have hq1 : ¬ (now : Int) + 1 < (ms.length : Int) := by omega
                have hnl : now + 1 = ms.length := by omega
                have HNL := hidm hnl
                have HU := hidm (redoL_no HB.out.p HB.out.nD hnl (by have := HLM.out; omega))
                clear hnl
                go_wp2_with fail
                refine HU.out.mono ?_
                rintro e w8 ⟨v8, he, hv8, hP8, hw8⟩
                have he' : e = .returned (.tuple #[.agg #[.int .i64 0, v8], .int .i64 270]) := he
                subst he'
                replace HB := hidm (HB.out.move hw8 hP8)
                clear he hv8 hP8 hw8 HU hq1 hq
                have HU := hidm (nowL HB.out.p hnow (by have := HLM.out; omega) (HMS.out _ (rd27_memb hnow)))
                go_wp2_with fail
                refine HU.out.mono ?_
                rintro e w9 hp
                obtain ⟨A9, c9, rfl, hk9, hC9, hB9⟩ := HB.out.twin hp
                have HK9 := hidm hk9
                have HC9 := hidm hC9
                replace HB := hidm hB9
                clear hp hk9 hC9 hB9 HU
                obtain ⟨w10, hw10⟩ : ∃ w10, w10 = w9.alloc (.cells #[.int .i64 (rd_T27 ms now).f0, .slice A9 (rd_T27 ms now).f1.length c9] 27) := ⟨_, rfl⟩
                rw [← hw10] at HK9 HC9 HB
                have HWE := hidm hw10
                have HU := hidm (depthL HB.out.p hnow (by have := HLM.out; omega))
                rw [show (ms.length : Int) - 1 - (now : Int) = 0 from by have := HNL.out; omega] at HU
                clear hw10
                go_wp2_with fail
                rw [← HWE.out]
                refine HU.out.mono ?_
                rintro e w11 ⟨rfl, hb⟩
                have hC11 := Kd.C_below HC9.out hb
                have hk11 := blk_below HK9.out hb
                replace HB := hidm (HB.out.below hb)
                obtain ⟨ak, B9, d9, hAk, z0, z1, HSC⟩ := HB.out.same now hnow hC11 (c := c9)
                subst hAk
                have s0 : ∀ y : BW w11, y.1.cell? ⟨w9.heap.size, 0, none⟩ = some (.int .i64 (rd_T27 ms now).f0) := bw_cell (blk_cell hk11 0)
                have s1 : ∀ y : BW w11, y.1.cell? ⟨w9.heap.size, 1, none⟩ = some (.slice A9 (rd_T27 ms now).f1.length c9) := bw_cell (blk_cell hk11 1)
                have s2 : ∀ y : BW w11, y.1.cell? (ak.add (now * 2)) = some (.int .i64 (rd_T27 ms now).f0) := bw_cell z0
                have s3 : ∀ y : BW w11, y.1.cell? ⟨(ak.add (now * 2)).block, (ak.add (now * 2)).off + 1, none⟩ = some (.slice B9 (rd_T27 ms now).f1.length d9) := bw_cell z1
                have hwq : IntKind.i64.wrap ((ms.length : Int) - 1) = (now : Int) := by have := HNL.out; have := HLM.out; rw [show (ms.length : Int) - 1 = (now : Int) from by omega]; exact IntWalk.i64_in _ (by omega)
                have gq0 : (0 : Int) ≤ (now : Int) := by omega
                have gq1 : (now : Int) < (ms.length : Int) := by omega
                clear hb hC11 hk11 z0 z1 HU HK9 HC9
                go_wp2_with fail
                refine wp_region_bw (by kernel_rfl) (by kernel_rfl) ?_
                repeat (go_big_quiet_step ((go_at_call 30; exact calls_bw (HSC.out _))))
                refine wpQuiet_nil ?_
                rintro _ ⟨y, rfl⟩
                replace HB := hidm (HB.out.below y.2)
                clear s0 s1 s2 s3 HSC
                go_wp2_with fail
                go_ret
                exact ⟨rfl, HB.out.b⟩
  · have HK := hidm hk
    clear hk
    go_wp2_with fail
    refine (new_no (rd_T27 l 0).f0 A0 (rd_T27 l 0).f1 c0 w1 (Kd.C_below (Kd.F_now HF0.out) HB1.out) HWF.out HK.out).mono ?_
    rintro e w2 ⟨rfl, hb2⟩
    have HB2 := hidm (below_step HB1.out hb2)
    clear hb2
    go_wp2_with fail
    go_ret
    exact ⟨rfl, HB2.out⟩
end Go.Proofs.Ytlopfkkegjajlaa
