/- Texts of this proof and of the kit's print for this seat, gathered by wip/shake.py: only what the proof reaches. -/
import Derived.Test.YtlopfkkegjajlaaZb3
import Derived.WalkLawsBesides
import Derived.Deep.Quiet
import Derived.StillTail
import Derived.WalkMore
import Derived.Outline
import Derived.WalkSpells
import Derived.Lib.SliceRun
import Derived.Lib.Hide
import Derived.BigRegion
import Derived.OrdersHeld
import Derived.Deep.RegionHeld3
import Derived.Deep.Slices
import Derived.ProofKit
import Derived.Shelf.Sort.Plain
import Derived.Shelf.Slices.In.SortNone
import Derived.Sort.OwnSortedInts
namespace Go.Proofs.Ytlopfkkegjajlaa
open Go.RowKit Go.Proofs.YtlopfkkegjajlaaW.PrintWords PHistoryTouched
set_option maxRecDepth 100000 in
set_option maxHeartbeats 4000000 in
theorem alone_any (nx : Int) (l : List S76) (A : Option Addr) (c : Nat) (n : S76) (A4 A5 A6 : Option Addr) (c4 c5 c6 : Nat) (w : World) (hn : NodeR w n A4 c4 A5 c5 A6 c6) :
    Calls Try.prog 46 #[.agg #[.int .i64 nx, .slice A l.length c], nodeV n A4 c4 A5 c5 A6 c6] w fun e w' => e = .returned (.bool (tv (AloneP nx l.length n))) ∧ Below w.heap.size w w' := by
  have NO : Hid (¬ AloneP nx l.length n → tv (AloneP nx l.length n) = false) := tv_no
  have HW : Hid (Boxed2 w (.cells #[.int .i64 nx, .slice A l.length c] 27) (.cells (nodeCs n A4 c4 A5 c5 A6 c6) 76) ((w.alloc (.cells #[.int .i64 nx, .slice A l.length c] 27)).alloc (.cells (nodeCs n A4 c4 A5 c5 A6 c6) 76))) := boxed2 w _ _
  cases h1 : wordB n.f1 with
  | false =>
    rw [NO.out (fun h => by have := h.word; rw [h1] at this; cases this)]
    have H1 : Hid (wordB n.f1 = false) := h1
    clear NO h1
    go_enter Try.func46, Try.ntmps46
    go_wp2_with fail
    generalize (World.alloc (World.alloc _ _) _) = W at HW ⊢
    refine (word_any n.f1 W).mono ?_
    rintro e w1 ⟨rfl, hb1⟩
    rw [H1.out]
    have HB : Hid (Below w.heap.size w w1) := below_step HW.out.b hb1
    clear hb1 HW
    go_wp2_with fail
    go_ret
    exact ⟨rfl, HB.out⟩
  | true =>
    have H1 : Hid (wordB n.f1 = true) := h1
    by_cases h2 : n.f2 = 0 ↔ n.f3.toList = []
    case neg =>
      rw [NO.out (fun h => h2 h.root)]
      have HH : Hid (¬ (n.f2 = 0 ↔ n.f3.toList = [])) := h2
      clear NO h1 h2
      by_cases e2 : n.f2 = 0 <;> by_cases e3 : n.f3.toList = []
      · exact absurd ⟨fun _ => e3, fun _ => e2⟩ HH.out
      · have e2' : (n.f2 == 0) = true := by simp [e2]
        have e3' : (n.f3.toList == []) = false := by simp [e3]
        have e3'' : n.f3.toList.isEmpty = false := by simp [e3]
        clear e2 e3
        go_enter Try.func46, Try.ntmps46
        go_wp2_with fail
        generalize (World.alloc (World.alloc _ _) _) = W at HW ⊢
        refine (word_any n.f1 W).mono ?_
        rintro e w1 ⟨rfl, hb1⟩
        rw [H1.out]
        have q2 : w1.cell? ⟨w.heap.size + 1, 2, none⟩ = some (.int .i64 n.f2) := blk_cell (HW.out.below hb1).k2 2
        have q3 : w1.cell? ⟨w.heap.size + 1, 3, none⟩ = some (.string n.f3) := blk_cell (HW.out.below hb1).k2 3
        have HB : Hid (Below w.heap.size w w1) := below_step HW.out.b hb1
        clear hb1 HW
        go_wp2_with fail
        go_ret
        exact ⟨rfl, HB.out⟩
      · have e2' : (n.f2 == 0) = false := by simp [e2]
        have e3' : (n.f3.toList == []) = true := by simp [e3]
        have e3'' : n.f3.toList.isEmpty = true := by simp [e3]
        clear e2 e3
        go_enter Try.func46, Try.ntmps46
        go_wp2_with fail
        generalize (World.alloc (World.alloc _ _) _) = W at HW ⊢
        refine (word_any n.f1 W).mono ?_
        rintro e w1 ⟨rfl, hb1⟩
        rw [H1.out]
        have q2 : w1.cell? ⟨w.heap.size + 1, 2, none⟩ = some (.int .i64 n.f2) := blk_cell (HW.out.below hb1).k2 2
        have q3 : w1.cell? ⟨w.heap.size + 1, 3, none⟩ = some (.string n.f3) := blk_cell (HW.out.below hb1).k2 3
        have HB : Hid (Below w.heap.size w w1) := below_step HW.out.b hb1
        clear hb1 HW
        go_wp2_with fail
        go_ret
        exact ⟨rfl, HB.out⟩
      · exact absurd ⟨fun h => absurd h e2, fun h => absurd h e3⟩ HH.out
    by_cases h4 : n.f3.toList ≠ [] → wordB n.f3 = true
    case neg =>
      rw [NO.out (fun h => h4 h.role)]
      have e3 : ¬ n.f3.toList = [] := fun h => h4 (fun h' => absurd h h')
      have H4 : Hid (wordB n.f3 = false) := by
        cases hw : wordB n.f3 with
        | false => rfl
        | true => exact absurd (fun _ => hw) h4
      have e2 : ¬ n.f2 = 0 := fun h => e3 (h2.1 h)
      have e2' : (n.f2 == 0) = false := by simp [e2]
      have e3' : (n.f3.toList == []) = false := by simp [e3]
      have e3'' : n.f3.toList.isEmpty = false := by simp [e3]
      clear NO h1 h2 h4 e2 e3
      go_enter Try.func46, Try.ntmps46
      go_wp2_with fail
      generalize (World.alloc (World.alloc _ _) _) = W at HW ⊢
      refine (word_any n.f1 W).mono ?_
      rintro e w1 ⟨rfl, hb1⟩
      rw [H1.out]
      have q2 : w1.cell? ⟨w.heap.size + 1, 2, none⟩ = some (.int .i64 n.f2) := blk_cell (HW.out.below hb1).k2 2
      have q3 : w1.cell? ⟨w.heap.size + 1, 3, none⟩ = some (.string n.f3) := blk_cell (HW.out.below hb1).k2 3
      have HB : Hid (Below w.heap.size w w1) := below_step HW.out.b hb1
      clear hb1 HW
      go_wp2_with fail
      refine (word_any n.f3 w1).mono ?_
      rintro e w2 ⟨rfl, hb2⟩
      rw [H4.out]
      have HB2 : Hid (Below w.heap.size w w2) := below_step HB.out hb2
      clear hb2 q2 q3 HB
      go_wp2_with fail
      go_ret
      exact ⟨rfl, HB2.out⟩
    rcases Nat.lt_or_ge l.length n.f5.length with h5 | h5
    · rw [NO.out (fun h => by have := h.kids; omega)]
      have H2 : Hid (n.f2 = 0 ↔ n.f3.toList = []) := h2
      have H4 : Hid (n.f3.toList ≠ [] → wordB n.f3 = true) := h4
      have h5b : decide (l.length < n.f5.length) = true := by simp; omega
      clear NO h1 h2 h4
      by_cases e3 : n.f3.toList = []
      · have e2 : n.f2 = 0 := H2.out.2 e3
        have e2' : (n.f2 == 0) = true := by simp [e2]
        have e3' : (n.f3.toList == []) = true := by simp [e3]
        have e3'' : n.f3.toList.isEmpty = true := by simp [e3]
        clear e2 e3
        go_enter Try.func46, Try.ntmps46
        go_wp2_with fail
        generalize (World.alloc (World.alloc _ _) _) = W at HW ⊢
        refine (word_any n.f1 W).mono ?_
        rintro e w1 ⟨rfl, hb1⟩
        rw [H1.out]
        have q1 : w1.cell? ⟨w.heap.size, 1, none⟩ = some (.slice A l.length c) := blk_cell (HW.out.below hb1).k1 1
        have q2 : w1.cell? ⟨w.heap.size + 1, 2, none⟩ = some (.int .i64 n.f2) := blk_cell (HW.out.below hb1).k2 2
        have q3 : w1.cell? ⟨w.heap.size + 1, 3, none⟩ = some (.string n.f3) := blk_cell (HW.out.below hb1).k2 3
        have q5 : w1.cell? ⟨w.heap.size + 1, 5, none⟩ = some (.slice A5 n.f5.length c5) := blk_cell (HW.out.below hb1).k2 5
        have HB : Hid (Below w.heap.size w w1) := below_step HW.out.b hb1
        clear hb1 HW
        go_wp2_with fail
        go_ret
        exact ⟨rfl, HB.out⟩
      · have e2 : ¬ n.f2 = 0 := fun h => e3 (H2.out.1 h)
        have H5 : Hid (wordB n.f3 = true) := H4.out e3
        have e2' : (n.f2 == 0) = false := by simp [e2]
        have e3' : (n.f3.toList == []) = false := by simp [e3]
        have e3'' : n.f3.toList.isEmpty = false := by simp [e3]
        clear e2 e3
        go_enter Try.func46, Try.ntmps46
        go_wp2_with fail
        generalize (World.alloc (World.alloc _ _) _) = W at HW ⊢
        refine (word_any n.f1 W).mono ?_
        rintro e w1 ⟨rfl, hb1⟩
        rw [H1.out]
        have q2 : w1.cell? ⟨w.heap.size + 1, 2, none⟩ = some (.int .i64 n.f2) := blk_cell (HW.out.below hb1).k2 2
        have q3 : w1.cell? ⟨w.heap.size + 1, 3, none⟩ = some (.string n.f3) := blk_cell (HW.out.below hb1).k2 3
        have HW1 : Hid (Boxed2 w (.cells #[.int .i64 nx, .slice A l.length c] 27) (.cells (nodeCs n A4 c4 A5 c5 A6 c6) 76) w1) := HW.out.below hb1
        clear hb1 HW
        go_wp2_with fail
        refine (word_any n.f3 w1).mono ?_
        rintro e w2 ⟨rfl, hb2⟩
        rw [H5.out]
        have HB2 : Hid (Below w.heap.size w w2) := below_step HW1.out.b hb2
        have q1 : w2.cell? ⟨w.heap.size, 1, none⟩ = some (.slice A l.length c) := blk_cell (HW1.out.below hb2).k1 1
        have q5 : w2.cell? ⟨w.heap.size + 1, 5, none⟩ = some (.slice A5 n.f5.length c5) := blk_cell (HW1.out.below hb2).k2 5
        clear hb2 q2 q3 HW1
        go_wp2_with fail
        go_ret
        exact ⟨rfl, HB2.out⟩
    · exact alone_yes nx l A c n A4 A5 A6 c4 c5 c6 w hn h1 h2 h4 h5
end Go.Proofs.Ytlopfkkegjajlaa
namespace Go.Proofs.Ytlopfkkegjajlaa
open Go.RowKit Go.Proofs.YtlopfkkegjajlaaW.PrintWords PHistoryTouched
structure IdsUp (l : List S76) : Prop where
  up : ∀ i j : Nat, i < j → j < l.length → (rd_T76 l i).f0 < (rd_T76 l j).f0
  lo : ∀ i : Nat, i < l.length → 1 ≤ (rd_T76 l i).f0
  hi : ∀ i : Nat, i < l.length → (rd_T76 l i).f0 ≤ 1048576
def Found (l : List S76) (id : Int) (p : Int) (b : Bool) : Prop :=
  (b = true → ∃ q : Nat, p = q ∧ q < l.length ∧ (rd_T76 l q).f0 = id) ∧ (b = false → ∀ q : Nat, q < l.length → (rd_T76 l q).f0 ≠ id)
structure I64 (x : Int) : Prop where
  lo : -9223372036854775808 ≤ x
  hi : x ≤ 9223372036854775807
theorem cmp_any (a id : Int) (c1 c2 c3 c4 c5 c6 : Value) (w : World) :
    Calls Try.prog 75 #[.agg #[.int .i64 a, c1, c2, c3, c4, c5, c6], .int .i64 id] w fun e w' => e = .returned (.int .i64 (wrap64 (a - id))) ∧ Below w.heap.size w w' := by
  go_enter Try.func75, Try.ntmps75
  go_wp2
  go_ret
  exact ⟨rfl, (Below.refl _ _).alloc (Nat.le_refl _) _⟩
theorem cmp_at (a id d : Int) (h : Hid (wrap64 (a - id) = d)) (c1 c2 c3 c4 c5 c6 : Value) (w : World) :
    Calls Try.prog 75 #[.agg #[.int .i64 a, c1, c2, c3, c4, c5, c6], .int .i64 id] w fun e w' => e = .returned (.int .i64 d) ∧ Below w.heap.size w w' := by
  rw [← h.out]; exact cmp_any a id c1 c2 c3 c4 c5 c6 w
theorem found_out {l : List S76} {id : Int} {i : Int} {n : Nat} (hn : n = l.length) (hi : (n : Int) ≤ i) (h : ∀ q : Nat, q < n → (rd_T76 l q).f0 = id → i ≤ q) : Found l id i false :=
  ⟨fun h => by simp at h, fun _ q hq he => by have := h q (by omega) he; omega⟩
theorem found_in {l : List S76} {id : Int} {i d : Int} (h0 : 0 ≤ i) (h1 : i < l.length) (hs : IdsUp l) (hid : I64 id) (h : ∀ q : Nat, q < l.length → (rd_T76 l q).f0 = id → i ≤ q ∧ q ≤ i) (hd : wrap64 ((rd_T76 l i).f0 - id) = d) : Found l id i (d == 0) := by
  obtain ⟨i, rfl⟩ := Int.eq_ofNat_of_zero_le h0
  have e : (d == 0) = decide ((rd_T76 l i).f0 = id) := by
    subst hd
    rw [Bool.eq_iff_iff]
    simp only [beq_iff_eq, decide_eq_true_eq]
    have b1 := hs.lo i (by omega)
    have b2 := hs.hi i (by omega)
    have b3 := hid.1
    have b4 := hid.2
    unfold wrap64; omega
  rw [e]
  refine ⟨fun hb => ⟨i, rfl, by omega, by simpa using hb⟩, fun hb q hq he => ?_⟩
  have := h q hq he
  obtain rfl : q = i := by omega
  simp [he] at hb
theorem search_side {l : List S76} (hs : IdsUp l) (m : Int) (h0 : 0 ≤ m) (h1 : m < l.length) (id : Int) : ∀ q : Nat, q < l.length → (rd_T76 l q).f0 = id → (wrap64 ((rd_T76 l m).f0 - id) < 0 → m + 1 ≤ q) ∧ (¬ wrap64 ((rd_T76 l m).f0 - id) < 0 → q ≤ m) := by
  intro q hq he
  obtain ⟨m, rfl⟩ := Int.eq_ofNat_of_zero_le h0
  have a1 := hs.lo q hq
  have a2 := hs.hi q hq
  have b1 := hs.lo m (by omega)
  have b2 := hs.hi m (by omega)
  have hw : wrap64 ((rd_T76 l m).f0 - id) = (rd_T76 l m).f0 - id := by unfold wrap64; omega
  rw [hw]
  rcases Nat.lt_trichotomy m q with h | h | h
  · have := hs.up m q h hq; omega
  · subst h; omega
  · have := hs.up q m h (by omega); omega
def SearchPost (l : List S76) (id : Int) (w : World) (e : Ending) (w' : World) : Prop := ∃ (p : Int) (b : Bool), e = .returned (.tuple #[.int .i64 p, .bool b]) ∧ Found l id p b ∧ Below w.heap.size w w'
set_option maxRecDepth 100000 in
set_option maxHeartbeats 1000000 in
theorem search_any (A : Option Addr) (l : List S76) (cp : Nat) (id : Int) (w : World) (hr : Kd.C k76 w A l.length l) (hs : IdsUp l) (hl : l.length ≤ 4096) (hid : I64 id) :
    Calls Try.prog 74 #[.slice A l.length cp, .int .i64 id, .func (.func 75) #[] #[]] w (SearchPost l id w) := by
  have HR : Hid (Kd.C k76 w A l.length l) := hr
  have HS : Hid (IdsUp l) := hs
  have HI : Hid (I64 id) := hid
  clear hr hs hid
  go_enter Try.func74, Try.ntmps74
  go_wp2
  go_loopw [9, 10] (fun a b W => ∃ i j : Int, 0 ≤ i ∧ i ≤ j ∧ j ≤ l.length ∧ a = .int .i64 i ∧ b = .int .i64 j ∧ Hid (Below w.heap.size w W)
    ∧ Hid (∀ q : Nat, q < l.length → (rd_T76 l q).f0 = id → i ≤ q ∧ q ≤ j)) (fun a b _ => (intOf b).toNat - (intOf a).toNat)
  case atStart => exact ⟨0, l.length, by omega, by omega, by omega, rfl, rfl, Below.refl _ _, fun q hq _ => by omega⟩
  case round =>
    obtain ⟨i, j, h0, hij, hj, rfl, rfl, HB, HF⟩ := hrel
    by_cases hlt : i < j
    · obtain ⟨m, hm⟩ : ∃ m, (i + j) / 2 = m := ⟨_, rfl⟩
      have hm0 : i ≤ m := by omega
      have hm1 : m < j := by omega
      obtain ⟨ad, A4, c4, A5, c5, A6, c6, rfl, hx0, hx1, hx2, hx3, hx4, hx5, hx6, _⟩ := at_T76 HR.out m (by omega) (by omega)
      replace hx0 := (HB.out.cell (World.block_lt_of_cell? w _ hx0)).trans hx0
      replace hx1 := (HB.out.cell (World.block_lt_of_cell? w _ hx1)).trans hx1
      replace hx2 := (HB.out.cell (World.block_lt_of_cell? w _ hx2)).trans hx2
      replace hx3 := (HB.out.cell (World.block_lt_of_cell? w _ hx3)).trans hx3
      replace hx4 := (HB.out.cell (World.block_lt_of_cell? w _ hx4)).trans hx4
      replace hx5 := (HB.out.cell (World.block_lt_of_cell? w _ hx5)).trans hx5
      replace hx6 := (HB.out.cell (World.block_lt_of_cell? w _ hx6)).trans hx6
      have HU : Hid (∀ q : Nat, q < l.length → (rd_T76 l q).f0 = id → (wrap64 ((rd_T76 l m).f0 - id) < 0 → m + 1 ≤ q) ∧ (¬ wrap64 ((rd_T76 l m).f0 - id) < 0 → q ≤ m)) := search_side HS.out m (by omega) (by omega) id
      obtain ⟨d, HD⟩ : ∃ d, Hid (wrap64 ((rd_T76 l m).f0 - id) = d) := ⟨_, rfl⟩
      by_cases hc : d < 0
      · have HF' : Hid (∀ q : Nat, q < l.length → (rd_T76 l q).f0 = id → m + 1 ≤ q ∧ q ≤ j) := fun q hq he => ⟨(HU.out q hq he).1 (by rw [HD.out]; exact hc), (HF.out q hq he).2⟩
        clear HU HF
        go_wp2_with (first | (go_at_call 75; refine (cmp_at _ _ d HD _ _ _ _ _ _ _).mono ?_; rintro e w' ⟨rfl, hb⟩; have HB2 : Hid (Below w.heap.size w w') := below_step HB.out hb; clear HB))
        go_roundw
        case rel => exact ⟨m + 1, j, by omega, by omega, hj, rfl, rfl, HB2, HF'⟩
        case measure => simp [intOf]; omega
      · have HF' : Hid (∀ q : Nat, q < l.length → (rd_T76 l q).f0 = id → i ≤ q ∧ q ≤ m) := fun q hq he => ⟨(HF.out q hq he).1, (HU.out q hq he).2 (by rw [HD.out]; exact hc)⟩
        clear HU HF
        go_wp2_with (first | (go_at_call 75; refine (cmp_at _ _ d HD _ _ _ _ _ _ _).mono ?_; rintro e w' ⟨rfl, hb⟩; have HB2 : Hid (Below w.heap.size w w') := below_step HB.out hb; clear HB))
        go_roundw
        case rel => exact ⟨i, m, by omega, by omega, by omega, rfl, rfl, HB2, HF'⟩
        case measure => simp [intOf]; omega
    · by_cases hn : i < l.length
      · obtain ⟨ad, A4, c4, A5, c5, A6, c6, rfl, hx0, hx1, hx2, hx3, hx4, hx5, hx6, _⟩ := at_T76 HR.out i (by omega) (by omega)
        replace hx0 := (HB.out.cell (World.block_lt_of_cell? w _ hx0)).trans hx0
        replace hx1 := (HB.out.cell (World.block_lt_of_cell? w _ hx1)).trans hx1
        replace hx2 := (HB.out.cell (World.block_lt_of_cell? w _ hx2)).trans hx2
        replace hx3 := (HB.out.cell (World.block_lt_of_cell? w _ hx3)).trans hx3
        replace hx4 := (HB.out.cell (World.block_lt_of_cell? w _ hx4)).trans hx4
        replace hx5 := (HB.out.cell (World.block_lt_of_cell? w _ hx5)).trans hx5
        replace hx6 := (HB.out.cell (World.block_lt_of_cell? w _ hx6)).trans hx6
        obtain ⟨d, HD⟩ : ∃ d, Hid (wrap64 ((rd_T76 l i).f0 - id) = d) := ⟨_, rfl⟩
        have HQ : Hid (Found l id i (d == 0)) := found_in h0 hn HS.out HI.out (fun q hq he => by have := HF.out q hq he; omega) HD.out
        generalize hdb : (d == 0) = b at HQ
        go_wp2_with (first | (go_at_call 75; refine (cmp_at _ _ d HD _ _ _ _ _ _ _).mono ?_; rintro e w' ⟨rfl, hb⟩; have HB2 : Hid (Below w.heap.size w w') := below_step HB.out hb; clear HB))
        go_ret2
        exact ⟨i, b, rfl, HQ.out, HB2.out⟩
      · have HQ : Hid (Found l id i false) := found_out rfl (by omega) (fun q hq he => (HF.out q hq he).1)
        go_wp2_with fail
        go_ret2
        exact ⟨i, false, rfl, HQ.out, HB.out⟩
def Placed (l : List S76) (id : Int) (p : Int) : Prop :=
  (p < 0 → p = -1 ∧ ∀ q : Nat, q < l.length → (rd_T76 l q).f0 ≠ id) ∧ (0 ≤ p → ∃ q : Nat, p = q ∧ q < l.length ∧ (rd_T76 l q).f0 = id)
def PlacePost (l : List S76) (id : Int) (w : World) (e : Ending) (w' : World) : Prop := ∃ p : Int, e = .returned (.int .i64 p) ∧ Placed l id p ∧ Below w.heap.size w w'
set_option maxRecDepth 100000 in
set_option maxHeartbeats 1000000 in
theorem place_any (nx : Int) (A : Option Addr) (l : List S76) (cp : Nat) (id : Int) (w : World) (hr : Kd.C k76 w A l.length l) (hs : IdsUp l) (hl : l.length ≤ 4096) (hid : I64 id) :
    Calls Try.prog 54 #[.agg #[.int .i64 nx, .slice A l.length cp], .int .i64 id] w (PlacePost l id w) := by
  have HR : Hid (Kd.C k76 w A l.length l) := hr
  have HS : Hid (IdsUp l) := hs
  have HI : Hid (I64 id) := hid
  clear hr hs hid
  go_enter Try.func54, Try.ntmps54
  go_wp2_with fail
  have HR' := Kd.C_below HR.out (below_alloc (Below.refl w.heap.size w) (Obj.cells #[Value.int IntKind.i64 nx, Value.slice A l.length cp] 27))
  refine (search_any A l cp id _ HR' HS.out hl HI.out).mono ?_
  rintro e w1 ⟨p, b, rfl, hf, hb⟩
  have HB : Hid (Below w.heap.size w w1) := below_step (below_alloc (Below.refl w.heap.size w) _) hb
  cases b with
  | true =>
    obtain ⟨q, rfl, hq, he⟩ := hf.1 rfl
    have HP : Hid (Placed l id (q : Int)) := ⟨fun h => by omega, fun _ => ⟨q, rfl, hq, he⟩⟩
    clear hf HR' hb he
    go_wp2_with fail
    go_ret
    exact ⟨_, rfl, HP.out, HB.out⟩
  | false =>
    have HP : Hid (Placed l id (-1)) := ⟨fun _ => ⟨rfl, hf.2 rfl⟩, fun h => by omega⟩
    clear hf HR' hb
    go_wp2_with fail
    go_ret
    exact ⟨_, rfl, HP.out, HB.out⟩
end Go.Proofs.Ytlopfkkegjajlaa
namespace Go.Proofs.Ytlopfkkegjajlaa
open Go
section
variable {P : Program} {ops : Array Oper} {C : World → Prop}
def RunQ (P : Program) (ops : Array Oper) (C : World → Prop) (F : Act → Prop) : List Nat → Act → Prop
  | [], a => F a
  | i :: rem, a => qOp P ops C i (RunQ P ops C F rem) a
def apartAt (ops : Array Oper) (i j : Nat) : Bool :=
  match ops[i]?, ops[j]? with
  | some x, some y => x.apart ops y
  | _, _ => false
theorem run_front {F : Act → Prop} (hsel : ∀ (j : Nat) (o : Oper) cs b, ops[j]? = some o → o.op ≠ .select cs b) : ∀ (l1 : List Nat) (j : Nat) (l2 : List Nat) (a : Act), (∀ i ∈ l1, apartAt ops i j = true) →
    RunQ P ops C F (l1 ++ j :: l2) a → RunQ P ops C F (j :: (l1 ++ l2)) a
  | [], _, _, _, _, h => h
  | i :: l1, j, l2, a, hap, h => by
    have h1 : qOp P ops C i (RunQ P ops C F (j :: (l1 ++ l2))) a := qOp_mono (fun a' h' => run_front hsel l1 j l2 a' (fun k hk => hap k (List.mem_cons_of_mem _ hk)) h') h
    have ha := hap i (List.mem_cons_self)
    unfold apartAt at ha
    cases hi : ops[i]? with
    | none => simp [hi] at ha
    | some oi =>
      cases hj : ops[j]? with
      | none => simp [hi, hj] at ha
      | some oj =>
        simp only [hi, hj] at ha
        obtain ⟨v, hy, hK⟩ := yieldsIn_of_qOp hi h1
        have h2 := qOp_put hj ha (fun cs b => hsel i oi cs b hi) (fun cs b => hsel j oj cs b hj) hy hK
        exact qOp_mono (fun a' h' => h'.1.qOp hi h'.2) h2
def headB (ops : Array Oper) (n : Nat) : Bool :=
  (List.range n).all fun j => (match ops[j]? with | some o => o.after.all (fun e => !Region.binds .any e || decide (e.on < j)) | none => false) &&
    (List.range j).all fun i => Region.waitsFor .any ops j i || apartAt ops i j
def headed (m n : Nat) : Array Bool := (Array.range m).map fun i => decide (i < n)
def tailB (ops : Array Oper) (n : Nat) : Bool :=
  Region.noSelect ops && decide (n < ops.size) && Region.sinkB .any ops n && Region.chainB .any ops n && headB ops n && Region.seqB .any ops (ops.size - n) n (headed ops.size n)
structure Rem (ops : Array Oper) (n : Nat) (listed : Array Bool) (rem : List Nat) : Prop where
  inv : HeadInv .any ops n listed
  mem : ∀ i, i ∈ rem ↔ i < n ∧ listed.getD i true = false
  up : rem.Pairwise (· < ·)
theorem rem_done {n : Nat} {listed : Array Bool} (h : Rem ops n listed []) : listed = headed ops.size n := by
  apply Array.ext
  · simp [headed, h.inv.size]
  · intro i h1 h2
    have hs : i < ops.size := by rw [← h.inv.size]; exact h1
    have e : listed[i] = listed.getD i true := by simp [h1]
    rw [e]
    simp only [headed, Array.getElem_map, Array.getElem_range]
    rcases Nat.lt_or_ge i n with hi | hi
    · have := h.mem i
      simp only [List.not_mem_nil, false_iff, not_and] at this
      have := this hi
      rw [decide_eq_true hi]
      simpa using this
    · rw [decide_eq_false (by omega)]
      exact h.inv.tail i hi hs
theorem any_of_run {n g : Nat} {F : Act → Prop} {Q' : Exit → Act → World → Prop} (hsel : ∀ (j : Nat) (o : Oper) cs b, ops[j]? = some o → o.op ≠ .select cs b)
    (hs : Region.sinkB .any ops n = true) (hc : Region.chainB .any ops n = true) (hn : n < ops.size) (hh : headB ops n = true)
    (hend : ∀ a w, C w → F a → wpAny P .any ops Q' g (headed ops.size n) a w) :
    ∀ (m : Nat) (rem : List Nat) (listed : Array Bool) (a : Act) (w : World), rem.length = m → Rem ops n listed rem → C w → RunQ P ops C F rem a → wpAny P .any ops Q' (m + g) listed a w
  | 0, rem, listed, a, w, hm, hr, hw, h => by
    obtain rfl : rem = [] := List.eq_nil_of_length_eq_zero hm
    rw [Nat.zero_add, rem_done hr]
    exact hend a w hw h
  | m + 1, rem, listed, a, w, hm, hr, hw, h => by
    have hhead : ∀ j, j < n → ∃ o, ops[j]? = some o ∧ (∀ e ∈ o.after, Region.binds .any e = true → e.on < j) ∧ ∀ i, i < j → Region.waitsFor .any ops j i = true ∨ apartAt ops i j = true := by
      intro j hj
      have h1 := List.all_eq_true.1 hh j (List.mem_range.2 hj)
      rw [Bool.and_eq_true] at h1
      cases ho : ops[j]? with
      | none => simp [ho] at h1
      | some o =>
        refine ⟨o, rfl, fun e he hb => ?_, fun i hi => ?_⟩
        · have h2 := h1.1
          simp only [ho] at h2
          have h3 := Array.all_eq_true_iff_forall_mem.1 h2 e he
          simp only [hb, Bool.not_true, Bool.false_or, decide_eq_true_eq] at h3
          exact h3
        · have h2 := List.all_eq_true.1 h1.2 i (List.mem_range.2 hi)
          rwa [Bool.or_eq_true] at h2
    obtain ⟨i0, rem', rfl⟩ : ∃ i0 rem', rem = i0 :: rem' := by
      cases rem with
      | nil => simp at hm
      | cons i r => exact ⟨i, r, rfl⟩
    have hi0 := (hr.mem i0).1 List.mem_cons_self
    have hready0 : i0 ∈ Region.ready .any ops listed := by
      obtain ⟨o, ho, he, _⟩ := hhead i0 hi0.1
      refine mem_ready.2 ⟨hi0.2, o, ho, fun e hx hb => ?_⟩
      have hlt := he e hx hb
      have hnot : e.on ∉ i0 :: rem' := fun hmem => by
        rcases List.mem_cons.1 hmem with h1 | h1
        · omega
        · have := (List.pairwise_cons.1 hr.up).1 _ h1; omega
      have h2 : ¬ listed.getD e.on true = false := fun h3 => hnot ((hr.mem e.on).2 ⟨by omega, h3⟩)
      have hsz : e.on < listed.size := by rw [hr.inv.size]; omega
      simp [hsz] at h2 ⊢
      exact h2
    have hsucc : m + 1 + g = (m + g) + 1 := by omega
    rw [hsucc]
    refine ⟨fun h0 => (by rw [h0] at hready0; cases hready0), fun j hj => ?_⟩
    have hjun := (mem_ready.1 hj).1
    have hjn : j < n := by
      rcases Nat.lt_or_ge j n with h1 | h1
      · exact h1
      · exact absurd hj (tail_waits hs hc hn hr.inv _ i0 rfl hi0.1 hi0.2 j h1)
    have hjm : j ∈ i0 :: rem' := (hr.mem j).2 ⟨hjn, hjun⟩
    obtain ⟨l1, l2, hl⟩ := List.append_of_mem hjm
    rw [hl] at h hm
    have hup := hr.up
    rw [hl] at hup
    have hap : ∀ i ∈ l1, apartAt ops i j = true := by
      intro i hi
      have hij : i < j := (List.pairwise_append.1 hup).2.2 i hi j List.mem_cons_self
      obtain ⟨o, ho, _, hw2⟩ := hhead j hjn
      rcases hw2 i hij with h1 | h1
      · exfalso
        obtain ⟨o', ho', e, he, hb, hon⟩ := Region.waitsFor_spec h1
        obtain ⟨_, o2, ho2, hall⟩ := mem_ready.1 hj
        have : o' = o2 := Option.some.inj (ho'.symm.trans ho2)
        subst this
        have h2 := hall e he hb
        have h3 : listed.getD i true = false := ((hr.mem i).1 (by rw [hl]; exact List.mem_append_left _ hi)).2
        rw [hon, getD_both h3] at h2
        cases h2
      · exact h1
    have h2 := run_front hsel l1 j l2 a hap h
    have hlen : (l1 ++ l2).length = m := by simp at hm ⊢; omega
    have hnd : ∀ i, i ∈ l1 ++ l2 → i ≠ j := by
      intro i hi
      rcases List.mem_append.1 hi with h3 | h3
      · have := (List.pairwise_append.1 hup).2.2 i h3 j List.mem_cons_self; omega
      · have := (List.pairwise_cons.1 (List.pairwise_append.1 hup).2.1).1 i h3; omega
    have hr2 : Rem ops n (listed.setIfInBounds j true) (l1 ++ l2) := by
      refine ⟨hr.inv.set hj hjn, fun i => ?_, ?_⟩
      · by_cases hij : i = j
        · subst hij
          have hsz : i < listed.size := by rw [hr.inv.size]; omega
          constructor
          · intro h3; exact absurd rfl (hnd i h3)
          · rintro ⟨_, h3⟩; simp [hsz] at h3
        · rw [getD_set_ne true (Ne.symm hij)]
          rw [← hr.mem i, hl]
          simp only [List.mem_append, List.mem_cons]
          constructor
          · rintro (h3 | h3)
            · exact .inl h3
            · exact .inr (.inr h3)
          · rintro (h3 | h3 | h3)
            · exact .inl h3
            · exact absurd h3 hij
            · exact .inr h3
      · rw [List.pairwise_append] at hup ⊢
        exact ⟨hup.1, (List.pairwise_cons.1 hup.2.1).2, fun x hx y hy => hup.2.2 x hx y (List.mem_cons_of_mem _ hy)⟩
    exact wpOp_of_qOp hw (fun a' w' hw' h' => any_of_run hsel hs hc hn hh hend m (l1 ++ l2) _ a' w' hlen hr2 hw' h') h2
theorem run_of_quiet {F : Act → Prop} : ∀ (l : List Oper) (k : Nat) (a : Act), (∀ j, j < l.length → l[j]? = ops[k + j]?) → wpQuiet P ops C F l a → RunQ P ops C F (List.range' k l.length) a
  | [], _, _, _, h => h
  | o :: l, k, a, hl, h => by
    have h0 : ops[k]? = some o := by simpa using (hl 0 (by simp)).symm
    rw [List.length_cons, List.range'_succ]
    have h1 : qOp P ops C k (wpQuiet P ops C F l) a := by unfold qOp; simp only [h0]; exact h
    exact qOp_mono (fun a' h' => run_of_quiet l (k + 1) a' (fun j hj => by have := hl (j + 1) (by simp; omega); simpa [Nat.add_assoc, Nat.add_comm 1 j] using this) h') h1
end
theorem wp_region_tail {P : Program} {C : World → Prop} {id : Nat} {Q : Exit → Act → World → Prop} {a : Act} {w : World} {l : List Oper} (n : Nat) (hm : P.follows .mixedOrders = true) (hB : tailB l.toArray n = true) (hC : C { w with drawn := w.drawn + 1 })
    (h : wpQuiet P l.toArray C (fun a' => ∀ w', C w' → wpList P l.toArray Q (l.drop n) a' w') (l.take n) a) : (Code.region id l.toArray true).wp P Q a w := by
  simp only [tailB, Bool.and_eq_true, decide_eq_true_eq] at hB
  obtain ⟨⟨⟨⟨⟨hsel, hn⟩, hs⟩, hc⟩, hh⟩, hq⟩ := hB
  have hn' : n < l.length := by simpa using hn
  have htl : (l.take n).length = n := by simp; omega
  have hdl : (l.drop n).length = l.toArray.size - n := by simp
  have hrun := run_of_quiet (ops := l.toArray) (l.take n) 0 a (fun j hj => by
    have hj' : j < n := by rw [htl] at hj; exact hj
    simp [hj']) h
  rw [htl] at hrun
  have hrem : Rem l.toArray n (Array.replicate l.toArray.size false) (List.range' 0 n) := by
    refine ⟨⟨by simp, fun j oj _ hl => (by rw [getD_replicate_false] at hl; cases hl), fun t _ ht => getD_in (by simpa using ht) (getD_replicate_false _ _)⟩, fun i => ?_, ?_⟩
    · rw [List.mem_range'_1]
      constructor
      · rintro ⟨_, h2⟩; exact ⟨by omega, getD_in (by simp; omega) (getD_replicate_false _ _)⟩
      · rintro ⟨h1, _⟩; exact ⟨by omega, by omega⟩
    · exact List.pairwise_lt_range'
  refine wp_region_any hm ?_
  have := any_of_run (P := P) (C := C) (g := l.toArray.size - n) (Q' := Q) (Region.noSelect_spec hsel) hs hc hn hh (fun a' w' hw' hF => by
    have := wpAny_of_seq (md := .any) (Q' := Q) (l.drop n) n _ a' w' (fun j => by simp [List.getElem?_drop]) (by rw [hdl]; exact hq) (hF w' hw')
    rwa [hdl] at this) n (List.range' 0 n) _ a _ (by simp) hrem hC hrun
  rw [show n + (l.toArray.size - n) = l.toArray.size by omega] at this
  exact this
end Go.Proofs.Ytlopfkkegjajlaa
namespace Go.Proofs.Ytlopfkkegjajlaa
open Go.RowKit Go.Proofs.YtlopfkkegjajlaaW.PrintWords PHistoryTouched
theorem wp_region_bwt {P : Program} {id : Nat} {Q : Exit → Act → World → Prop} {a : Act} {w : World} {l : List Oper} (n : Nat) (hm : P.follows .mixedOrders = true) (hB : tailB l.toArray n = true)
    (h : wpQuiet P l.toArray (fun w' => ∃ x : BW w, w' = x.1) (fun a' => ∀ w', (∃ x : BW w, w' = x.1) → wpList P l.toArray Q (l.drop n) a' w') (l.take n) a) : (Code.region id l.toArray true).wp P Q a w :=
  wp_region_tail (C := fun w' => ∃ x : BW w, w' = x.1) n hm hB ⟨⟨{ w with drawn := w.drawn + 1 }, ⟨rfl, rfl, rfl, Nat.le_refl _, fun _ _ => rfl⟩⟩, rfl⟩ h
noncomputable def errI (p : Prop) : Int := @ite Int p (Classical.propDecidable p) 0 29
theorem errI_yes {p : Prop} (h : p) : errI p = 0 := @if_pos p (Classical.propDecidable p) h Int 0 29
theorem errI_no {p : Prop} (h : ¬ p) : errI p = 29 := @if_neg p (Classical.propDecidable p) h Int 0 29
theorem errI_congr {p q : Prop} (h : p ↔ q) : errI p = errI q := by rw [propext h]
def KidsOk (l : List S76) (n : S76) : Prop := ∀ j : Nat, j < n.f5.length → ∃ p : Nat, p < l.length ∧ (rd_T76 l p).f0 = rd n.f5 j ∧ (rd_T76 l p).f2 = n.f0
def kidsTo (l : List S76) (i : Nat) : List Int := (l.take i).flatMap (·.f5)
def cntL (l : List S76) (K : List Int) : List Int := (List.range l.length).map fun p : Nat => (K.count (rd_T76 l p).f0 : Int)
def DeepOk (l : List S76) : Nat → S76 → Prop
  | 0, _ => False
  | k + 1, n => n.f2 = 0 ∨ ∃ p : Nat, p < l.length ∧ (rd_T76 l p).f0 = n.f2 ∧ DeepOk l k (rd_T76 l p)
structure HangsP (l : List S76) : Prop where
  kids : ∀ i : Nat, i < l.length → KidsOk l (rd_T76 l i)
  met0 : ∀ i : Nat, i < l.length → (rd_T76 l i).f2 = 0 → (kidsTo l l.length).count (rd_T76 l i).f0 = 0
  met1 : ∀ i : Nat, i < l.length → (rd_T76 l i).f2 ≠ 0 → (kidsTo l l.length).count (rd_T76 l i).f0 = 1
  deep : ∀ i : Nat, i < l.length → DeepOk l 64 (rd_T76 l i)
def MetR (W : World) (g : Nat) (C : List Int) : Prop := W.heap[g]? = some (.cells (nums .i64 C).toArray 3 (0, 0))
theorem MetR.cell {W : World} {g : Nat} {C : List Int} (h : MetR W g C) (p : Nat) (hp : p < C.length) : W.cell? ⟨g, p, none⟩ = some (.int .i64 (C.getD p 0)) := by
  rw [blk_cell h p]
  simp [nums, List.getD_eq_getElem?_getD, List.getElem?_eq_getElem hp]
theorem MetR.set {W : World} {g : Nat} {C : List Int} (h : MetR W g C) (p : Nat) (u : Int) : MetR (W.setCell ⟨g, p, none⟩ (.int .i64 u)) g (C.set p u) :=
  blk_put h p _ (by simp [nums, List.map_set])
theorem MetR.below {W W' : World} {g : Nat} {C : List Int} (h : MetR W g C) (hb : Below W.heap.size W W') : MetR W' g C := blk_below h hb
theorem made_nums (m : Nat) : madeCells #[Value.int .i64 0] m = (nums .i64 (List.replicate m 0)).toArray := by
  apply Array.ext
  · simp [madeCells, nums]
  · intro i h1 h2
    simp [madeCells, nums, Nat.mod_one]
theorem cntL_len (l : List S76) (K : List Int) : (cntL l K).length = l.length := by simp [cntL]
theorem cntL_get (l : List S76) (K : List Int) (p : Nat) (hp : p < l.length) : (cntL l K).getD p 0 = (K.count (rd_T76 l p).f0 : Int) := by
  simp [cntL, List.getD_eq_getElem?_getD, hp]
theorem cntL_nil (l : List S76) : cntL l [] = List.replicate l.length 0 := by
  apply List.ext_getElem
  · simp [cntL]
  · intro i h1 h2; simp [cntL]
theorem cntL_snoc {l : List S76} (hs : IdsUp l) (K : List Int) (q : Nat) (hq : q < l.length) : cntL l (K ++ [(rd_T76 l q).f0]) = (cntL l K).set q ((cntL l K).getD q 0 + 1) := by
  apply List.ext_getElem
  · simp [cntL]
  · intro i h1 h2
    have hi : i < l.length := by simpa [cntL] using h1
    rw [List.getElem_set]
    by_cases e : q = i
    · subst e
      simp [cntL, List.count_append, List.getD_eq_getElem?_getD, hq]
    · rw [if_neg e]
      have hne : (rd_T76 l q).f0 ≠ (rd_T76 l i).f0 := by
        rcases Nat.lt_or_ge q i with h | h
        · have := hs.up q i h hi; omega
        · have := hs.up i q (by omega) hq; omega
      simp [cntL, List.count_append, hne]
theorem kidsTo_succ (l : List S76) (i : Nat) (h : i < l.length) : kidsTo l (i + 1) = kidsTo l i ++ (rd_T76 l i).f5 := by
  unfold kidsTo
  rw [List.take_succ_eq_append_getElem h, List.flatMap_append]
  simp [rd_T76, List.getD_eq_getElem?_getD, List.getElem?_eq_getElem h]
theorem count_le_len (K : List Int) (x : Int) : K.count x ≤ K.length := List.count_le_length
theorem kidsTo_len (l : List S76) (h : ∀ i : Nat, i < l.length → (rd_T76 l i).f5.length ≤ 4096) : ∀ i : Nat, i ≤ l.length → (kidsTo l i).length ≤ i * 4096
  | 0, _ => by simp [kidsTo]
  | i + 1, hi => by
    rw [kidsTo_succ l i (by omega), List.length_append]
    have h1 := kidsTo_len l h i (by omega)
    have h2 := h i (by omega)
    omega
theorem kid_at {w : World} {A : Option Addr} {n : Nat} {xs : List Int} (h : Kd.C (Kd.int .i64) w A n xs) (i : Nat) (h1 : i < n) : ∃ ad, A = some ad ∧ w.cell? (ad.add i) = some (.int .i64 (rd xs i)) := by
  obtain ⟨ad, c, e, _, hK, hc⟩ := Kd.C_get h 0 i (by omega) (by omega)
  have hc0 : c = [.int .i64 (rd xs i)] := hK
  have := hc 0 _ (by rw [hc0]; rfl)
  exact ⟨ad, e, by simpa [Kd.int, Kd.scalar] using this⟩
theorem same_id {l : List S76} (hs : IdsUp l) {p q : Nat} (hp : p < l.length) (hq : q < l.length) (h : (rd_T76 l p).f0 = (rd_T76 l q).f0) : p = q := by
  rcases Nat.lt_trichotomy p q with h1 | h1 | h1
  · have := hs.up p q h1 hq; omega
  · exact h1
  · have := hs.up q p h1 hp; omega
theorem parent_there {l : List S76} (hs : IdsUp l) (hk : ∀ a : Nat, a < l.length → KidsOk l (rd_T76 l a)) {a : Nat} (ha : a < l.length) (h1 : (kidsTo l l.length).count (rd_T76 l a).f0 = 1) : ∃ b : Nat, b < l.length ∧ (rd_T76 l b).f0 = (rd_T76 l a).f2 := by
  have hm : (rd_T76 l a).f0 ∈ kidsTo l l.length := List.count_pos_iff.1 (by omega)
  unfold kidsTo at hm
  rw [List.take_length, List.mem_flatMap] at hm
  obtain ⟨n, hn, hx⟩ := hm
  obtain ⟨b, hb, rfl⟩ := List.getElem_of_mem hn
  obtain ⟨j, hj, hx⟩ := List.getElem_of_mem hx
  have e : rd_T76 l b = l[b] := by simp [rd_T76, List.getD_eq_getElem?_getD, List.getElem?_eq_getElem hb]
  obtain ⟨p, hp, h2, h3⟩ := hk b hb j (by rw [e]; exact hj)
  rw [e] at h2 h3
  have h4 : rd l[b].f5 j = (rd_T76 l a).f0 := by simp [rd, List.getD_eq_getElem?_getD, List.getElem?_eq_getElem hj, hx]
  have h5 := same_id hs hp ha (h2.trans h4)
  subst h5
  exact ⟨b, hb, by rw [e]; exact h3.symm⟩
theorem deep_step {l : List S76} (hs : IdsUp l) {k a b : Nat} (hp : (rd_T76 l a).f2 ≠ 0) (hb : b < l.length) (h : (rd_T76 l b).f0 = (rd_T76 l a).f2) : DeepOk l (k + 1) (rd_T76 l a) ↔ DeepOk l k (rd_T76 l b) := by
  constructor
  · rintro (h1 | ⟨p, h1, h2, h3⟩)
    · exact absurd h1 hp
    · have := same_id hs h1 hb (h2.trans h.symm)
      subst this
      exact h3
  · exact fun h3 => .inr ⟨b, hb, h, h3⟩
theorem place_at (nx : Int) (A : Option Addr) (l : List S76) (cp : Nat) (id : Int) (w : World) (hr : Kd.C k76 w A l.length l) (hs : IdsUp l) (hl : l.length ≤ 4096) (hid : I64 id) (q : Nat) (hq : q < l.length) (he : (rd_T76 l q).f0 = id) :
    Calls Try.prog 54 #[.agg #[.int .i64 nx, .slice A l.length cp], .int .i64 id] w fun e w' => e = .returned (.int .i64 (q : Int)) ∧ Below w.heap.size w w' :=
  (place_any nx A l cp id w hr hs hl hid).mono fun e w' ⟨p, h1, h2, h3⟩ => by
    have : p = q := by
      rcases Int.lt_or_le p 0 with h | h
      · exact absurd he ((h2.1 h).2 q hq)
      · obtain ⟨q', e1, h4, h5⟩ := h2.2 h
        have := same_id hs h4 hq (h5.trans he.symm)
        omega
    subst this
    exact ⟨h1, h3⟩
structure HW (w : World) (nx : Int) (A : Option Addr) (l : List S76) (c : Nat) (C : List Int) (W : World) : Prop where
  b : Below w.heap.size w W
  k1 : W.heap[w.heap.size]? = some (.cells #[.int .i64 nx, .slice A l.length c] 27 (0, 0))
  m : MetR W (w.heap.size + 1) C
theorem HW.below {w : World} {nx : Int} {A : Option Addr} {l : List S76} {c : Nat} {C : List Int} {W W' : World} (h : HW w nx A l c C W) (hb : Below W.heap.size W W') : HW w nx A l c C W' :=
  ⟨below_step h.b hb, blk_below h.k1 hb, h.m.below hb⟩
theorem HW.put {w : World} {nx : Int} {A : Option Addr} {l : List S76} {c : Nat} {C : List Int} {W : World} (h : HW w nx A l c C W) (p : Nat) (u : Int) : HW w nx A l c (C.set p u) (W.setCell ⟨w.heap.size + 1, p, none⟩ (.int .i64 u)) :=
  ⟨h.b.setCell (by show w.heap.size ≤ w.heap.size + 1; omega) _, blk_far h.k1 (by show w.heap.size ≠ w.heap.size + 1; omega) _, h.m.set p u⟩
theorem HW.far {w : World} {nx : Int} {A : Option Addr} {l : List S76} {c : Nat} {C : List Int} {W : World} (h : HW w nx A l c C W) {g : Nat} (hg : w.heap.size + 1 < g) (i : Nat) (u : Value) : HW w nx A l c C (W.setCell ⟨g, i, none⟩ u) :=
  ⟨h.b.setCell (by show w.heap.size ≤ g; omega) _, blk_far h.k1 (by show w.heap.size ≠ g; omega) _, blk_far h.m (by show w.heap.size + 1 ≠ g; omega) _⟩
def putNode (W : World) (g : Nat) (cs : List Value) : World := (((((((W.setCell ⟨g, 0, none⟩ (cs.getD 0 undef)).setCell ⟨g, 1, none⟩ (cs.getD 1 undef)).setCell ⟨g, 2, none⟩ (cs.getD 2 undef)).setCell ⟨g, 3, none⟩ (cs.getD 3 undef)).setCell ⟨g, 4, none⟩ (cs.getD 4 undef)).setCell ⟨g, 5, none⟩ (cs.getD 5 undef)).setCell ⟨g, 6, none⟩ (cs.getD 6 undef))
theorem putNode_blk {W : World} {g : Nat} {t : TypeId} (a0 a1 a2 a3 a4 a5 a6 b0 b1 b2 b3 b4 b5 b6 : Value) (h : W.heap[g]? = some (.cells #[a0, a1, a2, a3, a4, a5, a6] t (0, 0))) : (putNode W g [b0, b1, b2, b3, b4, b5, b6]).heap[g]? = some (.cells #[b0, b1, b2, b3, b4, b5, b6] t (0, 0)) := by
  have h0 := blk_put (cs' := #[b0, a1, a2, a3, a4, a5, a6]) h 0 b0 rfl
  have h1 := blk_put (cs' := #[b0, b1, a2, a3, a4, a5, a6]) h0 1 b1 rfl
  have h2 := blk_put (cs' := #[b0, b1, b2, a3, a4, a5, a6]) h1 2 b2 rfl
  have h3 := blk_put (cs' := #[b0, b1, b2, b3, a4, a5, a6]) h2 3 b3 rfl
  have h4 := blk_put (cs' := #[b0, b1, b2, b3, b4, a5, a6]) h3 4 b4 rfl
  have h5 := blk_put (cs' := #[b0, b1, b2, b3, b4, b5, a6]) h4 5 b5 rfl
  exact blk_put (cs' := #[b0, b1, b2, b3, b4, b5, b6]) h5 6 b6 rfl
theorem HW.putNode {w : World} {nx : Int} {A : Option Addr} {l : List S76} {c : Nat} {C : List Int} {W : World} (h : HW w nx A l c C W) {g : Nat} (hg : w.heap.size + 1 < g) (cs : List Value) : HW w nx A l c C (putNode W g cs) :=
  ((((((h.far hg 0 _).far hg 1 _).far hg 2 _).far hg 3 _).far hg 4 _).far hg 5 _).far hg 6 _
theorem hw_start (w : World) (nx : Int) (A : Option Addr) (l : List S76) (c : Nat) : HW w nx A l c (cntL l []) ((w.alloc (.cells #[.int .i64 nx, .slice A l.length c] 27)).alloc (.cells (madeCells #[.int .i64 0] l.length) 3)) := by
  have h := boxed2 w (.cells #[.int .i64 nx, .slice A l.length c] 27) (.cells (madeCells #[.int .i64 0] l.length) 3)
  refine ⟨h.b, h.k1, ?_⟩
  have := h.k2
  rw [made_nums, ← cntL_nil] at this
  rw [made_nums, ← cntL_nil]
  exact this
set_option maxRecDepth 100000 in
set_option maxHeartbeats 8000000 in
theorem hangs_any (nx : Int) (l : List S76) (A : Option Addr) (c : Nat) (w : World) (hr : Kd.C k76 w A l.length l) (hs : IdsUp l) (hl : l.length ≤ 4096) (hk : ∀ i : Nat, i < l.length → (rd_T76 l i).f5.length ≤ 4096)
    (hi : ∀ i : Nat, i < l.length → I64 (rd_T76 l i).f2 ∧ ∀ j : Nat, j < (rd_T76 l i).f5.length → I64 (rd (rd_T76 l i).f5 j)) :
    Calls Try.prog 47 #[.agg #[.int .i64 nx, .slice A l.length c]] w fun e w' => e = .returned (.int .i64 (errI (HangsP l))) ∧ Below w.heap.size w w' := by
  have HR : Hid (Kd.C k76 w A l.length l) := hr
  have HS : Hid (IdsUp l) := hs
  have HK : Hid (∀ i : Nat, i < l.length → (rd_T76 l i).f5.length ≤ 4096) := hk
  have HI : Hid (∀ i : Nat, i < l.length → I64 (rd_T76 l i).f2 ∧ ∀ j : Nat, j < (rd_T76 l i).f5.length → I64 (rd (rd_T76 l i).f5 j)) := hi
  have HW0 : Hid (HW w nx A l c (cntL l []) ((w.alloc (.cells #[.int .i64 nx, .slice A l.length c] 27)).alloc (.cells (madeCells #[.int .i64 0] l.length) 3))) := hw_start w nx A l c
  generalize htv : errI (HangsP l) = r
  have HT : Hid (errI (HangsP l) = r) := htv
  have NO : Hid (¬ HangsP l → r = 29) := fun h => by rw [← HT.out]; exact errI_no h
  clear hr hs hk hi htv
  have hmk := print_make (P := Try.prog) 54 3 .i64 8 Try.underlying54 info3 (by decide) l.length (by omega)
  go_enter Try.func47, Try.ntmps47
  go_wp2_with fail
  go_step3
  go_wp2_with fail
  generalize (World.alloc (World.alloc _ _) _) = W at HW0 ⊢
  clear hmk
  go_loopw [21] (fun i W => ∃ k : Nat, k ≤ l.length ∧ i = .int .i64 k ∧ Hid (HW w nx A l c (cntL l (kidsTo l k)) W) ∧ Hid (∀ a : Nat, a < k → KidsOk l (rd_T76 l a))) (fun i _ => l.length - (intOf i).toNat)
  case atStart => exact ⟨0, Nat.zero_le _, rfl, by simpa [kidsTo] using HW0, fun a ha => by omega⟩
  case round =>
    obtain ⟨k, hk, rfl, HB, HF⟩ := hrel
    by_cases hlt : k < l.length
    · obtain ⟨ad, A4, c4, A5, c5, A6, c6, rfl, x0, x1, x2, x3, x4, x5, x6, hn⟩ := node_atN HR.out k (by omega)
      have HN : Hid (NodeR w (rd_T76 l k) A4 c4 A5 c5 A6 c6) := hn
      clear hn
      replace x0 := pw_cell_below HB.out.b x0
      replace x1 := pw_cell_below HB.out.b x1
      replace x2 := pw_cell_below HB.out.b x2
      replace x3 := pw_cell_below HB.out.b x3
      replace x4 := pw_cell_below HB.out.b x4
      replace x5 := pw_cell_below HB.out.b x5
      replace x6 := pw_cell_below HB.out.b x6
      have hgt : w.heap.size + 1 < wr.heap.size := blk_lt HB.out.m
      generalize hn0 : rd_T76 l k = n at *
      have Hn : Hid (rd_T76 l k = n) := hn0
      clear hn0
      have KX : Hid ((wr.alloc (.cells (nodeCs n A4 c4 A5 c5 A6 c6) 76)).heap[wr.heap.size]? = some (.cells (nodeCs n A4 c4 A5 c5 A6 c6) 76 (0, 0))) := blk_new wr _
      have HB1 : Hid (HW w nx (some ad) l c (cntL l (kidsTo l k)) (wr.alloc (.cells (nodeCs n A4 c4 A5 c5 A6 c6) 76))) := HB.out.below (below_alloc (Below.refl _ _) _)
      go_wp2_with fail
      generalize (wr.alloc (.cells (nodeCs n A4 c4 A5 c5 A6 c6) 76)) = W1 at KX HB1 ⊢
      generalize hg : wr.heap.size = g at KX hgt ⊢
      clear x0 x1 x2 x3 x4 x5 x6 hg HB
      obtain ⟨wo, rfl⟩ : ∃ wo : World, wo = wr := ⟨_, rfl⟩
      go_loopw [28] (fun i W => ∃ j : Nat, j ≤ n.f5.length ∧ i = .int .i64 j ∧ Hid (HW w nx (some ad) l c (cntL l (kidsTo l k ++ n.f5.take j)) W) ∧ Hid (W.heap[g]? = some (.cells (nodeCs n A4 c4 A5 c5 A6 c6) 76 (0, 0))) ∧ Hid (∀ a : Nat, a < j → ∃ p : Nat, p < l.length ∧ (rd_T76 l p).f0 = rd n.f5 a ∧ (rd_T76 l p).f2 = n.f0)) (fun i _ => n.f5.length - (intOf i).toNat)
      case atStart => exact ⟨0, Nat.zero_le _, rfl, by simpa using HB1, KX, fun a ha => by omega⟩
      case round =>
        obtain ⟨j, hj, rfl, HB2, KX2, HG⟩ := hrel
        have hmx := HN.out.r5.2.1
        by_cases hjt : j < n.f5.length
        · obtain ⟨bd, rfl, y0⟩ := kid_at HN.out.r5 j hjt
          replace y0 := pw_cell_below HB2.out.b y0
          have HKI : Hid (I64 (rd n.f5 j)) := by have := (HI.out k hlt).2 j (by rw [Hn.out]; exact hjt); rw [Hn.out] at this; exact this
          have NOK : Hid ((¬ ∃ p : Nat, p < l.length ∧ (rd_T76 l p).f0 = rd n.f5 j ∧ (rd_T76 l p).f2 = n.f0) → r = 29) := fun h => NO.out (fun hp => h (by
            have := hp.kids k hlt j (by rw [Hn.out]; exact hjt)
            rw [Hn.out] at this; exact this))
          have SN : Hid (n.f5.take (j + 1) = n.f5.take j ++ [rd n.f5 j]) := by
            have : n.f5.take (j + 1) = n.f5.take j ++ [n.f5[j]] := List.take_succ_eq_append_getElem hjt
            exact this.trans (by simp [rd, List.getD_eq_getElem?_getD, List.getElem?_eq_getElem hjt])
          have HG1 : Hid ((∃ p : Nat, p < l.length ∧ (rd_T76 l p).f0 = rd n.f5 j ∧ (rd_T76 l p).f2 = n.f0) → ∀ a : Nat, a < j + 1 → ∃ p : Nat, p < l.length ∧ (rd_T76 l p).f0 = rd n.f5 a ∧ (rd_T76 l p).f2 = n.f0) := fun h a ha => by
            rcases Nat.lt_or_ge a j with h2 | h2
            · exact HG.out a h2
            · obtain rfl : a = j := by omega
              exact h
          clear HG
          generalize rd n.f5 j = kid at *
          have q0 : wr.cell? ⟨w.heap.size, 0, none⟩ = some (.int .i64 nx) := blk_cell HB2.out.k1 0
          have q1 : wr.cell? ⟨w.heap.size, 1, none⟩ = some (.slice (some ad) l.length c) := blk_cell HB2.out.k1 1
          go_wp2_with fail
          clear q0 q1 y0
          refine (place_any nx (some ad) l c kid wr (Kd.C_below HR.out HB2.out.b) HS.out hl HKI.out).mono ?_
          rintro e w1 ⟨p, rfl, hp, hb⟩
          have HB3 : Hid (HW w nx (some ad) l c (cntL l (kidsTo l k ++ n.f5.take j)) w1) := HB2.out.below hb
          have KX3 : Hid (w1.heap[g]? = some (.cells (nodeCs n A4 c4 (some bd) c5 A6 c6) 76 (0, 0))) := blk_below KX2.out hb
          clear HB2 KX2 hb
          by_cases hp0 : p < 0
          · have hr : Hid (r = 29) := NOK.out (fun ⟨q, h1, h2, _⟩ => (hp.1 hp0).2 q h1 h2)
            have hp1 : decide (p < 0) = true := by simp [hp0]
            clear hp NOK
            go_wp2_with fail
            refine wp_region_bw (by kernel_rfl) (by kernel_rfl) ?_
            repeat (go_big_quiet_step (fail))
            refine wpQuiet_nil ?_
            rintro _ ⟨x, rfl⟩
            have HB4 : Hid (Below w.heap.size w x.1) := below_step HB3.out.b x.2
            go_wp2_with fail
            simp only [Exit.noGoto_ret]
            go_ret
            exact ⟨by rw [hr.out]; rfl, HB4.out⟩
          · obtain ⟨q, rfl, hq, hid⟩ := hp.2 (by omega)
            clear hp hp0
            have hp1 : decide ((q : Int) < 0) = false := by simp
            obtain ⟨qd, B4, d4, B5, d5, B6, d6, hqd, z0, z1, z2, z3, z4, z5, z6, _⟩ := node_atN (Kd.C_below HR.out HB3.out.b) q hq
            cases hqd
            have HID : Hid ((rd_T76 l q).f0 = kid) := hid
            clear z0 z1 z3 z4 z5 z6 hid
            have s1 : ∀ x : BW w1, x.1.cell? ⟨(ad.add (q * 7)).block, (ad.add (q * 7)).off + 2, none⟩ = some (.int .i64 (rd_T76 l q).f2) := bw_cell z2
            have s2 : ∀ x : BW w1, x.1.cell? ⟨w.heap.size, 1, none⟩ = some (.slice (some ad) l.length c) := bw_cell (blk_cell HB3.out.k1 1)
            have s3 : ∀ x : BW w1, x.1.cell? ⟨g, 0, none⟩ = some (.int .i64 n.f0) := bw_cell (blk_cell KX3.out 0)
            by_cases hpar : (rd_T76 l q).f2 = n.f0
            case neg =>
              have hr : Hid (r = 29) := NOK.out (fun ⟨q', h1, h2, h3⟩ => by
                have e : q' = q := by
                  rcases Nat.lt_trichotomy q' q with h | h | h
                  · have := HS.out.up q' q h hq; rw [h2, ← HID.out] at this; omega
                  · exact h
                  · have := HS.out.up q q' h h1; rw [h2, ← HID.out] at this; omega
                rw [e] at h3; exact hpar h3)
              have hpar' : ((rd_T76 l q).f2 != n.f0) = true := by simp [hpar]
              clear NOK hpar
              go_wp2_with fail
              refine wp_region_bw (by kernel_rfl) (by kernel_rfl) ?_
              repeat (go_big_quiet_step (fail))
              refine wpQuiet_nil ?_
              rintro _ ⟨x, rfl⟩
              have HB4 : Hid (Below w.heap.size w x.1) := below_step HB3.out.b x.2
              clear s1 s2 s3
              go_wp2_with fail
              simp only [Exit.noGoto_ret]
              go_ret
              exact ⟨by rw [hr.out]; rfl, HB4.out⟩
            have hpar' : ((rd_T76 l q).f2 != n.f0) = false := by simp [hpar]
            have HPAR : Hid ((rd_T76 l q).f2 = n.f0) := hpar
            clear hpar
            go_wp2_with fail
            refine wp_region_bw (by kernel_rfl) (by kernel_rfl) ?_
            repeat (go_big_quiet_step (fail))
            refine wpQuiet_nil ?_
            rintro _ ⟨x, rfl⟩
            have HB4 : Hid (HW w nx (some ad) l c (cntL l (kidsTo l k ++ n.f5.take j)) x.1) := HB3.out.below x.2
            have KX4 : Hid (x.1.heap[g]? = some (.cells (nodeCs n A4 c4 (some bd) c5 A6 c6) 76 (0, 0))) := blk_below KX3.out x.2
            clear s1 s2 s3 z2
            obtain ⟨w4, hw4⟩ := x
            dsimp only at HB4 KX4 ⊢
            clear hw4 HB3 KX3
            have hcl : q < (cntL l (kidsTo l k ++ n.f5.take j)).length := by rw [cntL_len]; exact hq
            have hv : 0 ≤ (cntL l (kidsTo l k ++ n.f5.take j)).getD q 0 ∧ (cntL l (kidsTo l k ++ n.f5.take j)).getD q 0 ≤ 33554432 := by
              rw [cntL_get l _ q hq]
              have h1 := count_le_len (kidsTo l k ++ n.f5.take j) (rd_T76 l q).f0
              rw [List.length_append] at h1
              have h2 := kidsTo_len l HK.out k (by omega)
              have h3 : (n.f5.take j).length ≤ 4096 := by
                have := HK.out k hlt
                rw [Hn.out] at this
                rw [List.length_take]; omega
              omega
            have CS : Hid ((cntL l (kidsTo l k ++ n.f5.take j)).set q ((cntL l (kidsTo l k ++ n.f5.take j)).getD q 0 + 1) = cntL l (kidsTo l k ++ n.f5.take (j + 1))) := by
              have := cntL_snoc HS.out (kidsTo l k ++ n.f5.take j) q hq
              rw [HID.out, List.append_assoc, ← SN.out] at this
              exact this.symm
            have HM : Hid (HW w nx (some ad) l c (cntL l (kidsTo l k ++ n.f5.take (j + 1))) (w4.setCell ⟨w.heap.size + 1, q, none⟩ (.int .i64 ((cntL l (kidsTo l k ++ n.f5.take j)).getD q 0 + 1)))) := by
              have := HB4.out.put q ((cntL l (kidsTo l k ++ n.f5.take j)).getD q 0 + 1)
              rw [CS.out] at this
              exact this
            have t1 : w4.cell? ⟨w.heap.size + 1, q, none⟩ = some (.int .i64 ((cntL l (kidsTo l k ++ n.f5.take j)).getD q 0)) := HB4.out.m.cell q hcl
            have t2 : w4.frozen? ⟨w.heap.size + 1, q, none⟩ = false := blk_frozen HB4.out.m q
            have HOK : Hid (∀ a : Nat, a < j + 1 → ∃ p : Nat, p < l.length ∧ (rd_T76 l p).f0 = rd n.f5 a ∧ (rd_T76 l p).f2 = n.f0) := HG1.out ⟨q, hq, HID.out, HPAR.out⟩
            clear CS HB4 hcl HG1 NOK
            generalize (cntL l (kidsTo l k ++ n.f5.take j)).getD q 0 = v at hv t1 HM
            obtain ⟨hv0, hv1⟩ := hv
            have KX5 : Hid ((w4.setCell ⟨w.heap.size + 1, q, none⟩ (.int .i64 (v + 1))).heap[g]? = some (.cells (nodeCs n A4 c4 (some bd) c5 A6 c6) 76 (0, 0))) := blk_far KX4.out (by show g ≠ w.heap.size + 1; omega) _
            clear KX4
            go_wp2_with fail
            go_roundw
            case rel => exact ⟨j + 1, by omega, by go_num, HM, KX5, HOK⟩
            case measure => simp [intOf]; omega
        · have HKO : Hid (∀ a : Nat, a < k + 1 → KidsOk l (rd_T76 l a)) := fun a ha => by
            rcases Nat.lt_or_ge a k with h2 | h2
            · exact HF.out a h2
            · obtain rfl : a = k := by omega
              rw [Hn.out]
              exact fun b hb => HG.out b (by omega)
          have HB5 : Hid (HW w nx (some ad) l c (cntL l (kidsTo l (k + 1))) wr) := by
            have := HB2.out
            rw [List.take_of_length_le (by omega), ← Hn.out, ← kidsTo_succ l k hlt] at this
            exact this
          clear HB2 KX2 HG
          go_wp2_with fail
          go_roundw
          case rel => exact ⟨k + 1, by omega, by go_num, HB5, HKO⟩
          case measure => simp [intOf]; omega
    · have hkl : k = l.length := by omega
      have HKIDS : Hid (∀ a : Nat, a < l.length → KidsOk l (rd_T76 l a)) := fun a ha => HF.out a (by omega)
      have HB1 : Hid (HW w nx A l c (cntL l (kidsTo l l.length)) wr) := by have := HB.out; rw [hkl] at this; exact this
      have q1 : wr.cell? ⟨w.heap.size, 1, none⟩ = some (.slice A l.length c) := blk_cell HB1.out.k1 1
      clear HF HB hkl hk
      go_wp2_with fail
      clear q1
      obtain ⟨wo, rfl⟩ : ∃ wo : World, wo = wr := ⟨_, rfl⟩
      go_loopw [59] (fun i W => ∃ k : Nat, k ≤ l.length ∧ i = .int .i64 k ∧ Hid (HW w nx A l c (cntL l (kidsTo l l.length)) W) ∧ Hid (∀ a : Nat, a < k → ((rd_T76 l a).f2 = 0 → (kidsTo l l.length).count (rd_T76 l a).f0 = 0) ∧ ((rd_T76 l a).f2 ≠ 0 → (kidsTo l l.length).count (rd_T76 l a).f0 = 1))) (fun i _ => l.length - (intOf i).toNat)
      case atStart => exact ⟨0, Nat.zero_le _, rfl, HB1, fun a ha => by omega⟩
      case round =>
        obtain ⟨i, hi, rfl, HB, HF⟩ := hrel
        by_cases hlt2 : i < l.length
        · obtain ⟨ad, A4, c4, A5, c5, A6, c6, rfl, x0, x1, x2, x3, x4, x5, x6, _⟩ := node_atN (Kd.C_below HR.out HB.out.b) i (by omega)
          have hcl : i < (cntL l (kidsTo l l.length)).length := by rw [cntL_len]; exact hlt2
          have HV : Hid ((cntL l (kidsTo l l.length)).getD i 0 = ((kidsTo l l.length).count (rd_T76 l i).f0 : Int)) := cntL_get l _ i hlt2
          have NO0 : Hid ((rd_T76 l i).f2 = 0 → (kidsTo l l.length).count (rd_T76 l i).f0 ≠ 0 → r = 29) := fun h1 h2 => NO.out (fun hp => h2 (hp.met0 i hlt2 h1))
          have NO1 : Hid ((rd_T76 l i).f2 ≠ 0 → (kidsTo l l.length).count (rd_T76 l i).f0 ≠ 1 → r = 29) := fun h1 h2 => NO.out (fun hp => h2 (hp.met1 i hlt2 h1))
          have ST : Hid (((rd_T76 l i).f2 = 0 → (kidsTo l l.length).count (rd_T76 l i).f0 = 0) ∧ ((rd_T76 l i).f2 ≠ 0 → (kidsTo l l.length).count (rd_T76 l i).f0 = 1) → ∀ a : Nat, a < i + 1 → ((rd_T76 l a).f2 = 0 → (kidsTo l l.length).count (rd_T76 l a).f0 = 0) ∧ ((rd_T76 l a).f2 ≠ 0 → (kidsTo l l.length).count (rd_T76 l a).f0 = 1)) := fun h a ha => by
            rcases Nat.lt_or_ge a i with h2 | h2
            · exact HF.out a h2
            · obtain rfl : a = i := by omega
              exact h
          clear HF
          generalize (kidsTo l l.length).count (rd_T76 l i).f0 = cn at *
          generalize rd_T76 l i = n at *
          have HB2 : Hid (HW w nx (some ad) l c (cntL l (kidsTo l l.length)) (wr.alloc (.cells (nodeCs n A4 c4 A5 c5 A6 c6) 76))) := HB.out.below (below_alloc (Below.refl _ _) _)
          have t1 : (wr.alloc (.cells (nodeCs n A4 c4 A5 c5 A6 c6) 76)).cell? ⟨w.heap.size + 1, i, none⟩ = some (.int .i64 ((cntL l (kidsTo l l.length)).getD i 0)) := HB2.out.m.cell i hcl
          rw [HV.out] at t1
          clear HV hcl HB
          by_cases hp : n.f2 = 0
          · have hp1 : (n.f2 == 0) = true := by simp [hp]
            have hp2 : (n.f2 != 0) = false := by simp [hp]
            have HPX : Hid (n.f2 = 0) := hp
            clear hp
            by_cases hc : cn = 0
            · have hc1 : ((cn : Int) != 0) = false := by simp [hc]
              have HO := ST.out ⟨fun _ => hc, fun h => absurd HPX.out h⟩
              have HO' : Hid (∀ a : Nat, a < i + 1 → ((rd_T76 l a).f2 = 0 → (kidsTo l l.length).count (rd_T76 l a).f0 = 0) ∧ ((rd_T76 l a).f2 ≠ 0 → (kidsTo l l.length).count (rd_T76 l a).f0 = 1)) := HO
              clear HO hc NO0 NO1 ST
              go_wp2_with fail
              go_roundw
              case rel => exact ⟨i + 1, by omega, by go_num, HB2, HO'⟩
              case measure => simp [intOf]; omega
            · have hc1 : ((cn : Int) != 0) = true := by simp [hc]
              have hr : Hid (r = 29) := NO0.out HPX.out hc
              clear hc NO0 NO1 ST
              go_wp2_with fail
              simp only [Exit.noGoto_ret]
              go_ret
              exact ⟨by rw [hr.out]; rfl, HB2.out.b⟩
          · have hp1 : (n.f2 == 0) = false := by simp [hp]
            have hp2 : (n.f2 != 0) = true := by simp [hp]
            have HPX : Hid (n.f2 ≠ 0) := hp
            clear hp
            by_cases hc : cn = 1
            · have hc1 : ((cn : Int) != 1) = false := by simp [hc]
              have HO := ST.out ⟨fun h => absurd h HPX.out, fun _ => hc⟩
              have HO' : Hid (∀ a : Nat, a < i + 1 → ((rd_T76 l a).f2 = 0 → (kidsTo l l.length).count (rd_T76 l a).f0 = 0) ∧ ((rd_T76 l a).f2 ≠ 0 → (kidsTo l l.length).count (rd_T76 l a).f0 = 1)) := HO
              clear HO hc NO0 NO1 ST
              go_wp2_with fail
              go_roundw
              case rel => exact ⟨i + 1, by omega, by go_num, HB2, HO'⟩
              case measure => simp [intOf]; omega
            · have hc1 : ((cn : Int) != 1) = true := by rw [bne_iff_ne]; omega
              have hr : Hid (r = 29) := NO1.out HPX.out hc
              clear hc NO0 NO1 ST
              go_wp2_with fail
              simp only [Exit.noGoto_ret]
              go_ret
              exact ⟨by rw [hr.out]; rfl, HB2.out.b⟩
        · have HMET : Hid (∀ a : Nat, a < l.length → ((rd_T76 l a).f2 = 0 → (kidsTo l l.length).count (rd_T76 l a).f0 = 0) ∧ ((rd_T76 l a).f2 ≠ 0 → (kidsTo l l.length).count (rd_T76 l a).f0 = 1)) := fun a ha => HF.out a (by omega)
          have HB2 : Hid (HW w nx A l c (cntL l (kidsTo l l.length)) wr) := HB
          have q1 : wr.cell? ⟨w.heap.size, 1, none⟩ = some (.slice A l.length c) := blk_cell HB2.out.k1 1
          clear HF HB
          go_wp2_with fail
          go_step3
          go_wp2_with fail
          clear q1
          obtain ⟨wo, rfl⟩ : ∃ wo : World, wo = wr := ⟨_, rfl⟩
          go_loopw [90] (fun i W => ∃ k : Nat, k ≤ l.length ∧ i = .int .i64 k ∧ Hid (HW w nx A l c (cntL l (kidsTo l l.length)) W) ∧ Hid (∀ a : Nat, a < k → DeepOk l 64 (rd_T76 l a))) (fun i _ => l.length - (intOf i).toNat)
          case atStart => exact ⟨0, Nat.zero_le _, rfl, HB2, fun a ha => by omega⟩
          case round =>
            obtain ⟨i, hi, rfl, HB, HF⟩ := hrel
            by_cases hlt3 : i < l.length
            · obtain ⟨ad, A4, c4, A5, c5, A6, c6, hade, x0, x1, x2, x3, x4, x5, x6, hn⟩ := node_atN (Kd.C_below HR.out HB.out.b) i (by omega)
              subst hade
              have NOD : Hid (¬ DeepOk l 64 (rd_T76 l i) → r = 29) := fun h => NO.out (fun hp => h (hp.deep i hlt3))
              have ST : Hid (DeepOk l 64 (rd_T76 l i) → ∀ a : Nat, a < i + 1 → DeepOk l 64 (rd_T76 l a)) := fun h a ha => by
                rcases Nat.lt_or_ge a i with h2 | h2
                · exact HF.out a h2
                · obtain rfl : a = i := by omega
                  exact h
              clear HF hn
              have hgt : w.heap.size + 1 < wr.heap.size := blk_lt HB.out.m
              have HB3 : Hid (HW w nx (some ad) l c (cntL l (kidsTo l l.length)) (wr.alloc (.cells (nodeCs (rd_T76 l i) A4 c4 A5 c5 A6 c6) 76))) := HB.out.below (below_alloc (Below.refl _ _) _)
              have KX : Hid ((wr.alloc (.cells (nodeCs (rd_T76 l i) A4 c4 A5 c5 A6 c6) 76)).heap[wr.heap.size]? = some (.cells (nodeCs (rd_T76 l i) A4 c4 A5 c5 A6 c6) 76 (0, 0))) := blk_new wr _
              go_wp2_with fail
              generalize (wr.alloc (.cells (nodeCs (rd_T76 l i) A4 c4 A5 c5 A6 c6) 76)) = W1 at KX HB3 ⊢
              generalize hg : wr.heap.size = g at KX hgt ⊢
              clear x0 x1 x2 x3 x4 x5 x6 hg HB
              obtain ⟨wo, rfl⟩ : ∃ wo : World, wo = wr := ⟨_, rfl⟩
              go_loopw [13] (fun v W => ∃ d a : Nat, 1 ≤ d ∧ d ≤ 65 ∧ a < l.length ∧ v = .int .i64 d ∧ Hid (HW w nx (some ad) l c (cntL l (kidsTo l l.length)) W) ∧ Hid (DeepOk l 64 (rd_T76 l i) ↔ DeepOk l (65 - d) (rd_T76 l a)) ∧ Hid (∃ A4 c4 A5 c5 A6 c6, W.heap[g]? = some (.cells (nodeCs (rd_T76 l a) A4 c4 A5 c5 A6 c6) 76 (0, 0)))) (fun v _ => 65 - (intOf v).toNat)
              case atStart => exact ⟨1, i, Nat.le_refl _, by omega, hlt3, rfl, HB3, Iff.rfl, ⟨_, _, _, _, _, _, KX.out⟩⟩
              case round =>
                obtain ⟨d, a, hd1, hd2, ha, rfl, HB4, HD, HX⟩ := hrel
                by_cases hd : d ≤ 64
                · obtain ⟨B4, d4, B5, d5, B6, d6, kx⟩ := HX.out
                  have KX4 : Hid (wr.heap[g]? = some (.cells (nodeCs (rd_T76 l a) B4 d4 B5 d5 B6 d6) 76 (0, 0))) := kx
                  clear kx HX
                  have q2 : wr.cell? ⟨g, 2, none⟩ = some (.int .i64 (rd_T76 l a).f2) := blk_cell KX4.out 2
                  by_cases hp : (rd_T76 l a).f2 = 0
                  · have hp1 : ((rd_T76 l a).f2 == 0) = true := by simp [hp]
                    have HO : Hid (∀ a : Nat, a < i + 1 → DeepOk l 64 (rd_T76 l a)) := ST.out (HD.out.2 (by
                      rw [show 65 - d = (64 - d) + 1 by omega]; exact .inl hp))
                    clear NOD ST HD hp
                    go_wp2_with fail
                    go_roundw
                    case rel => exact ⟨i + 1, by omega, by go_num, HB4, HO⟩
                    case measure => simp [intOf]; omega
                  · have hp1 : ((rd_T76 l a).f2 == 0) = false := by simp [hp]
                    obtain ⟨b, hb, hbe⟩ := parent_there HS.out HKIDS.out ha ((HMET.out a ha).2 hp)
                    have HD2 : Hid (DeepOk l 64 (rd_T76 l i) ↔ DeepOk l (65 - (d + 1)) (rd_T76 l b)) := by
                      have := HD.out
                      rw [show 65 - d = (65 - (d + 1)) + 1 by omega, deep_step HS.out hp hb hbe] at this
                      exact this
                    have HBE : Hid ((rd_T76 l b).f0 = (rd_T76 l a).f2) := hbe
                    have HIA : Hid (I64 (rd_T76 l a).f2) := (HI.out a ha).1
                    clear hbe HD hp
                    go_wp2_with fail
                    obtain ⟨bd, E4, e4, E5, e5, E6, e6, hbd, z0, z1, z2, z3, z4, z5, z6, _⟩ := node_atN (Kd.C_below HR.out HB4.out.b) b hb
                    cases hbd
                    have s0 : ∀ x : BW wr, x.1.cell? ⟨w.heap.size, 0, none⟩ = some (.int .i64 nx) := bw_cell (blk_cell HB4.out.k1 0)
                    have s1 : ∀ x : BW wr, x.1.cell? ⟨w.heap.size, 1, none⟩ = some (.slice (some ad) l.length c) := bw_cell (blk_cell HB4.out.k1 1)
                    have s2 : ∀ x : BW wr, x.1.cell? ⟨g, 2, none⟩ = some (.int .i64 (rd_T76 l a).f2) := bw_cell (blk_cell KX4.out 2)
                    have y0 : ∀ x : BW wr, x.1.cell? (ad.add (b * 7)) = some (.int .i64 (rd_T76 l b).f0) := bw_cell z0
                    have y1 : ∀ x : BW wr, x.1.cell? ⟨(ad.add (b * 7)).block, (ad.add (b * 7)).off + 1, none⟩ = some (.string (rd_T76 l b).f1) := bw_cell z1
                    have y2 : ∀ x : BW wr, x.1.cell? ⟨(ad.add (b * 7)).block, (ad.add (b * 7)).off + 2, none⟩ = some (.int .i64 (rd_T76 l b).f2) := bw_cell z2
                    have y3 : ∀ x : BW wr, x.1.cell? ⟨(ad.add (b * 7)).block, (ad.add (b * 7)).off + 3, none⟩ = some (.string (rd_T76 l b).f3) := bw_cell z3
                    have y4 : ∀ x : BW wr, x.1.cell? ⟨(ad.add (b * 7)).block, (ad.add (b * 7)).off + 4, none⟩ = some (.slice E4 (rd_T76 l b).f4.length e4) := bw_cell z4
                    have y5 : ∀ x : BW wr, x.1.cell? ⟨(ad.add (b * 7)).block, (ad.add (b * 7)).off + 5, none⟩ = some (.slice E5 (rd_T76 l b).f5.length e5) := bw_cell z5
                    have y6 : ∀ x : BW wr, x.1.cell? ⟨(ad.add (b * 7)).block, (ad.add (b * 7)).off + 6, none⟩ = some (.slice E6 (rd_T76 l b).f6.length e6) := bw_cell z6
                    have hb0 : (0 : Int) ≤ (b : Int) := by omega
                    have hb1 : (b : Int) < (l.length : Int) := by omega
                    clear z0 z1 z2 z3 z4 z5 z6 q2
                    refine wp_region_bwt 8 (by kernel_rfl) (by kernel_rfl) ?_
                    simp only [List.take_succ_cons, List.take_zero, List.drop_succ_cons, List.drop_zero]
                    repeat (go_big_quiet_step ((go_at_call 54; exact calls_bw (place_at nx (some ad) l c _ _ (Kd.C_below HR.out (below_step HB4.out.b (Subtype.property _))) HS.out hl HIA.out b hb HBE.out))))
                    refine wpQuiet_nil ?_
                    rintro _ ⟨x, rfl⟩
                    have HB5 : Hid (HW w nx (some ad) l c (cntL l (kidsTo l l.length)) x.1) := HB4.out.below x.2
                    have KX5 : Hid (x.1.heap[g]? = some (.cells (nodeCs (rd_T76 l a) B4 d4 B5 d5 B6 d6) 76 (0, 0))) := blk_below KX4.out x.2
                    clear s0 s1 s2 y0 y1 y2 y3 y4 y5 y6 HB4 KX4
                    obtain ⟨w5, hw5⟩ := x
                    dsimp only at HB5 KX5 ⊢
                    clear hw5
                    have t0 : w5.cell? ⟨g, 0, none⟩ = some (.int .i64 (rd_T76 l a).f0) := blk_cell KX5.out 0
                    have t1 : w5.cell? ⟨g, 1, none⟩ = some (.string (rd_T76 l a).f1) := blk_cell KX5.out 1
                    have t2 : w5.cell? ⟨g, 2, none⟩ = some (.int .i64 (rd_T76 l a).f2) := blk_cell KX5.out 2
                    have t3 : w5.cell? ⟨g, 3, none⟩ = some (.string (rd_T76 l a).f3) := blk_cell KX5.out 3
                    have t4 : w5.cell? ⟨g, 4, none⟩ = some (.slice B4 (rd_T76 l a).f4.length d4) := blk_cell KX5.out 4
                    have t5 : w5.cell? ⟨g, 5, none⟩ = some (.slice B5 (rd_T76 l a).f5.length d5) := blk_cell KX5.out 5
                    have t6 : w5.cell? ⟨g, 6, none⟩ = some (.slice B6 (rd_T76 l a).f6.length d6) := blk_cell KX5.out 6
                    have ff : ∀ i, w5.frozen? ⟨g, i, none⟩ = false := blk_frozen KX5.out
                    have HB6 : Hid (HW w nx (some ad) l c (cntL l (kidsTo l l.length)) (putNode w5 g [.int .i64 (rd_T76 l b).f0, .string (rd_T76 l b).f1, .int .i64 (rd_T76 l b).f2, .string (rd_T76 l b).f3, .slice E4 (rd_T76 l b).f4.length e4, .slice E5 (rd_T76 l b).f5.length e5, .slice E6 (rd_T76 l b).f6.length e6])) := HB5.out.putNode hgt _
                    have KX6 : Hid ((putNode w5 g [.int .i64 (rd_T76 l b).f0, .string (rd_T76 l b).f1, .int .i64 (rd_T76 l b).f2, .string (rd_T76 l b).f3, .slice E4 (rd_T76 l b).f4.length e4, .slice E5 (rd_T76 l b).f5.length e5, .slice E6 (rd_T76 l b).f6.length e6]).heap[g]? = some (.cells (nodeCs (rd_T76 l b) E4 e4 E5 e5 E6 e6) 76 (0, 0))) := putNode_blk _ _ _ _ _ _ _ _ _ _ _ _ _ _ KX5.out
                    clear HB5 KX5
                    go_wp2_with fail
                    go_roundw
                    case rel => exact ⟨d + 1, b, by omega, by omega, hb, by go_num, HB6, HD2, ⟨_, _, _, _, _, _, KX6.out⟩⟩
                    case measure => simp [intOf]; omega
                · have hr : Hid (r = 29) := NOD.out (fun h => by
                    have := HD.out.1 h
                    rw [show 65 - d = 0 by omega] at this
                    exact this)
                  clear NOD ST HD HX
                  go_wp2_with fail
                  simp only [Exit.noGoto_ret]
                  go_ret
                  exact ⟨by rw [hr.out]; rfl, HB4.out.b⟩
            · have hr : Hid (r = 0) := by
                rw [← HT.out]
                exact errI_yes ⟨HKIDS.out, fun a ha => (HMET.out a ha).1, fun a ha => (HMET.out a ha).2, fun a ha => HF.out a (by omega)⟩
              clear HF HKIDS HMET
              go_wp2_with fail
              simp only [Exit.noGoto_ret]
              go_ret
              exact ⟨by rw [hr.out]; rfl, HB.out.b⟩
end Go.Proofs.Ytlopfkkegjajlaa
namespace Go.Proofs.Ytlopfkkegjajlaa
open Go.RowKit Go.Proofs.YtlopfkkegjajlaaW.PrintWords PHistoryTouched
def prevId (l : List S76) (i : Nat) : Int := if i = 0 then 0 else (rd_T76 l (i - 1 : Nat)).f0
theorem prevId_zero (l : List S76) : prevId l 0 = 0 := rfl
theorem prevId_succ (l : List S76) (k : Nat) : prevId l (k + 1) = (rd_T76 l k).f0 := by simp [prevId]
structure CheckP (nx : Int) (l : List S76) : Prop where
  lo : 1 ≤ nx
  hi : nx ≤ 1048577
  len : l.length ≤ 4096
  ids : ∀ i : Nat, i < l.length → prevId l i < (rd_T76 l i).f0 ∧ (rd_T76 l i).f0 < nx
  alone : ∀ i : Nat, i < l.length → AloneP nx l.length (rd_T76 l i)
  hangs : HangsP l
def WfL (l : List S76) : Prop := ∀ i : Nat, i < l.length → I64 (rd_T76 l i).f2 ∧ ∀ j : Nat, j < (rd_T76 l i).f5.length → I64 (rd (rd_T76 l i).f5 j)
theorem ids_up {nx : Int} {l : List S76} (hi : nx ≤ 1048577) (h : ∀ i : Nat, i < l.length → prevId l i < (rd_T76 l i).f0 ∧ (rd_T76 l i).f0 < nx) : IdsUp l := by
  have lo : ∀ i : Nat, i < l.length → 1 ≤ (rd_T76 l i).f0 := by
    intro i
    induction i with
    | zero => intro h0; have h2 := (h 0 h0).1; rw [prevId_zero] at h2; omega
    | succ i ih =>
      intro h0
      have h1 := ih (by omega)
      have h2 := (h (i + 1) h0).1
      rw [prevId_succ] at h2
      omega
  refine ⟨?_, lo, fun i hi' => by have := (h i hi').2; omega⟩
  intro i j hij
  induction j with
  | zero => omega
  | succ j ih =>
    intro hj
    have h2 := (h (j + 1) hj).1
    rw [prevId_succ] at h2
    rcases Nat.lt_or_ge i j with h3 | h3
    · have := ih h3 (by omega); omega
    · obtain rfl : i = j := by omega
      exact h2
set_option maxRecDepth 100000 in
set_option maxHeartbeats 8000000 in
theorem check_any (nx : Int) (l : List S76) (A : Option Addr) (c : Nat) (w : World) (hr : Kd.C k76 w A l.length l) (hw : WfL l) :
    Calls Try.prog 29 #[.agg #[.int .i64 nx, .slice A l.length c]] w fun e w' => e = .returned (.int .i64 (errI (CheckP nx l))) ∧ Below w.heap.size w w' := by
  have HR : Hid (Kd.C k76 w A l.length l) := hr
  have HWF : Hid (WfL l) := hw
  have hmx := hr.2.1
  have HB0 : Hid (Below w.heap.size w (w.alloc (.cells #[.int .i64 nx, .slice A l.length c] 27))) := below_alloc (Below.refl _ _) _
  have K0 : Hid ((w.alloc (.cells #[.int .i64 nx, .slice A l.length c] 27)).heap[w.heap.size]? = some (.cells #[.int .i64 nx, .slice A l.length c] 27 (0, 0))) := blk_new w _
  generalize htv : errI (CheckP nx l) = r
  have HT : Hid (errI (CheckP nx l) = r) := htv
  have NO : Hid (¬ CheckP nx l → r = 29) := fun h => by rw [← HT.out]; exact errI_no h
  clear hr hw htv
  by_cases h1 : nx < 1
  · have hr : Hid (r = 29) := NO.out (fun h => by have := h.lo; omega)
    clear NO
    go_enter Try.func29, Try.ntmps29
    go_wp2_with fail
    go_ret
    exact ⟨by rw [hr.out]; rfl, HB0.out⟩
  by_cases h2 : 1048577 < nx
  · have hr : Hid (r = 29) := NO.out (fun h => by have := h.hi; omega)
    clear NO
    go_enter Try.func29, Try.ntmps29
    go_wp2_with fail
    go_ret
    exact ⟨by rw [hr.out]; rfl, HB0.out⟩
  by_cases h3 : 4096 < l.length
  · have hr : Hid (r = 29) := NO.out (fun h => by have := h.len; omega)
    clear NO
    go_enter Try.func29, Try.ntmps29
    go_wp2_with fail
    go_ret
    exact ⟨by rw [hr.out]; rfl, HB0.out⟩
  go_enter Try.func29, Try.ntmps29
  go_wp2_with fail
  generalize (World.alloc _ _) = W at HB0 K0 ⊢
  go_loopw [3, 23] (fun v i W => ∃ k : Nat, k ≤ l.length ∧ i = .int .i64 k ∧ v = .int .i64 (prevId l k) ∧ Hid (Below w.heap.size w W) ∧ Hid (W.heap[w.heap.size]? = some (.cells #[.int .i64 nx, .slice A l.length c] 27 (0, 0))) ∧ Hid (∀ a : Nat, a < k → (prevId l a < (rd_T76 l a).f0 ∧ (rd_T76 l a).f0 < nx) ∧ AloneP nx l.length (rd_T76 l a))) (fun _ i _ => l.length - (intOf i).toNat)
  case atStart => exact ⟨0, Nat.zero_le _, rfl, rfl, HB0, K0, fun a ha => by omega⟩
  case round =>
    obtain ⟨k, hk, rfl, rfl, HB, K1, HF⟩ := hrel
    by_cases hlt : k < l.length
    · obtain ⟨ad, A4, c4, A5, c5, A6, c6, rfl, x0, x1, x2, x3, x4, x5, x6, hn⟩ := node_atN (Kd.C_below HR.out HB.out) k (by omega)
      have NOA : Hid (¬ AloneP nx l.length (rd_T76 l k) → r = 29) := fun h => NO.out (fun hp => h (hp.alone k hlt))
      have NOI : Hid (¬ (prevId l k < (rd_T76 l k).f0 ∧ (rd_T76 l k).f0 < nx) → r = 29) := fun h => NO.out (fun hp => h (hp.ids k hlt))
      have ST : Hid ((prevId l k < (rd_T76 l k).f0 ∧ (rd_T76 l k).f0 < nx) ∧ AloneP nx l.length (rd_T76 l k) → ∀ a : Nat, a < k + 1 → (prevId l a < (rd_T76 l a).f0 ∧ (rd_T76 l a).f0 < nx) ∧ AloneP nx l.length (rd_T76 l a)) := fun h a ha => by
        rcases Nat.lt_or_ge a k with h2 | h2
        · exact HF.out a h2
        · obtain rfl : a = k := by omega
          exact h
      have HP : Hid (prevId l (k + 1) = (rd_T76 l k).f0) := prevId_succ l k
      have HN : Hid (NodeR (wr.alloc (.cells (nodeCs (rd_T76 l k) A4 c4 A5 c5 A6 c6) 76)) (rd_T76 l k) A4 c4 A5 c5 A6 c6) := hn.below (below_alloc (Below.refl _ _) _)
      clear HF hn
      generalize rd_T76 l k = n at *
      generalize prevId l k = pv at *
      have HB1 : Hid (Below w.heap.size w (wr.alloc (.cells (nodeCs n A4 c4 A5 c5 A6 c6) 76))) := below_alloc HB.out _
      have K2 : Hid ((wr.alloc (.cells (nodeCs n A4 c4 A5 c5 A6 c6) 76)).heap[w.heap.size]? = some (.cells #[.int .i64 nx, .slice (some ad) l.length c] 27 (0, 0))) := blk_alloc K1.out _
      have KX : Hid ((wr.alloc (.cells (nodeCs n A4 c4 A5 c5 A6 c6) 76)).heap[wr.heap.size]? = some (.cells (nodeCs n A4 c4 A5 c5 A6 c6) 76 (0, 0))) := blk_new wr _
      have q0 : (wr.alloc (.cells (nodeCs n A4 c4 A5 c5 A6 c6) 76)).cell? ⟨w.heap.size, 0, none⟩ = some (.int .i64 nx) := blk_cell K2.out 0
      have q1 : (wr.alloc (.cells (nodeCs n A4 c4 A5 c5 A6 c6) 76)).cell? ⟨w.heap.size, 1, none⟩ = some (.slice (some ad) l.length c) := blk_cell K2.out 1
      by_cases e1 : n.f0 ≤ pv
      · have hr : Hid (r = 29) := NOI.out (fun h => by omega)
        have e1' : decide (n.f0 ≤ pv) = true := by simp [e1]
        clear NOA NOI ST
        go_wp2_with fail
        go_ret
        exact ⟨by rw [hr.out]; rfl, HB1.out⟩
      have e1' : decide (n.f0 ≤ pv) = false := by simp; omega
      by_cases e2 : nx ≤ n.f0
      · have hr : Hid (r = 29) := NOI.out (fun h => by omega)
        have e2' : decide (nx ≤ n.f0) = true := by simp [e2]
        clear NOA NOI ST
        go_wp2_with fail
        go_ret
        exact ⟨by rw [hr.out]; rfl, HB1.out⟩
      have e2' : decide (nx ≤ n.f0) = false := by simp; omega
      go_wp2_with fail
      generalize (wr.alloc (.cells (nodeCs n A4 c4 A5 c5 A6 c6) 76)) = W1 at HN HB1 K2 KX q0 q1 ⊢
      generalize wr.heap.size = g at KX ⊢
      clear x0 x1 x2 x3 x4 x5 x6 q0 q1
      refine (alone_any nx l (some ad) c n A4 A5 A6 c4 c5 c6 W1 HN.out).mono ?_
      rintro e w2 ⟨rfl, hb⟩
      have HB2 : Hid (Below w.heap.size w w2) := below_step HB1.out hb
      have K3 : Hid (w2.heap[w.heap.size]? = some (.cells #[.int .i64 nx, .slice (some ad) l.length c] 27 (0, 0))) := blk_below K2.out hb
      have y0 : w2.cell? ⟨g, 0, none⟩ = some (.int .i64 n.f0) := blk_cell (blk_below KX.out hb) 0
      clear HB1 K2 KX HN hb HB K1
      by_cases e3 : AloneP nx l.length n
      · rw [tv_yes e3]
        have HO := ST.out ⟨⟨by omega, by omega⟩, e3⟩
        have HO' : Hid (∀ a : Nat, a < k + 1 → (prevId l a < (rd_T76 l a).f0 ∧ (rd_T76 l a).f0 < nx) ∧ AloneP nx l.length (rd_T76 l a)) := HO
        clear e3 HO NOA NOI ST
        go_wp2_with fail
        go_roundw
        case rel => exact ⟨k + 1, by omega, by go_num, by rw [HP.out], HB2, K3, HO'⟩
        case measure => simp [intOf]; omega
      · have hr : Hid (r = 29) := NOA.out e3
        rw [tv_no e3]
        clear e3 NOA NOI ST
        go_wp2_with fail
        go_ret
        exact ⟨by rw [hr.out]; rfl, HB2.out⟩
    · have HI : Hid (IdsUp l) := ids_up (nx := nx) (by omega) (fun i hi => (HF.out i (by omega)).1)
      have q0 : wr.cell? ⟨w.heap.size, 0, none⟩ = some (.int .i64 nx) := blk_cell K1.out 0
      have q1 : wr.cell? ⟨w.heap.size, 1, none⟩ = some (.slice A l.length c) := blk_cell K1.out 1
      have hr : Hid (r = errI (HangsP l)) := by
        rw [← HT.out]
        exact errI_congr ⟨fun h => h.hangs, fun h => ⟨by omega, by omega, by omega, fun i hi => (HF.out i (by omega)).1, fun i hi => (HF.out i (by omega)).2, h⟩⟩
      have HKL : Hid (∀ i : Nat, i < l.length → (rd_T76 l i).f5.length ≤ 4096) := fun i hi => by
        have := ((HF.out i (by omega)).2).kids; omega
      clear HF
      go_wp2_with fail
      refine (hangs_any nx l A c wr (Kd.C_below HR.out HB.out) HI.out (by omega) HKL.out HWF.out).mono ?_
      rintro e w2 ⟨rfl, hb⟩
      have HB2 : Hid (Below w.heap.size w w2) := below_step HB.out hb
      rw [← hr.out]
      clear hb HB q0 q1
      go_wp2_with fail
      go_ret
      exact ⟨rfl, HB2.out⟩
end Go.Proofs.Ytlopfkkegjajlaa
namespace Go.Proofs.Ytlopfkkegjajlaa
open Go.RowKit Go.Proofs.YtlopfkkegjajlaaW.PrintWords PHistoryTouched
structure Wr (S : Nat → Prop) (w w' : World) : Prop where
  os : w'.os = w.os
  tape : w'.tape = w.tape
  output : w'.output = w.output
  size : w.heap.size ≤ w'.heap.size
  block : ∀ k, k < w.heap.size → ¬ S k → w'.heap[k]? = w.heap[k]?
theorem Wr.refl (S : Nat → Prop) (w : World) : Wr S w w := ⟨rfl, rfl, rfl, Nat.le_refl _, fun _ _ _ => rfl⟩
theorem Wr.of_below {S : Nat → Prop} {w w' : World} (h : Below w.heap.size w w') : Wr S w w' := ⟨h.os, h.tape, h.output, h.size, fun k hk _ => h.block k hk⟩
theorem Wr.mono {S S' : Nat → Prop} {w w' : World} (h : Wr S w w') (hs : ∀ k, k < w.heap.size → S k → S' k) : Wr S' w w' := ⟨h.os, h.tape, h.output, h.size, fun k hk hn => h.block k hk (fun hk' => hn (hs k hk hk'))⟩
theorem Wr.trans {S S2 : Nat → Prop} {w w1 w2 : World} (h : Wr S w w1) (k : Wr S2 w1 w2) (hs : ∀ i, i < w.heap.size → S2 i → S i) : Wr S w w2 :=
  ⟨k.os.trans h.os, k.tape.trans h.tape, k.output.trans h.output, Nat.le_trans h.size k.size, fun i hi hn => (k.block i (Nat.lt_of_lt_of_le hi h.size) (fun h' => hn (hs i hi h'))).trans (h.block i hi hn)⟩
theorem Wr.below {S : Nat → Prop} {w w' : World} {B : Nat} (h : Wr S w w') (hB : B ≤ w.heap.size) (hs : ∀ k, S k → B ≤ k) : Below B w w' :=
  ⟨h.os, h.tape, h.output, h.size, fun k hk => h.block k (Nat.lt_of_lt_of_le hk hB) (fun h' => by have := hs k h'; omega)⟩
theorem Wr.step {S : Nat → Prop} {w w1 w2 : World} (h : Wr S w w1) (k : Below w1.heap.size w1 w2) : Wr S w w2 := h.trans (Wr.of_below (S := S) k) (fun _ _ h => h)
theorem Wr.set {S : Nat → Prop} {w w1 : World} (h : Wr S w w1) (g i : Nat) (u : Value) (hg : S g ∨ w.heap.size ≤ g) : Wr S w (w1.setCell ⟨g, i, none⟩ u) :=
  h.trans (S2 := (· = g)) ⟨rfl, rfl, rfl, by simp, fun k _ hn => Below.heap_setCell w1 ⟨g, i, none⟩ u k hn⟩ (fun k hk e => by subst e; rcases hg with h | h; exact h; omega)
theorem Wr.kept {S : Nat → Prop} {w w' : World} (h : Wr S w w') : Kept w w' S := ⟨h.size, h.block⟩
def row7 (cur : Array Value) (j : Nat) : List Value := (cur.toList.drop (j * 7)).take 7
theorem row7_get {cur : Array Value} {j k : Nat} {cs : List Value} (h : row7 cur j = cs) (hk : k < 7) : cs[k]? = cur[j * 7 + k]? := by
  rw [← h]
  unfold row7
  rw [List.getElem?_take, if_pos hk, List.getElem?_drop]
  simp
theorem row7_ext {cur : Array Value} {j : Nat} {cs : List Value} (hl : cs.length = 7) (h : ∀ k, k < 7 → cur[j * 7 + k]? = cs[k]?) : row7 cur j = cs := by
  apply List.ext_getElem?
  intro k
  unfold row7
  rw [List.getElem?_take]
  by_cases hk : k < 7
  · rw [if_pos hk, List.getElem?_drop, ← h k hk]; simp
  · rw [if_neg hk, List.getElem?_eq_none (by omega)]
theorem row7_len {cur : Array Value} {j : Nat} (hs : j * 7 + 7 ≤ cur.size) : (row7 cur j).length = 7 := by
  unfold row7
  simp
  omega
theorem row7_far {cur : Array Value} {i j k : Nat} (u : Value) (hk : k < 7) (hij : i ≠ j) (hs : j * 7 + 7 ≤ cur.size) : row7 (cur.setIfInBounds (i * 7 + k) u) j = row7 cur j := by
  refine row7_ext (row7_len hs) (fun m hm => ?_)
  rw [row7_get rfl hm, Array.getElem?_setIfInBounds_ne (by omega)]
theorem row7_set {cur : Array Value} {i k : Nat} {cs : List Value} (u : Value) (hk : k < 7) (h : row7 cur i = cs) (hs : i * 7 + 7 ≤ cur.size) : row7 (cur.setIfInBounds (i * 7 + k) u) i = cs.set k u := by
  have hl : cs.length = 7 := by rw [← h]; exact row7_len hs
  refine row7_ext (by simpa using hl) (fun m hm => ?_)
  by_cases e : k = m
  · subst e
    rw [Array.getElem?_setIfInBounds_self_of_lt (by omega), List.getElem?_set_self (by omega)]
  · rw [Array.getElem?_setIfInBounds_ne (by omega), List.getElem?_set_ne e, row7_get h hm]
structure TwR (W : World) (B g : Nat) (l : List S76) (raws : List (List Value)) (cap i : Nat) (cur : Array Value) : Prop where
  blk : W.heap[g]? = some (.cells cur 76 (0, 0))
  size : cur.size = cap * 7
  cap : l.length ≤ cap
  done : ∀ j : Nat, j < i → k76.M W B (fun k => k ≠ g) (rd_T76 l j) (row7 cur j)
  todo : ∀ j : Nat, i ≤ j → j < l.length → row7 cur j = raws.getD j []
theorem TwR.below {W W' : World} {B g : Nat} {l : List S76} {raws : List (List Value)} {cap i : Nat} {cur : Array Value} (h : TwR W B g l raws cap i cur) (hb : Below W.heap.size W W') : TwR W' B g l raws cap i cur :=
  ⟨blk_below h.blk hb, h.size, h.cap, fun j hj => Kd.M_below (h.done j hj) hb, h.todo⟩
theorem TwR.put {W : World} {B g : Nat} {l : List S76} {raws : List (List Value)} {cap i : Nat} {cur : Array Value} (h : TwR W B g l raws cap i cur) (hi : i < l.length) {v4 v5 v6 : Value}
    {A4 A5 A6 : Value} (hraw : raws.getD i [] = [.int .i64 (rd_T76 l i).f0, .string (rd_T76 l i).f1, .int .i64 (rd_T76 l i).f2, .string (rd_T76 l i).f3, A4, A5, A6])
    (h4 : k82.R 82 W B (fun k => k ≠ g) v4 (rd_T76 l i).f4) (h5 : (Kd.int .i64).R 3 W B (fun k => k ≠ g) v5 (rd_T76 l i).f5) (h6 : k84.R 84 W B (fun k => k ≠ g) v6 (rd_T76 l i).f6) :
    ∃ cur', TwR (((W.setCell ⟨g, i * 7 + 4, none⟩ v4).setCell ⟨g, i * 7 + 5, none⟩ v5).setCell ⟨g, i * 7 + 6, none⟩ v6) B g l raws cap (i + 1) cur' := by
  have hsz := h.size
  have hcap := h.cap
  have hs : i * 7 + 7 ≤ cur.size := by rw [hsz]; omega
  have hfar : ∀ k, k ≠ g → (((W.setCell ⟨g, i * 7 + 4, none⟩ v4).setCell ⟨g, i * 7 + 5, none⟩ v5).setCell ⟨g, i * 7 + 6, none⟩ v6).heap[k]? = W.heap[k]? := fun k hk => by
    rw [Below.heap_setCell _ ⟨g, i * 7 + 6, none⟩ v6 k hk, Below.heap_setCell _ ⟨g, i * 7 + 5, none⟩ v5 k hk, Below.heap_setCell _ ⟨g, i * 7 + 4, none⟩ v4 k hk]
  refine ⟨((cur.setIfInBounds (i * 7 + 4) v4).setIfInBounds (i * 7 + 5) v5).setIfInBounds (i * 7 + 6) v6, blk_put (blk_put (blk_put h.blk _ _ rfl) _ _ rfl) _ _ rfl, by simpa using hsz, hcap, fun j hj => ?_, fun j hj hjl => ?_⟩
  · rcases Nat.lt_or_ge j i with h1 | h1
    · rw [row7_far _ (by omega) (by omega) (by simp; omega), row7_far _ (by omega) (by omega) (by simp; omega), row7_far _ (by omega) (by omega) (by omega)]
      exact k76.M_move hfar (h.done j h1)
    · obtain rfl : j = i := by omega
      have e0 := h.todo j (Nat.le_refl _) hi
      rw [row7_set v6 (by omega) (row7_set v5 (by omega) (row7_set v4 (by omega) (e0.trans hraw) hs) (by simpa using hs)) (by simpa using hs)]
      exact k76_mkM _ B _ _ (Kd.R_move h4 hfar) (Kd.R_move h5 hfar) (Kd.R_move h6 hfar)
  · rw [row7_far _ (by omega) (by omega) (by simp; omega), row7_far _ (by omega) (by omega) (by simp; omega), row7_far _ (by omega) (by omega) (by omega)]
    exact h.todo j (by omega) hjl
end Go.Proofs.Ytlopfkkegjajlaa
namespace Go.Proofs.Ytlopfkkegjajlaa
open Go
section
variable {P : Program} {ops : Array Oper} {C : World → Prop}
def sinkPre (ops : Array Oper) (n : Nat) (pre : List Nat) : Bool :=
  (List.range n).all fun i => pre.contains i || (List.range (n + 1)).any fun j => decide (i < j) && Region.waitsFor .any ops j i
theorem getD_set_true' {listed : Array Bool} {i j : Nat} (h : listed.getD i true = true) : (listed.setIfInBounds j true).getD i true = true := by
  by_cases hij : j = i
  · subst hij
    by_cases hs : j < listed.size
    · simp [hs]
    · simp [hs]
  · rw [getD_set_ne true hij]; exact h
theorem tail_waits_pre {n : Nat} {listed : Array Bool} {pre : List Nat} (hpl : ∀ i ∈ pre, listed.getD i true = true) (hs : sinkPre ops n pre = true) (hc : Region.chainB .any ops n = true) (hn : n < ops.size) (inv : HeadInv .any ops n listed) :
    ∀ (d i : Nat), n - i = d → i < n → listed.getD i true = false → ∀ t, n ≤ t → t ∉ Region.ready .any ops listed := by
  intro d
  induction d using Nat.strongRecOn with
  | _ d ih =>
    intro i hd hi hun t ht hr
    obtain ⟨_, ot, hot, hall⟩ := mem_ready.1 hr
    have htlt : t < ops.size := (Array.getElem?_eq_some_iff.1 hot).1
    by_cases htn : t = n
    · subst htn
      have h1 := List.all_eq_true.1 hs i (List.mem_range.2 hi)
      rw [Bool.or_eq_true] at h1
      rcases h1 with h1 | h1
      · have := hpl i (by simpa using h1)
        rw [hun] at this; cases this
      obtain ⟨j, hj, hj2⟩ := List.any_eq_true.1 h1
      simp only [Bool.and_eq_true, decide_eq_true_eq] at hj2
      obtain ⟨oj, hoj, e, he, hb, hon⟩ := Region.waitsFor_spec hj2.2
      have hjle : j ≤ t := by have := List.mem_range.1 hj; omega
      by_cases hjt : j = t
      · subst hjt
        have : oj = ot := Option.some.inj (hoj.symm.trans hot)
        subst this
        have h2 := hall e he hb
        rw [hon, getD_both hun] at h2
        cases h2
      · cases hl : listed.getD j false with
        | true =>
          have h2 := inv.closed j oj hoj hl e he hb
          rw [hon, getD_both hun] at h2
          cases h2
        | false =>
          have hjs : j < listed.size := by rw [inv.size]; omega
          exact ih (t - j) (by omega) j rfl (by omega) (getD_in hjs hl) t (Nat.le_refl _) hr
    · have h1 := List.all_eq_true.1 hc t (List.mem_range.2 htlt)
      simp only [Bool.or_eq_true, decide_eq_true_eq] at h1
      rcases h1 with h1 | h1
      · omega
      · obtain ⟨o', ho', e, he, hb, hon⟩ := Region.waitsFor_spec h1
        have : o' = ot := Option.some.inj (ho'.symm.trans hot)
        subst this
        have h2 := hall e he hb
        rw [hon, getD_both (inv.tail (t - 1) (by omega) (by omega))] at h2
        cases h2
def isMove (o : Oper) : Bool := match o.op with | .move _ => true | _ => false
theorem isMove_spec {o : Oper} (h : isMove o = true) : ∃ x, o.op = .move x := by
  unfold isMove at h
  split at h
  · exact ⟨_, by assumption⟩
  · cases h
theorem yields_of_in {o : Oper} {v : Value} {a : Act} {w : World} (hm : isMove o = true) (hC : C w) (hy : YieldsIn P ops C o v a) : Yields P ops o v a := by
  obtain ⟨x, hx⟩ := isMove_spec hm
  rcases hy with ⟨hw, hv⟩ | ⟨hw, hv⟩
  · refine .inl ⟨hw, fun w' => ?_⟩
    have h1 := hv w hC
    unfold Oper.quietAt at h1
    rw [BigFrame.run_move x hx] at h1 ⊢
    obtain ⟨_, rfl⟩ := h1
    rfl
  · exact .inr ⟨hw, hv⟩
def preB (ops : Array Oper) : List Nat → Array Bool → Bool
  | [], _ => true
  | i :: pre, listed => (match ops[i]? with | some o => isMove o | none => false) && Region.free .any ops listed i && (Region.ready .any ops listed).contains i && preB ops pre (listed.setIfInBounds i true)
def preL : List Nat → Array Bool → Array Bool
  | [], listed => listed
  | i :: pre, listed => preL pre (listed.setIfInBounds i true)
theorem take_pre {Q' : Exit → Act → World → Prop} {fuel : Nat} {w : World} (hs : Region.noSelect ops = true) (hQ : ∀ (o : Oper) (v : Value) c a w, isMove o = true → Q' (.panic c) (a.put o.dst v) w → Q' (.panic c) a w) (hC : C w) : ∀ (pre : List Nat) (listed : Array Bool) (a : Act), preB ops pre listed = true →
    RunQ P ops C (fun a' => wpAny P .any ops Q' fuel (preL pre listed) a' w) pre a → wpAny P .any ops Q' (pre.length + fuel) listed a w
  | [], listed, a, _, h => by simpa [RunQ, preL] using h
  | i :: pre, listed, a, hB, h => by
    simp only [preB, Bool.and_eq_true] at hB
    obtain ⟨⟨⟨hm, hf⟩, hr⟩, hB⟩ := hB
    cases ho : ops[i]? with
    | none => simp [ho] at hm
    | some o =>
      simp only [ho] at hm
      have h1 : qOp P ops C i (RunQ P ops C (fun a' => wpAny P .any ops Q' fuel (preL pre (listed.setIfInBounds i true)) a' w) pre) a := h
      obtain ⟨v, hy, hK⟩ := yieldsIn_of_qOp ho h1
      have := take_pre hs hQ hC pre (listed.setIfInBounds i true) _ hB hK
      rw [List.length_cons, show pre.length + 1 + fuel = (pre.length + fuel) + 1 by omega]
      exact wpAny_take ho hs hf hr (fun c a w h => hQ o v c a w hm h) (yields_of_in hm hC hy) this
theorem runQ_append {F : Act → Prop} : ∀ (l1 l2 : List Nat) (a : Act), RunQ P ops C F (l1 ++ l2) a → RunQ P ops C (RunQ P ops C F l2) l1 a
  | [], _, _, h => h
  | _ :: l1, l2, _, h => qOp_mono (K := RunQ P ops C F (l1 ++ l2)) (fun a' h' => runQ_append l1 l2 a' h') h
theorem runQ_mono {F F' : Act → Prop} (hF : ∀ a, F a → F' a) : ∀ (l : List Nat) (a : Act), RunQ P ops C F l a → RunQ P ops C F' l a
  | [], a, h => hF a h
  | _ :: l, _, h => qOp_mono (K := RunQ P ops C F l) (fun a' h' => runQ_mono hF l a' h') h
theorem runQ_of_quiet {F : Act → Prop} : ∀ (is : List Nat) (a : Act), (∀ i ∈ is, i < ops.size) → wpQuiet P ops C F (is.filterMap (ops[·]?)) a → RunQ P ops C F is a
  | [], _, _, h => h
  | i :: is, a, hi, h => by
    have h0 : i < ops.size := hi i List.mem_cons_self
    have h1 : ops[i]? = some ops[i] := by simp [h0]
    rw [List.filterMap_cons_some h1] at h
    have h2 : qOp P ops C i (wpQuiet P ops C F (is.filterMap (ops[·]?))) a := by unfold qOp; simp only [h1]; exact h
    exact qOp_mono (fun a' h' => runQ_of_quiet is a' (fun k hk => hi k (List.mem_cons_of_mem _ hk)) h') h2
end
theorem preL_false : ∀ (pre : List Nat) (listed : Array Bool) (i : Nat), i < listed.size → ((preL pre listed).getD i true = false ↔ listed.getD i true = false ∧ i ∉ pre)
  | [], _, i, _ => by simp [preL]
  | k :: pre, listed, i, hi => by
    rw [preL, preL_false pre _ i (by simpa using hi)]
    by_cases hk : k = i
    · subst hk; simp [hi]
    · rw [getD_set_ne true hk]; simp [Ne.symm hk]
theorem preL_inv {ops : Array Oper} {n : Nat} : ∀ (pre : List Nat) (listed : Array Bool), preB ops pre listed = true → (∀ i ∈ pre, i < n) → HeadInv .any ops n listed → HeadInv .any ops n (preL pre listed)
  | [], _, _, _, h => h
  | i :: pre, listed, hB, hi, h => by
    simp only [preB, Bool.and_eq_true] at hB
    exact preL_inv pre _ hB.2 (fun k hk => hi k (List.mem_cons_of_mem _ hk)) (h.set (by simpa using hB.1.2) (hi i List.mem_cons_self))
end Go.Proofs.Ytlopfkkegjajlaa
namespace Go.Proofs.Ytlopfkkegjajlaa
open Go
section
variable {P : Program} {ops : Array Oper} {C : World → Prop}
def plainB (o : Oper) : Bool := match o.op with | .move _ => true | .assign _ => true | .load .. => true | .fieldAddr .. => true | .indexAddr .. => true | .binOp .. => true | .slice .. => true | .build .. => true | .nilCheck _ => true | _ => false
theorem value_of_bind {s : Sem Value} {w w' : World} {n : Next} (h : (do pure (Next.value (← s)) : Sem Next).run P w = .ok n w') : ∃ u, n = .value u := by
  rw [Sem.run_bind] at h
  cases hs : s.run P w with
  | ok u w1 => rw [hs] at h; simp [Result.andThen] at h; exact ⟨u, h.1.symm⟩
  | halt x w1 => rw [hs] at h; simp [Result.andThen] at h
theorem plain_value {ρ : Operand → Value} {o : Oper} {w w' : World} {n : Next} (h : plainB o = true) (hr : (execOp ρ o).run P w = .ok n w') : ∃ u, n = .value u := by
  unfold plainB at h
  split at h <;> first | cases h | skip
  all_goals (rename_i ho; unfold execOp at hr; rw [ho] at hr; dsimp only at hr)
  · simp at hr; exact ⟨_, hr.1.symm⟩
  · simp at hr; exact ⟨_, hr.1.symm⟩
  · exact value_of_bind hr
  · exact value_of_bind hr
  · exact value_of_bind hr
  · exact value_of_bind hr
  · exact value_of_bind hr
  · exact value_of_bind hr
  · rename_i x
    split at hr
    all_goals first
      | (simp [runtimePanic, goPanic, go_sem] at hr; done)
      | (simp at hr; exact ⟨_, hr.1.symm⟩)
      | skip
    split at hr
    · simp [runtimePanic, goPanic, go_sem] at hr
    · rw [Sem.run_bind] at hr
      cases hp : (program : Sem Program).run P w with
      | halt y w1 => rw [hp] at hr; simp [Result.andThen] at hr
      | ok p w1 =>
        rw [hp] at hr
        simp only [Result.andThen] at hr
        rw [Sem.run_bind] at hr
        generalize hq : Sem.run P (nilAhead _ _ _ _) w1 = q at hr
        cases q with
        | halt y w2 => simp [Result.andThen] at hr
        | ok b w2 =>
          simp only [Result.andThen] at hr
          split at hr
          · rw [Sem.run_bind] at hr
            simp [unsupported, Result.andThen] at hr
          · simp at hr; exact ⟨_, hr.1.symm⟩
    · simp at hr; exact ⟨_, hr.1.symm⟩
theorem yieldsIf_of_qOp {i : Nat} {o : Oper} {a : Act} {K : Act → Prop} (hi : ops[i]? = some o) (hpl : plainB o = true) (h : qOp P ops C i K a) : ∃ v, YieldsIf P ops C o v a ∧ K (a.put o.dst v) := by
  obtain ⟨v, hy, hK⟩ := yieldsIn_of_qOp hi h
  refine ⟨v, ?_, hK⟩
  rcases hy with ⟨hw, hv⟩ | hy
  · refine .inl ⟨hw, fun w hC => ?_⟩
    have h1 := hv w hC
    unfold Oper.quietAt at h1
    cases hr : (execOp a.eval o).run P w with
    | halt x w1 => rw [hr] at h1; exact h1.elim
    | ok n w1 =>
      obtain ⟨u, rfl⟩ := plain_value hpl hr
      rw [hr] at h1
      obtain ⟨rfl, rfl⟩ := h1
      rfl
  · exact .inr hy
theorem qOp_of_yieldsIf {i : Nat} {o : Oper} {v : Value} {a : Act} {K : Act → Prop} (hi : ops[i]? = some o) (h : YieldsIf P ops C o v a) (hK : K (a.put o.dst v)) : qOp P ops C i K a := by
  unfold qOp
  simp only [hi]
  rcases h with ⟨hw, hv⟩ | ⟨hw, rfl⟩
  · rw [if_pos hw]
    exact ⟨v, fun w hC => by unfold Oper.quietAt; rw [hv w hC]; exact ⟨rfl, rfl⟩, hK⟩
  · rw [if_neg (by rw [hw]; exact Bool.false_ne_true)]; exact hK
def plainAt (ops : Array Oper) (i : Nat) : Bool := match ops[i]? with | some o => plainB o | none => false
theorem pull {Q : Exit → Act → World → Prop} {j : Nat} {K : Act → World → Prop} {w : World} (hsel : ∀ (j : Nat) (o : Oper) cs b, ops[j]? = some o → o.op ≠ .select cs b)
    (hQ : ∀ (o : Oper) (v : Value) c a w, Q (.panic c) (a.put o.dst v) w → Q (.panic c) a w) : ∀ (rem : List Nat) (a : Act), (∀ i ∈ rem, plainAt ops i = true ∧ apartAt ops i j = true) →
    RunQ P ops C (fun a' => wpOp P ops Q j K a' w) rem a → wpOp P ops Q j (fun a' w' => RunQ P ops C (fun a'' => K a'' w') rem a') a w
  | [], _, _, h => h
  | i :: rem, a, hap, h => by
    obtain ⟨hp, ha⟩ := hap i List.mem_cons_self
    unfold plainAt at hp
    unfold apartAt at ha
    cases hi : ops[i]? with
    | none => simp [hi] at hp
    | some oi =>
      cases hj : ops[j]? with
      | none => simp [hi, hj] at ha
      | some oj =>
        simp only [hi, hj] at hp ha
        obtain ⟨v, hy, hK⟩ := yieldsIf_of_qOp hi hp h
        have h1 := pull hsel hQ rem _ (fun k hk => hap k (List.mem_cons_of_mem _ hk)) hK
        have h2 := wpOp_putIf hj ha (fun cs b => hsel i oi cs b hi) (fun cs b => hsel j oj cs b hj) (hQ oi v) hy h1
        exact wpOp_mono (fun a' w' h' => qOp_of_yieldsIf hi h'.1 h'.2) h2
theorem qOp_out {p : Prop} {i : Nat} {a : Act} {K : Act → Prop} (hK : ∀ a, K a → p) (h : qOp P ops C i K a) : p := by
  unfold qOp at h
  split at h
  · exact hK _ h
  · split at h
    · obtain ⟨v, _, h⟩ := h; exact hK _ h
    · exact hK _ h
theorem runQ_out {p : Prop} {F : Act → Prop} (hF : ∀ a, F a → p) : ∀ (l : List Nat) (a : Act), RunQ P ops C F l a → p
  | [], a, h => hF a h
  | _ :: l, _, h => qOp_out (K := RunQ P ops C F l) (fun a' h' => runQ_out hF l a' h') h
def lowB (ops : Array Oper) (n : Nat) : Bool := (List.range n).all fun j => match ops[j]? with | some o => o.after.all (fun e => !Region.binds .any e || decide (e.on < j)) | none => false
theorem ready_min {n : Nat} {listed : Array Bool} (hlow : lowB ops n = true) (inv : HeadInv .any ops n listed) (hn : n ≤ ops.size) : ∀ (i : Nat), i < n → listed.getD i true = false → Region.ready .any ops listed ≠ [] := by
  intro i
  induction i using Nat.strongRecOn with
  | _ i ih =>
    intro hi hun
    have h1 := List.all_eq_true.1 hlow i (List.mem_range.2 hi)
    cases ho : ops[i]? with
    | none => simp [ho] at h1
    | some o =>
      simp only [ho] at h1
      by_cases hall : ∀ e ∈ o.after, Region.binds .any e = true → listed.getD e.on false = true
      · intro h0
        have : i ∈ Region.ready .any ops listed := mem_ready.2 ⟨hun, o, ho, hall⟩
        rw [h0] at this; cases this
      · simp only [Classical.not_forall] at hall
        obtain ⟨e, he, hb, hne⟩ := hall
        have h2 := Array.all_eq_true_iff_forall_mem.1 h1 e he
        simp only [hb, Bool.not_true, Bool.false_or, decide_eq_true_eq] at h2
        exact ih e.on h2 (by omega) (getD_in (by rw [inv.size]; omega) (by simpa using hne))
theorem waits_not_ready {listed : Array Bool} {i j : Nat} (h : Region.waitsFor .any ops j i = true) (hun : listed.getD i true = false) : j ∉ Region.ready .any ops listed := by
  intro hj
  obtain ⟨o', ho', e, he, hb, hon⟩ := Region.waitsFor_spec h
  obtain ⟨_, o2, ho2, hall⟩ := mem_ready.1 hj
  have : o' = o2 := Option.some.inj (ho'.symm.trans ho2)
  subst this
  have h2 := hall e he hb
  rw [hon, getD_both hun] at h2
  cases h2
end
def pickOps (l : List Oper) : List Nat → List Oper
  | [] => []
  | i :: is => (l[i]?).elim (pickOps l is) (fun o => o :: pickOps l is)
theorem pickOps_eq (l : List Oper) : ∀ is : List Nat, is.filterMap (l.toArray[·]?) = pickOps l is
  | [] => rfl
  | i :: is => by
    rw [pickOps, ← pickOps_eq l is]
    cases h : l[i]? with
    | none => rw [List.filterMap_cons_none (by simpa using h)]; rfl
    | some o => rw [List.filterMap_cons_some (by simpa using h)]; rfl
end Go.Proofs.Ytlopfkkegjajlaa
namespace Go.Proofs.Ytlopfkkegjajlaa
open Go.RowKit Go.Proofs.YtlopfkkegjajlaaW.PrintWords PHistoryTouched
structure SmallL (l : List S76) : Prop where
  n : l.length ≤ 1048576
  p : ∀ j : Nat, j < l.length → (rd_T76 l j).f4.length ≤ 1048576
  k : ∀ j : Nat, j < l.length → (rd_T76 l j).f5.length ≤ 1048576
  r : ∀ j : Nat, j < l.length → (rd_T76 l j).f6.length ≤ 1048576
def TwinPost (nx : Int) (l : List S76) (w : World) (e : Ending) (w' : World) : Prop := ∃ v, e = .returned (.agg #[.int .i64 nx, v]) ∧ k76.R 76 w' w.heap.size (fun _ => True) v l ∧ Below w.heap.size w w'
def TwI (B : Nat) (A' : Option Addr) (l : List S76) (raws : List (List Value)) (cap i : Nat) (W : World) : Prop :=
  (A' = none ∧ l = [] ∧ cap = 0) ∨ ∃ g cur, A' = some ⟨g, 0, none⟩ ∧ B + 1 < g ∧ cap ≤ maxLen ∧ TwR W B g l raws cap i cur
theorem TwI.far {B : Nat} {A' : Option Addr} {l : List S76} {raws : List (List Value)} {cap i : Nat} {W : World} (h : TwI B A' l raws cap i W) {g0 : Nat} (hg0 : g0 ≤ B + 1) (hi : i = 0) (j : Nat) (u : Value) : TwI B A' l raws cap i (W.setCell ⟨g0, j, none⟩ u) := by
  subst hi
  rcases h with h | ⟨g, cur, rfl, hg, hm, ht⟩
  · exact .inl h
  · exact .inr ⟨g, cur, rfl, hg, hm, ⟨blk_far ht.blk (by show g ≠ g0; omega) _, ht.size, ht.cap, fun j hj => by omega, ht.todo⟩⟩
end Go.Proofs.Ytlopfkkegjajlaa
namespace Go.Proofs.Ytlopfkkegjajlaa
open Go.RowKit Go.Proofs.YtlopfkkegjajlaaW.PrintWords PHistoryTouched
abbrev pastO (A : Option Addr) (n c now : Nat) : Obj := .cells #[.slice A n c, .int .i64 (now : Int)] 79 (0, 0)
end Go.Proofs.Ytlopfkkegjajlaa
namespace Go.Proofs.Ytlopfkkegjajlaa
open Go.RowKit Go.Proofs.YtlopfkkegjajlaaW.PrintWords PHistoryTouched
structure PuW (w : World) (nx : Int) (pb : Nat) (A0 : Option Addr) (n c now : Nat) (A : Option Addr) (l : List S76) (cl : Nat) (W : World) : Prop where
  b : Below w.heap.size w W
  k1 : W.heap[w.heap.size]? = some (.cells #[.int .i64 nx, .slice A l.length cl] 27 (0, 0))
  p : W.heap[pb]? = some (pastO A0 n c now)
theorem PuW.below {w : World} {nx : Int} {pb : Nat} {A0 : Option Addr} {n c now : Nat} {A : Option Addr} {l : List S76} {cl : Nat} {W W' : World} (h : PuW w nx pb A0 n c now A l cl W) (hb : Below W.heap.size W W') : PuW w nx pb A0 n c now A l cl W' :=
  ⟨below_step h.b hb, blk_below h.k1 hb, blk_below h.p hb⟩
end Go.Proofs.Ytlopfkkegjajlaa
namespace Go.Proofs.Ytlopfkkegjajlaa
open Go.RowKit Go.Proofs.YtlopfkkegjajlaaW.PrintWords PHistoryTouched
def RowS (W : World) (S : Nat → Prop) (e sz : Nat) (v : Value) : Prop := ∃ A n c, v = .slice A n c ∧ n ≤ 1048576 ∧ (0 < n → ∃ b cs, A = some ⟨b, 0, none⟩ ∧ S b ∧ W.heap[b]? = some (.cells cs e (0, 0)) ∧ n * sz ≤ cs.size)
structure ShpR (W : World) (S : Nat → Prop) (g n i : Nat) (cur : Array Value) : Prop where
  s : S g
  blk : W.heap[g]? = some (.cells cur 76 (0, 0))
  size : n * 7 ≤ cur.size
  r4 : ∀ j : Nat, i ≤ j → j < n → RowS W S 82 2 (cur.getD (j * 7 + 4) undef)
  r5 : ∀ j : Nat, i ≤ j → j < n → RowS W S 3 1 (cur.getD (j * 7 + 5) undef)
  r6 : ∀ j : Nat, i ≤ j → j < n → RowS W S 84 2 (cur.getD (j * 7 + 6) undef)
theorem RowS.put {W : World} {S : Nat → Prop} {e sz : Nat} {v : Value} (h : RowS W S e sz v) {b t : Nat} {cs : Array Value} (hb : W.heap[b]? = some (.cells cs t (0, 0))) (i : Nat) (u : Value) : RowS (W.setCell ⟨b, i, none⟩ u) S e sz v := by
  obtain ⟨A, n, c, rfl, hn, h⟩ := h
  refine ⟨A, n, c, rfl, hn, fun h0 => ?_⟩
  obtain ⟨b', cs', rfl, hs, hb', hsz⟩ := h h0
  by_cases e' : b' = b
  · subst e'
    rw [hb] at hb'
    injection hb' with hb'
    injection hb' with h1 h2
    subst h1 h2
    exact ⟨b', _, rfl, hs, blk_put hb i u rfl, by simpa using hsz⟩
  · exact ⟨b', cs', rfl, hs, blk_far hb' e' _, hsz⟩
theorem ShpR.inner {W : World} {S : Nat → Prop} {g n i : Nat} {cur : Array Value} (h : ShpR W S g n i cur) {b t : Nat} {cs : Array Value} (hb : W.heap[b]? = some (.cells cs t (0, 0))) (ht : t ≠ 76) (k : Nat) (u : Value) : ShpR (W.setCell ⟨b, k, none⟩ u) S g n i cur :=
  ⟨h.s, blk_far h.blk (fun e => by
    have e' : g = b := e
    subst e'
    rw [h.blk] at hb
    injection hb with hb
    injection hb with _ h2
    exact ht h2.symm) _, h.size, fun j h1 h2 => (h.r4 j h1 h2).put hb k u, fun j h1 h2 => (h.r5 j h1 h2).put hb k u, fun j h1 h2 => (h.r6 j h1 h2).put hb k u⟩
theorem RowS.below {W W' : World} {S : Nat → Prop} {e sz : Nat} {v : Value} (h : RowS W S e sz v) (hb : Below W.heap.size W W') : RowS W' S e sz v := by
  obtain ⟨A, n, c, rfl, hn, h⟩ := h
  exact ⟨A, n, c, rfl, hn, fun h0 => by obtain ⟨b', cs', rfl, hs, hb', hsz⟩ := h h0; exact ⟨b', cs', rfl, hs, blk_below hb' hb, hsz⟩⟩
theorem ShpR.below {W W' : World} {S : Nat → Prop} {g n i : Nat} {cur : Array Value} (h : ShpR W S g n i cur) (hb : Below W.heap.size W W') : ShpR W' S g n i cur :=
  ⟨h.s, blk_below h.blk hb, h.size, fun j h1 h2 => (h.r4 j h1 h2).below hb, fun j h1 h2 => (h.r5 j h1 h2).below hb, fun j h1 h2 => (h.r6 j h1 h2).below hb⟩
theorem ShpR.outer {W : World} {S : Nat → Prop} {g n i : Nat} {cur : Array Value} (h : ShpR W S g n i cur) (k : Nat) (hk : k < 7) (u : Value) : ShpR (W.setCell ⟨g, i * 7 + k, none⟩ u) S g n (i + 1) (cur.setIfInBounds (i * 7 + k) u) := by
  have hne : ∀ j m, i + 1 ≤ j → m < 7 → (cur.setIfInBounds (i * 7 + k) u).getD (j * 7 + m) undef = cur.getD (j * 7 + m) undef := fun j m hj hm => by
    rw [Array.getD_eq_getD_getElem?, Array.getD_eq_getD_getElem?, Array.getElem?_setIfInBounds_ne (by omega)]
  refine ⟨h.s, blk_put h.blk _ _ rfl, by simpa using h.size, fun j h1 h2 => ?_, fun j h1 h2 => ?_, fun j h1 h2 => ?_⟩
  · rw [hne j 4 h1 (by omega)]; exact (h.r4 j (by omega) h2).put h.blk _ u
  · rw [hne j 5 h1 (by omega)]; exact (h.r5 j (by omega) h2).put h.blk _ u
  · rw [hne j 6 h1 (by omega)]; exact (h.r6 j (by omega) h2).put h.blk _ u
theorem ShpR.outer' {W : World} {S : Nat → Prop} {g n i : Nat} {cur : Array Value} (h : ShpR W S g n (i + 1) cur) (k : Nat) (hk : k < 7) (u : Value) : ShpR (W.setCell ⟨g, i * 7 + k, none⟩ u) S g n (i + 1) (cur.setIfInBounds (i * 7 + k) u) := by
  have hne : ∀ j m, i + 1 ≤ j → m < 7 → (cur.setIfInBounds (i * 7 + k) u).getD (j * 7 + m) undef = cur.getD (j * 7 + m) undef := fun j m hj hm => by
    rw [Array.getD_eq_getD_getElem?, Array.getD_eq_getD_getElem?, Array.getElem?_setIfInBounds_ne (by omega)]
  refine ⟨h.s, blk_put h.blk _ _ rfl, by simpa using h.size, fun j h1 h2 => ?_, fun j h1 h2 => ?_, fun j h1 h2 => ?_⟩
  · rw [hne j 4 h1 (by omega)]; exact (h.r4 j h1 h2).put h.blk _ u
  · rw [hne j 5 h1 (by omega)]; exact (h.r5 j h1 h2).put h.blk _ u
  · rw [hne j 6 h1 (by omega)]; exact (h.r6 j h1 h2).put h.blk _ u
def putAll (W : World) (g i : Nat) : World := (((((((W.setCell ⟨g, i * 7, none⟩ (.int .i64 (-1))).setCell ⟨g, i * 7 + 1, none⟩ (.string ⟨#[]⟩)).setCell ⟨g, i * 7 + 2, none⟩ (.int .i64 0)).setCell ⟨g, i * 7 + 3, none⟩ (.string ⟨#[]⟩)).setCell ⟨g, i * 7 + 4, none⟩ (.slice none 0 0)).setCell ⟨g, i * 7 + 5, none⟩ (.slice none 0 0)).setCell ⟨g, i * 7 + 6, none⟩ (.slice none 0 0))
theorem ShpR.all {W : World} {S : Nat → Prop} {g n i : Nat} {cur : Array Value} (h : ShpR W S g n i cur) : ∃ cur', ShpR (putAll W g i) S g n (i + 1) cur' :=
  ⟨_, ((((((h.outer 0 (by omega) _).outer' 1 (by omega) _).outer' 2 (by omega) _).outer' 3 (by omega) _).outer' 4 (by omega) _).outer' 5 (by omega) _).outer' 6 (by omega) _⟩
theorem Wr.all {S : Nat → Prop} {w W : World} (h : Wr S w W) {g i : Nat} (hg : S g) : Wr S w (putAll W g i) :=
  ((((((h.set g _ _ (.inl hg)).set g _ _ (.inl hg)).set g _ _ (.inl hg)).set g _ _ (.inl hg)).set g _ _ (.inl hg)).set g _ _ (.inl hg)).set g _ _ (.inl hg)
theorem blk_all {W : World} {g i b t : Nat} {cs : Array Value} (h : W.heap[b]? = some (.cells cs t (0, 0))) (hne : b ≠ g) : (putAll W g i).heap[b]? = some (.cells cs t (0, 0)) :=
  blk_far (blk_far (blk_far (blk_far (blk_far (blk_far (blk_far h hne _) hne _) hne _) hne _) hne _) hne _) hne _
def ShpM (W : World) (S : Nat → Prop) (A : Option Addr) (n : Nat) : Prop := n ≤ 1048576 ∧ (0 < n → ∃ g cur, A = some ⟨g, 0, none⟩ ∧ ShpR W S g n 0 cur)
structure SpW (S : Nat → Prop) (w : World) (nx : Int) (A : Option Addr) (n c : Nat) (W : World) : Prop where
  wr : Wr S w W
  k1 : W.heap[w.heap.size]? = some (.cells #[.int .i64 nx, .slice A n c] 27 (0, 0))
theorem SpW.put {S : Nat → Prop} {w : World} {nx : Int} {A : Option Addr} {n c : Nat} {W : World} (h : SpW S w nx A n c W) (hS : ∀ k, S k → k < w.heap.size) {b : Nat} (hb : S b) (i : Nat) (u : Value) : SpW S w nx A n c (W.setCell ⟨b, i, none⟩ u) :=
  ⟨h.wr.set b i u (.inl hb), blk_far h.k1 (by have := hS b hb; show w.heap.size ≠ b; omega) _⟩
theorem SpW.all {S : Nat → Prop} {w : World} {nx : Int} {A : Option Addr} {n c : Nat} {W : World} (h : SpW S w nx A n c W) (hS : ∀ k, S k → k < w.heap.size) {g i : Nat} (hb : S g) : SpW S w nx A n c (putAll W g i) :=
  ⟨h.wr.all hb, blk_all h.k1 (by have := hS g hb; omega)⟩
theorem ShpR.cell {W : World} {S : Nat → Prop} {g n i : Nat} {cur : Array Value} (h : ShpR W S g n i cur) (hi : i < n) (m : Nat) (hm : m < 7) : W.cell? ⟨g, i * 7 + m, none⟩ = some (cur.getD (i * 7 + m) undef) := by
  have := h.size
  rw [blk_cell h.blk, Array.getD_eq_getD_getElem?, Array.getElem?_eq_getElem (by omega)]; rfl
end Go.Proofs.Ytlopfkkegjajlaa
namespace Go.Proofs.Ytlopfkkegjajlaa
open Go.RowKit Go.Proofs.YtlopfkkegjajlaaW.PrintWords PHistoryTouched
abbrev refO (A1 : Option Addr) (n1 c1 : Nat) (nx : Int) (A2 : Option Addr) (n2 c2 : Nat) (A3 : Option Addr) (n3 c3 : Nat) : Obj := .cells #[.slice A1 n1 c1, .int .i64 nx, .slice A2 n2 c2, .slice A3 n3 c3] 49 (0, 0)
structure SmW (w : World) (S : Nat → Prop) (tb : Nat) (nx : Int) (A : Option Addr) (n c : Nat) (W : World) : Prop where
  b : Below w.heap.size w W
  k1 : W.heap[tb]? = some (.cells #[.int .i64 nx, .slice A n c] 27 (0, 0))
theorem SmW.below {w : World} {S : Nat → Prop} {tb : Nat} {nx : Int} {A : Option Addr} {n c : Nat} {W W' : World} (h : SmW w S tb nx A n c W) (hb : Below W.heap.size W W') : SmW w S tb nx A n c W' := ⟨below_step h.b hb, blk_below h.k1 hb⟩
theorem SmW.put {w : World} {S : Nat → Prop} {tb : Nat} {nx : Int} {A : Option Addr} {n c : Nat} {W : World} (h : SmW w S tb nx A n c W) (hS : ∀ k, S k → w.heap.size ≤ k ∧ k < tb) {b : Nat} (hb : S b) (i : Nat) (u : Value) : SmW w S tb nx A n c (W.setCell ⟨b, i, none⟩ u) :=
  ⟨h.b.setCell (hS b hb).1 _, blk_far h.k1 (by have := (hS b hb).2; show tb ≠ b; omega) _⟩
theorem SmW.all {w : World} {S : Nat → Prop} {tb : Nat} {nx : Int} {A : Option Addr} {n c : Nat} {W : World} (h : SmW w S tb nx A n c W) (hS : ∀ k, S k → w.heap.size ≤ k ∧ k < tb) {g i : Nat} (hb : S g) : SmW w S tb nx A n c (putAll W g i) :=
  ((((((h.put hS hb _ _).put hS hb _ _).put hS hb _ _).put hS hb _ _).put hS hb _ _).put hS hb _ _).put hS hb _ _
end Go.Proofs.Ytlopfkkegjajlaa
namespace Go.Proofs.Ytlopfkkegjajlaa
open Go.RowKit Go.Proofs.YtlopfkkegjajlaaW.PrintWords PHistoryTouched
theorem first_q (s : ByteArray) (h : 1 ≤ s.size) : ((s.extract 0 1).toList == [63]) = (bt s 0 == 63) := by
  have e : (s.extract 0 1).toList = [s[0]] := by
    rw [ByteArray.toList_eq]
    have hd : (s.extract 0 1).data = s.data.extract 0 1 := by simp
    rw [hd]
    apply List.ext_getElem
    · have : s.size = s.data.size := rfl
      simp; omega
    · intro i h1 h2
      have : i = 0 := by simp at h2; exact h2
      subst this
      simp
      rfl
  rw [e]
  have hb : bt s 0 = (s[0].toNat : Int) := by unfold bt; rw [dif_pos (by show 0 < s.size; omega)]; rfl
  rw [hb]
  by_cases hx : s[0] = 63
  · rw [hx]; rfl
  · have h1 : ([s[0]] == [(63 : UInt8)]) = false := by
      rw [beq_eq_false_iff_ne]; intro h; exact hx (by simpa using h)
    have h2 : ((s[0].toNat : Int) == 63) = false := by
      rw [beq_eq_false_iff_ne]; intro h
      apply hx
      have : s[0].toNat = 63 := by omega
      exact UInt8.toNat_inj.1 this
    rw [h1, h2]
theorem refWord_ev (s : ByteArray) : Ev (fun k => topiaryref02_Word.f k s) (wordB s) := by
  have hl0 : ∀ t : ByteArray, 1 ≤ t.size → t.size ≤ 32 → Ev (fun k => topiaryref02_Word.l0 k t 0) (bodyB t) := by
    intro t h1 h2
    have := ev_all (g := fun k i => topiaryref02_Word.l0 k t i) (rest := fun _ => some true) (r := true) t.size (fun j => okByte t j = true)
      (fun k i hi hq => by
        have hw : wrap64 ((i : Int) + 1) = ((i + 1 : Nat) : Int) := wrap_up (by omega)
        simp only [topiaryref02_Word.l0]
        rw [if_pos (by omega), if_pos (by omega), hw]
        simp only [okByte, letterB, Bool.or_eq_true, Bool.and_eq_true, decide_eq_true_eq] at hq
        have hr := bt_range t i
        generalize bt t (i : Int) = b at hq hr ⊢
        repeat' split
        all_goals first | rfl | (exfalso; omega))
      (fun k i hi hq => by
        simp only [topiaryref02_Word.l0]
        rw [if_pos (by omega), if_pos (by omega)]
        simp only [okByte, letterB, Bool.or_eq_true, Bool.and_eq_true, decide_eq_true_eq] at hq
        have hr := bt_range t i
        generalize bt t (i : Int) = b at hq hr ⊢
        repeat' split
        all_goals first | rfl | (exfalso; omega))
      (fun k => by simp only [topiaryref02_Word.l0]; rw [if_neg (by omega)]) (Ev.now true) t.size 0 (by omega)
    rw [Bool.and_true] at this
    have e : tv (∀ j, 0 ≤ j → j < t.size → okByte t j = true) = bodyB t := by
      symm
      refine tv_of ?_
      unfold bodyB
      simp only [Bool.and_eq_true, decide_eq_true_eq, List.all_eq_true, List.mem_range]
      constructor
      · rintro ⟨⟨⟨_, _⟩, h3⟩, h4⟩ j _ hj
        have h5 := h4 j hj
        unfold okByte
        unfold okTail at h5
        by_cases h0 : j = 0
        · subst h0; simp only [Bool.or_eq_true]; exact .inl h3
        · simpa [h0] using h5
      · intro h
        refine ⟨⟨⟨h1, h2⟩, ?_⟩, fun j hj => ?_⟩
        · have h5 := h 0 (Nat.le_refl _) (by omega)
          unfold okByte at h5
          simpa using h5
        · have h5 := h j (Nat.zero_le _) hj
          unfold okByte at h5
          unfold okTail
          simp only [Bool.or_eq_true, Bool.and_eq_true] at h5 ⊢
          exact h5.imp id (fun h => h.2)
    rw [e] at this
    exact this
  have hj1 : ∀ t : ByteArray, Ev (fun k => topiaryref02_Word.j1 k t) (bodyB t) := by
    intro t
    by_cases h0 : t.size < 1
    · rw [bodyB_no1 (by omega)]
      refine Ev.step (f := fun k => topiaryref02_Word.j2 k t true) (fun k => by simp only [topiaryref02_Word.j1]; rw [if_pos (by omega)]) ?_
      exact Ev.step (f := fun k => some false) (fun k => by simp [topiaryref02_Word.j2]) (Ev.now false)
    · by_cases h1 : 32 < t.size
      · rw [bodyB_no2 h1]
        refine Ev.step (f := fun k => topiaryref02_Word.j2 k t true) (fun k => by simp only [topiaryref02_Word.j1]; rw [if_neg (by omega), decide_eq_true (by omega)]) ?_
        exact Ev.step (f := fun k => some false) (fun k => by simp [topiaryref02_Word.j2]) (Ev.now false)
      · refine Ev.step (f := fun k => topiaryref02_Word.j2 k t false) (fun k => by simp only [topiaryref02_Word.j1]; rw [if_neg (by omega), decide_eq_false (by omega)]) ?_
        exact Ev.step (f := fun k => topiaryref02_Word.l0 k t 0) (fun k => by simp [topiaryref02_Word.j2]) (hl0 t (by omega) (by omega))
  unfold topiaryref02_Word.f wordB
  by_cases h0 : (s.size : Int) > 0
  · refine ev_ifp h0 (ev_ifp h0 ?_)
    have hq := first_q s (by omega)
    cases hb : (bt s 0 == 63) with
    | true =>
      rw [trimQ_pos (by omega) (hq.trans hb)]
      exact Ev.step (f := fun k => topiaryref02_Word.j1 k (s.extract 1 s.size)) (fun k => by simp only [topiaryref02_Word.j0]; rw [if_pos trivial, if_pos (by omega)]) (hj1 _)
    | false =>
      rw [trimQ_neg (hq.trans hb)]
      exact Ev.step (f := fun k => topiaryref02_Word.j1 k s) (fun k => by simp [topiaryref02_Word.j0]) (hj1 _)
  · refine ev_ifn h0 ?_
    rw [trimQ_neg' (by omega)]
    exact Ev.step (f := fun k => topiaryref02_Word.j1 k s) (fun k => by simp [topiaryref02_Word.j0]) (hj1 _)
theorem refWord_any (s : ByteArray) (w : World) : Calls Try.prog 83 #[.string s] w fun e w' => e = .returned (.bool (wordB s)) ∧ Below w.heap.size w w' := by
  obtain ⟨k, h⟩ := (refWord_ev s).rounds
  exact (topiaryref02_Word.calls k s _ w h).mono fun e w' h => ⟨h.1, h.2.below⟩
theorem ev_bindn {α β : Type} {g : Nat → Option α} {f : Nat → α → Option β} {a : α} {r : β} (h : Ev g a) (k : Ev (fun n => f n a) r) : Ev (fun n => (g n).bind fun t => f n t) r := Ev.bind h k
theorem refAt_ev (nx : Int) (l : List S76) (id : Int) (hs : IdsUp l) (hl : l.length ≤ 1048576) :
    ∃ r : Int, Ev (fun k => topiaryref02_At.f k nx l id) r ∧ ((r = -1 ∧ ∀ q : Nat, q < l.length → (rd_T76 l q).f0 ≠ id) ∨ ∃ q : Nat, r = q ∧ q < l.length ∧ (rd_T76 l q).f0 = id) := by
  have key : ∀ (d lo hi : Nat), hi - lo = d → lo ≤ hi → hi ≤ l.length → (∀ q : Nat, q < lo → (rd_T76 l q).f0 < id) → (∀ q : Nat, hi ≤ q → q < l.length → id ≤ (rd_T76 l q).f0) →
      ∃ r : Int, Ev (fun k => topiaryref02_At.l0 k id lo hi nx l) r ∧ ((r = -1 ∧ ∀ q : Nat, q < l.length → (rd_T76 l q).f0 ≠ id) ∨ ∃ q : Nat, r = q ∧ q < l.length ∧ (rd_T76 l q).f0 = id) := by
    intro d
    induction d using Nat.strongRecOn with
    | _ d ih =>
      intro lo hi hd hle hhi hL hH
      by_cases hlt : lo < hi
      · have hmid : wrap64 (Int.tdiv (wrap64 ((lo : Int) + (hi : Int))) 2) = (((lo + hi) / 2 : Nat) : Int) := by
          have h1 : wrap64 ((lo : Int) + (hi : Int)) = ((lo + hi : Nat) : Int) := by unfold wrap64; omega
          have h2 : Int.tdiv ((lo + hi : Nat) : Int) 2 = (((lo + hi) / 2 : Nat) : Int) := by
            rw [Int.tdiv_eq_ediv_of_nonneg (by omega)]; omega
          rw [h1, h2]; unfold wrap64; omega
        have hm1 : (lo + hi) / 2 < l.length := by omega
        by_cases hc : (rd_T76 l (((lo + hi) / 2 : Nat) : Int)).f0 < id
        · obtain ⟨r, hr, h⟩ := ih (hi - ((lo + hi) / 2 + 1)) (by omega) ((lo + hi) / 2 + 1) hi rfl (by omega) hhi (fun q hq => by
            rcases Nat.lt_or_ge q ((lo + hi) / 2) with h1 | h1
            · have := hs.up q ((lo + hi) / 2) h1 hm1; omega
            · obtain rfl : q = (lo + hi) / 2 := by omega
              exact hc) hH
          refine ⟨r, Ev.step (fun k => ?_) hr, h⟩
          simp only [topiaryref02_At.l0, hmid]
          rw [if_pos (by omega), if_pos (by omega), if_pos (by omega), if_pos hc, wrap_up (by omega)]
        · obtain ⟨r, hr, h⟩ := ih ((lo + hi) / 2 - lo) (by omega) lo ((lo + hi) / 2) rfl (by omega) (by omega) hL (fun q hq hq2 => by
            rcases Nat.lt_or_ge ((lo + hi) / 2) q with h1 | h1
            · have := hs.up ((lo + hi) / 2) q h1 hq2; omega
            · obtain rfl : q = (lo + hi) / 2 := by omega
              omega)
          refine ⟨r, Ev.step (fun k => ?_) hr, h⟩
          simp only [topiaryref02_At.l0, hmid]
          rw [if_pos (by omega), if_pos (by omega), if_pos (by omega), if_neg hc]
      · obtain rfl : lo = hi := by omega
        by_cases hin : lo < l.length
        · by_cases he : (rd_T76 l (lo : Int)).f0 = id
          · refine ⟨lo, Ev.step (f := fun _ => some (lo : Int)) (fun k => ?_) (Ev.now _), .inr ⟨lo, rfl, hin, he⟩⟩
            simp only [topiaryref02_At.l0]
            rw [if_neg (by omega), if_pos (by omega), if_pos (by omega), if_pos he]
          · refine ⟨-1, Ev.step (f := fun _ => some (-1 : Int)) (fun k => ?_) (Ev.now _), .inl ⟨rfl, fun q hq => ?_⟩⟩
            · simp only [topiaryref02_At.l0]
              rw [if_neg (by omega), if_pos (by omega), if_pos (by omega), if_neg he]
            · rcases Nat.lt_trichotomy q lo with h1 | h1 | h1
              · have := hL q h1; omega
              · subst h1; exact he
              · have := hs.up lo q h1 hq; have := hH lo (Nat.le_refl _) hin; omega
        · refine ⟨-1, Ev.step (f := fun _ => some (-1 : Int)) (fun k => ?_) (Ev.now _), .inl ⟨rfl, fun q hq => ?_⟩⟩
          · simp only [topiaryref02_At.l0]
            rw [if_neg (by omega), if_neg (by omega)]
          · have := hL q (by omega); omega
  exact key l.length 0 l.length rfl (Nat.zero_le _) (Nat.le_refl _) (fun q hq => by omega) (fun q h1 h2 => by omega)
def BelowD (l : List S76) : Nat → S76 → Prop
  | 0, _ => False
  | k + 1, n => (n.f2 = 0 ∧ n.f3.toList = []) ∨ (n.f2 ≠ 0 ∧ wordB n.f3 = true ∧ ∃ p : Nat, p < l.length ∧ (rd_T76 l p).f0 = n.f2 ∧ n.f0 ∈ (rd_T76 l p).f5 ∧ BelowD l k (rd_T76 l p))
theorem refBelow_ev (nx : Int) (l : List S76) (hs : IdsUp l) (hl : l.length ≤ 1048576) (hk : ∀ p : Nat, p < l.length → (rd_T76 l p).f5.length ≤ 9223372036854775807) (n : S76) :
    Ev (fun k => topiaryref02_below.f k nx l n.f0 n.f1 n.f2 n.f3 n.f4 n.f5 n.f6) (tv (BelowD l 64 n)) := by
  have key : ∀ (d : Nat) (n : S76), d ≤ 64 → Ev (fun k => topiaryref02_below.l0 k (65 - d : Nat) nx l n.f0 n.f1 n.f2 n.f3 n.f4 n.f5 n.f6) (tv (BelowD l d n)) := by
    intro d
    induction d with
    | zero =>
      intro n _
      rw [tv_no (p := BelowD l 0 n) (fun h => h)]
      exact Ev.step (f := fun _ => some false) (fun k => by simp only [topiaryref02_below.l0]; rw [if_neg (by omega)]) (Ev.now false)
    | succ d ih =>
      intro n hd
      by_cases h0 : n.f2 = 0
      · have e : tv (BelowD l (d + 1) n) = (n.f3.toList == ([] : List UInt8)) := by
          symm
          refine tv_of ?_
          rw [beq_iff_eq]
          constructor
          · intro h; exact .inl ⟨h0, h⟩
          · rintro (h | h)
            · exact h.2
            · exact absurd h0 h.1
        rw [e]
        exact Ev.step (f := fun _ => some (n.f3.toList == ([] : List UInt8))) (fun k => by simp only [topiaryref02_below.l0]; rw [if_pos (by omega), if_pos h0]) (Ev.now _)
      · obtain ⟨r, hr, hf⟩ := refAt_ev nx l n.f2 hs hl
        refine Ev.step (f := fun k => ((topiaryref02_At.f k nx l n.f2).bind fun t345 => (if t345 < 0 then (some false) else ((topiaryref02_Word.f k n.f3).bind fun t346 => (if t346 = true then (if 0 ≤ t345 then (if t345 < (l.length : Int) then ((topiaryref02_has.f k ((rd_T76 l t345).f5) n.f0).bind fun t348 => (if t348 = true then (topiaryref02_below.l0 k (wrap64 (((65 - (d + 1) : Nat) : Int) + 1)) nx l ((rd_T76 l t345).f0) ((rd_T76 l t345).f1) ((rd_T76 l t345).f2) ((rd_T76 l t345).f3) ((rd_T76 l t345).f4) ((rd_T76 l t345).f5) ((rd_T76 l t345).f6)) else (some false))) else (none)) else (none)) else (some false)))))) (fun k => by simp only [topiaryref02_below.l0]; rw [if_pos (by omega), if_neg h0]) ?_
        refine ev_bindn hr ?_
        rcases hf with ⟨rfl, hno⟩ | ⟨q, rfl, hq, he⟩
        · rw [tv_no (fun h => by
            rcases h with h | ⟨_, _, p, hp, h1, _⟩
            · exact h0 h.1
            · exact hno p hp h1)]
          exact ev_ifp (by omega) (Ev.now false)
        · refine ev_ifn (by omega) ?_
          refine ev_bindn (refWord_ev n.f3) ?_
          have huniq : ∀ p : Nat, p < l.length → (rd_T76 l p).f0 = n.f2 → p = q := fun p hp h => same_id hs hp hq (h.trans he.symm)
          cases hw : wordB n.f3 with
          | false =>
            rw [tv_no (fun h => by
              rcases h with h | ⟨_, h, _⟩
              · exact h0 h.1
              · rw [hw] at h; cases h)]
            exact ev_ifn (by simp) (Ev.now false)
          | true =>
            refine ev_ifp rfl (ev_ifp (by omega) (ev_ifp (by omega) ?_))
            refine ev_bindn (has_ev _ _ (hk q hq)) ?_
            by_cases hin : n.f0 ∈ (rd_T76 l q).f5
            · rw [tv_yes hin]
              refine ev_ifp rfl ?_
              have e : tv (BelowD l (d + 1) n) = tv (BelowD l d (rd_T76 l q)) := tv_congr (by
                constructor
                · rintro (h | ⟨_, _, p, hp, h1, _, h2⟩)
                  · exact absurd h.1 h0
                  · rw [huniq p hp h1] at h2; exact h2
                · exact fun h => .inr ⟨h0, hw, q, hq, he, hin, h⟩)
              rw [e]
              have hwr : wrap64 (((65 - (d + 1) : Nat) : Int) + 1) = ((65 - d : Nat) : Int) := by unfold wrap64; omega
              rw [hwr]
              exact ih (rd_T76 l q) (by omega)
            · rw [tv_no hin]
              rw [tv_no (fun h => by
                rcases h with h | ⟨_, _, p, hp, h1, h2, _⟩
                · exact h0 h.1
                · rw [huniq p hp h1] at h2; exact hin h2)]
              exact ev_ifn (by simp) (Ev.now false)
  exact key 64 n (Nat.le_refl _)
theorem heap82 : Kd.Heap k82 := by unfold k82; exact Kd.heap_iso _ (Kd.heap_pair Kd.heap_string Kd.heap_string)
theorem heap84 : Kd.Heap k84 := by unfold k84; exact Kd.heap_iso _ (Kd.heap_pair Kd.heap_string (Kd.heap_int _))
theorem heap76 : Kd.Heap k76 := by
  unfold k76
  exact Kd.heap_iso _ (Kd.heap_pair (Kd.heap_int _) (Kd.heap_pair Kd.heap_string (Kd.heap_pair (Kd.heap_int _) (Kd.heap_pair Kd.heap_string (Kd.heap_pair (Kd.heap_slice _ heap82) (Kd.heap_pair (Kd.heap_slice _ (Kd.heap_int _)) (Kd.heap_slice _ heap84)))))))
theorem refBelow_any (nx : Int) (l : List S76) (A : Option Addr) (c : Nat) (n : S76) (A4 A5 A6 : Option Addr) (c4 c5 c6 : Nat) (w : World) (hr : Kd.C k76 w A l.length l) (hc : l.length ≤ c) (hn : NodeR w n A4 c4 A5 c5 A6 c6) (hs : IdsUp l) (hl : l.length ≤ 1048576)
    (hk : ∀ p : Nat, p < l.length → (rd_T76 l p).f5.length ≤ 9223372036854775807) :
    Calls Try.prog 69 #[.agg #[.int .i64 nx, .slice A l.length c], nodeV n A4 c4 A5 c5 A6 c6] w fun e w' => e = .returned (.bool (tv (BelowD l 64 n))) ∧ Below w.heap.size w w' := by
  obtain ⟨k, h⟩ := (refBelow_ev nx l hs hl hk n).rounds
  exact topiaryref02_below.calls k nx (fun k => k < w.heap.size) A c l n.f0 n.f1 n.f2 n.f3 (fun k => k < w.heap.size) A4 c4 n.f4 (fun k => k < w.heap.size) A5 c5 n.f5 (fun k => k < w.heap.size) A6 c6 n.f6 _ w
    (Kd.V_mk hc (Kd.C_F heap76 hr)) (Kd.V_mk hn.l4 (Kd.C_F heap82 hn.r4)) (Kd.V_mk hn.l5 (Kd.C_F (Kd.heap_int _) hn.r5)) (Kd.V_mk hn.l6 (Kd.C_F heap84 hn.r6)) h
end Go.Proofs.Ytlopfkkegjajlaa
namespace Go.Proofs.Ytlopfkkegjajlaa
open Go.RowKit Go.Proofs.YtlopfkkegjajlaaW.PrintWords PHistoryTouched
theorem hidm {p : Prop} (h : p) : Hid p := h
structure PlainP (nx : Int) (l : List S76) (n : S76) : Prop where
  word : wordB n.f1 = true
  kids : n.f5.length ≤ l.length
  props : ∀ k, k < n.f4.length → PropOk n.f4 k
  refs : ∀ k, k < n.f6.length → RefOk nx n.f6 k
  own : KidsOk l n
  once : ∀ i j : Nat, i < j → j < n.f5.length → rd n.f5 i ≠ rd n.f5 j
def metC (l : List S76) (K : List Int) : List Bool := (List.range l.length).map fun p : Nat => decide ((rd_T76 l p).f0 ∈ K)
def bools (C : List Bool) : Array Value := (C.map Value.bool).toArray
theorem made_bools (m : Nat) : madeCells #[Value.bool false] m = bools (List.replicate m false) := by
  apply Array.ext
  · simp [madeCells, bools]
  · intro i h1 h2
    simp [madeCells, bools, Nat.mod_one]
theorem metC_nil (l : List S76) : metC l [] = List.replicate l.length false := by
  apply List.ext_getElem
  · simp [metC]
  · intro i h1 h2; simp [metC]
theorem metC_snoc {l : List S76} (hs : IdsUp l) (K : List Int) (q : Nat) (hq : q < l.length) (x : Int) (hx : (rd_T76 l q).f0 = x) : metC l (K ++ [x]) = (metC l K).set q true := by
  apply List.ext_getElem
  · simp [metC]
  · intro i h1 h2
    have hi : i < l.length := by simpa [metC] using h1
    rw [List.getElem_set]
    by_cases e : q = i
    · subst e; simp [metC, hx]
    · rw [if_neg e]
      have hne : (rd_T76 l i).f0 ≠ x := fun h => e (same_id hs hq hi (hx.trans h.symm))
      simp [metC, hne]
theorem metC_cell {W : World} {g : Nat} {l : List S76} {K : List Int} (h : W.heap[g]? = some (.cells (bools (metC l K)) 4 (0, 0))) (q : Nat) (hq : q < l.length) : W.cell? ⟨g, q, none⟩ = some (.bool (decide ((rd_T76 l q).f0 ∈ K))) := by
  rw [blk_cell h q]
  simp [bools, metC, hq]
theorem metC_set {W : World} {g : Nat} {l : List S76} {K : List Int} (hs : IdsUp l) (h : W.heap[g]? = some (.cells (bools (metC l K)) 4 (0, 0))) (q : Nat) (hq : q < l.length) (x : Int) (hx : (rd_T76 l q).f0 = x) :
    (W.setCell ⟨g, q, none⟩ (.bool true)).heap[g]? = some (.cells (bools (metC l (K ++ [x]))) 4 (0, 0)) :=
  blk_put h q _ (by rw [metC_snoc hs K q hq x hx]; simp [bools, List.map_set])
set_option maxRecDepth 100000 in
set_option maxHeartbeats 40000000 in
theorem plain_any (nx : Int) (l : List S76) (A : Option Addr) (c : Nat) (n : S76) (A4 A5 A6 : Option Addr) (c4 c5 c6 : Nat) (w : World) (hr : Kd.C k76 w A l.length l) (hc : l.length ≤ c) (hn : NodeR w n A4 c4 A5 c5 A6 c6) (hs : IdsUp l) (hl : l.length ≤ 4096) :
    Calls Try.prog 68 #[.agg #[.int .i64 nx, .slice A l.length c], nodeV n A4 c4 A5 c5 A6 c6] w fun e w' => e = .returned (.bool (tv (PlainP nx l n))) ∧ Below w.heap.size w w' := by
  have HN : Hid (NodeR w n A4 c4 A5 c5 A6 c6) := hn
  have HR : Hid (Kd.C k76 w A l.length l) := hr
  have HS : Hid (IdsUp l) := hs
  have HC : Hid (l.length ≤ c) := hc
  have hm4 := hn.r4.2.1
  have hm5 := hn.r5.2.1
  have hm6 := hn.r6.2.1
  clear hn hr hs hc
  have HW2 : Hid (Boxed2 w (.cells #[.int .i64 nx, .slice A l.length c] 27) (.cells (nodeCs n A4 c4 A5 c5 A6 c6) 76) ((w.alloc (.cells #[.int .i64 nx, .slice A l.length c] 27)).alloc (.cells (nodeCs n A4 c4 A5 c5 A6 c6) 76))) := boxed2 w _ _
  generalize htv : tv (PlainP nx l n) = r
  have HT : Hid (tv (PlainP nx l n) = r) := htv
  clear htv
  have q0 : ((w.alloc (.cells #[.int .i64 nx, .slice A l.length c] 27)).alloc (.cells (nodeCs n A4 c4 A5 c5 A6 c6) 76)).cell? ⟨w.heap.size + 1, 1, none⟩ = some (.string n.f1) := blk_cell HW2.out.k2 1
  have q1 : ((w.alloc (.cells #[.int .i64 nx, .slice A l.length c] 27)).alloc (.cells (nodeCs n A4 c4 A5 c5 A6 c6) 76)).cell? ⟨w.heap.size + 1, 5, none⟩ = some (.slice A5 n.f5.length c5) := blk_cell HW2.out.k2 5
  go_enter Try.func68, Try.ntmps68
  go_wp2_with fail
  refine (refWord_any n.f1 _).mono ?_
  rintro e w1 ⟨rfl, hb⟩
  have HB1 : Hid (Boxed2 w (.cells #[.int .i64 nx, .slice A l.length c] 27) (.cells (nodeCs n A4 c4 A5 c5 A6 c6) 76) w1) := HW2.out.below hb
  clear q0 q1 hb HW2
  have t1 : w1.cell? ⟨w.heap.size + 1, 5, none⟩ = some (.slice A5 n.f5.length c5) := blk_cell HB1.out.k2 5
  have t2 : w1.cell? ⟨w.heap.size, 1, none⟩ = some (.slice A l.length c) := blk_cell HB1.out.k1 1
  cases hw : wordB n.f1 with
  | false =>
    have hr : Hid (r = false) := by rw [← HT.out]; exact tv_no (fun h => by have := h.word; rw [hw] at this; cases this)
    have HB4 := HB1
    go_wp2_with fail
    go_ret
    exact ⟨by rw [hr.out]; rfl, HB4.out.b⟩
  | true =>
    by_cases hkl : n.f5.length ≤ l.length
    case neg =>
      have hr : Hid (r = false) := by rw [← HT.out]; exact tv_no (fun h => hkl h.kids)
      have hd : decide ((l.length : Int) < (n.f5.length : Int)) = true := by simp; omega
      have hd' : decide (l.length < n.f5.length) = true := by simp; omega
      have HB4 := HB1
      clear hkl
      go_wp2_with fail
      go_ret
      exact ⟨by rw [hr.out]; rfl, HB4.out.b⟩
    have hd : decide ((l.length : Int) < (n.f5.length : Int)) = false := by simp; omega
    have hd' : decide (l.length < n.f5.length) = false := by simp; omega
    go_wp2_with fail
    clear t1 t2
    go_loopw [5] (fun i W => ∃ k : Nat, k ≤ n.f4.length ∧ i = .int .i64 k ∧ Hid (Boxed2 w (.cells #[.int .i64 nx, .slice A l.length c] 27) (.cells (nodeCs n A4 c4 A5 c5 A6 c6) 76) W) ∧ Hid (∀ j, j < k → PropOk n.f4 j)) (fun i _ => n.f4.length - (intOf i).toNat)
    case atStart => exact ⟨0, Nat.zero_le _, rfl, HB1, fun j hj => by omega⟩
    case round =>
      clear HB1
      obtain ⟨k, hk, rfl, HB, HF⟩ := hrel
      have t0 : wr.cell? ⟨w.heap.size + 1, 4, none⟩ = some (.slice A4 n.f4.length c4) := blk_cell HB.out.k2 4
      by_cases hlt : k < n.f4.length
      · have BAD : Hid (¬ PropOk n.f4 k → r = false) := fun h => by rw [← HT.out]; exact tv_no (fun hp => h (hp.props k hlt))
        have STEP : Hid (PropOk n.f4 k → ∀ j, j < k + 1 → PropOk n.f4 j) := fun h j hj => by
          rcases Nat.lt_or_ge j k with h2 | h2
          · exact HF.out j h2
          · obtain rfl : j = k := by omega
            exact h
        clear HF
        obtain ⟨ad, hade, x0, x1⟩ := at_T82 (Kd.C_below HN.out.r4 HB.out.b) k (by omega) (by omega)
        simp only [Int.toNat_natCast] at x0 x1
        have Y : Hid (0 < k → wr.cell? (ad.add ((k - 1) * 2)) = some (.string (rd_T82 n.f4 (k - 1 : Nat)).f0)) := fun h => by
          obtain ⟨ad', e', y0, _⟩ := at_T82 (Kd.C_below HN.out.r4 HB.out.b) (k - 1 : Nat) (by omega) (by omega)
          rw [hade] at e'
          cases e'
          exact y0
        have OKI : Hid (∀ (_ : wordB (rd_T82 n.f4 k).f0 = true) (_ : (rd_T82 n.f4 k).f1.size ≤ 4096) (_ : 0 < k → lessB (rd_T82 n.f4 (k - 1 : Nat)).f0 (rd_T82 n.f4 k).f0 = true), PropOk n.f4 k) := fun a b d => ⟨a, b, d⟩
        have OKE : Hid (PropOk n.f4 k → wordB (rd_T82 n.f4 k).f0 = true ∧ ((rd_T82 n.f4 k).f1.size ≤ 4096) ∧ (0 < k → lessB (rd_T82 n.f4 (k - 1 : Nat)).f0 (rd_T82 n.f4 k).f0 = true)) := fun h => ⟨h.word, h.size, h.up⟩
        have hA : A4 = some ad := hade
        subst hA
        clear hade
        generalize rd_T82 n.f4 k = p at *
        have hk0 : (0 : Int) ≤ (k : Int) := by omega
        have hk1 : (k : Int) < (n.f4.length : Int) := by omega
        have s0 : ∀ x : BW wr, x.1.cell? ⟨w.heap.size + 1, 4, none⟩ = some (.slice (some ad) n.f4.length c4) := bw_cell (blk_cell HB.out.k2 4)
        have s1 : ∀ x : BW wr, x.1.cell? (ad.add (k * 2)) = some (.string p.f0) := bw_cell x0
        have s2 : ∀ x : BW wr, x.1.cell? ⟨(ad.add (k * 2)).block, (ad.add (k * 2)).off + 1, none⟩ = some (.string p.f1) := bw_cell x1
        have s4 : ∀ x : BW wr, x.1.cell? ⟨w.heap.size, 0, none⟩ = some (.int .i64 nx) := bw_cell (blk_cell HB.out.k1 0)
        clear x0 x1
        go_wp2_with fail
        clear t0
        cases hw : wordB p.f0 with
        | false =>
          have hr : Hid (r = false) := BAD.out (fun h => by have := (OKE.out h).1; rw [hw] at this; cases this)
          clear BAD OKE OKI STEP Y
          refine wp_region_bw (by kernel_rfl) (by kernel_rfl) ?_
          repeat (go_big_quiet_step ((go_at_call 83; exact calls_bw (refWord_any _ _))))
          refine wpQuiet_nil ?_
          rintro _ ⟨x, rfl⟩
          have HB4 := hidm (HB.out.below x.2)
          clear HB s0 s1 s2 s4
          obtain ⟨w4, hw4⟩ := x
          dsimp only at HB4 ⊢
          clear hw4
          go_wp2_with fail
          go_ret
          exact ⟨by rw [hr.out]; rfl, HB4.out.b⟩
        | true =>
          by_cases hv : p.f1.size ≤ 4096
          case neg =>
            have hr : Hid (r = false) := BAD.out (fun h => hv (OKE.out h).2.1)
            clear BAD OKE OKI STEP Y
            have hv1 : decide (4096 < p.f1.size) = true := by simp; omega
            have hv2 : decide ((4096 : Int) < (p.f1.size : Int)) = true := by simp; omega
            clear hv
            refine wp_region_bw (by kernel_rfl) (by kernel_rfl) ?_
            repeat (go_big_quiet_step ((go_at_call 83; exact calls_bw (refWord_any _ _))))
            refine wpQuiet_nil ?_
            rintro _ ⟨x, rfl⟩
            have HB4 := hidm (HB.out.below x.2)
            clear HB s0 s1 s2 s4
            obtain ⟨w4, hw4⟩ := x
            dsimp only at HB4 ⊢
            clear hw4
            go_wp2_with fail
            go_ret
            exact ⟨by rw [hr.out]; rfl, HB4.out.b⟩
          have hv1 : decide (4096 < p.f1.size) = false := by simp; omega
          have hv2 : decide ((4096 : Int) < (p.f1.size : Int)) = false := by simp; omega
          rcases Nat.eq_zero_or_pos k with hkz | hkz
          · have HO : Hid (PropOk n.f4 k) := OKI.out hw hv (fun h => by omega)
            have hk2 : decide ((0 : Int) < (k : Int)) = false := by simp; omega
            have hk3 : decide (0 < k) = false := by simp; omega
            have K0 : Hid (k = 0) := hkz
            have hk4 : k ≤ 0 := by omega
            clear BAD OKE OKI Y hkz hv
            refine wp_region_bw (by kernel_rfl) (by kernel_rfl) ?_
            repeat (go_big_quiet_step ((go_at_call 83; exact calls_bw (refWord_any _ _))))
            refine wpQuiet_nil ?_
            rintro _ ⟨x, rfl⟩
            have HB4 := hidm (HB.out.below x.2)
            clear HB s0 s1 s2 s4
            obtain ⟨w4, hw4⟩ := x
            dsimp only at HB4 ⊢
            clear hw4
            go_wp2_with fail
            go_roundw
            case rel => exact ⟨k + 1, by omega, by go_num, HB4, STEP.out HO.out⟩
            case measure => simp [intOf]; omega
          · obtain ⟨j, hj⟩ : ∃ j, j = k - 1 := ⟨_, rfl⟩
            have HQ : Hid (wr.cell? (ad.add (j * 2)) = some (.string (rd_T82 n.f4 (j : Nat)).f0)) := by rw [hj]; exact Y.out hkz
            have OKI' : Hid (lessB (rd_T82 n.f4 (j : Nat)).f0 p.f0 = true → PropOk n.f4 k) := fun h => OKI.out hw hv (fun _ => by rw [← hj]; exact h)
            have OKE' : Hid (PropOk n.f4 k → lessB (rd_T82 n.f4 (j : Nat)).f0 p.f0 = true) := fun h => by rw [hj]; exact (OKE.out h).2.2 hkz
            clear Y OKI OKE
            generalize rd_T82 n.f4 (j : Int) = q at *
            have hk2 : decide ((0 : Int) < (k : Int)) = true := by simp; omega
            have hk3 : decide (0 < k) = true := by simp; omega
            have hj0 : (0 : Int) ≤ (j : Int) := by omega
            have hj1 : (j : Int) < (n.f4.length : Int) := by omega
            have hw1 : IntKind.i64.wrap ((k : Int) - 1) = (j : Int) := by rw [show (k : Int) - 1 = (j : Int) by omega]; exact IntWalk.i64_in _ (by omega)
            have s3 : ∀ x : BW wr, x.1.cell? (ad.add (j * 2)) = some (.string q.f0) := bw_cell HQ.out
            have HJ : Hid (j = k - 1 ∧ 0 < k) := ⟨hj, hkz⟩
            clear hj hv HQ
            cases hls : lessB q.f0 p.f0 with
            | true =>
              have hls' : (!Op.bytesLess q.f0.toList p.f0.toList) = false := by have : Op.bytesLess q.f0.toList p.f0.toList = true := hls; rw [this]; rfl
              have HO : Hid (PropOk n.f4 k) := OKI'.out hls
              clear BAD OKE' OKI' hls
              refine wp_region_bw (by kernel_rfl) (by kernel_rfl) ?_
              repeat (go_big_quiet_step ((go_at_call 83; exact calls_bw (refWord_any _ _))))
              refine wpQuiet_nil ?_
              rintro _ ⟨x, rfl⟩
              have HB4 := hidm (HB.out.below x.2)
              clear HB s0 s1 s2 s4 s3
              obtain ⟨w4, hw4⟩ := x
              dsimp only at HB4 ⊢
              clear hw4
              go_wp2_with fail
              go_roundw
              case rel => exact ⟨k + 1, by omega, by go_num, HB4, STEP.out HO.out⟩
              case measure => simp [intOf]; omega
            | false =>
              have hls' : (!Op.bytesLess q.f0.toList p.f0.toList) = true := by have : Op.bytesLess q.f0.toList p.f0.toList = false := hls; rw [this]; rfl
              have hr : Hid (r = false) := BAD.out (fun h => by have := OKE'.out h; rw [hls] at this; cases this)
              clear BAD OKE' OKI' hls STEP
              refine wp_region_bw (by kernel_rfl) (by kernel_rfl) ?_
              repeat (go_big_quiet_step ((go_at_call 83; exact calls_bw (refWord_any _ _))))
              refine wpQuiet_nil ?_
              rintro _ ⟨x, rfl⟩
              have HB4 := hidm (HB.out.below x.2)
              clear HB s0 s1 s2 s4 s3
              obtain ⟨w4, hw4⟩ := x
              dsimp only at HB4 ⊢
              clear hw4
              go_wp2_with fail
              go_ret
              exact ⟨by rw [hr.out]; rfl, HB4.out.b⟩
      · have Hprops : Hid (∀ j, j < n.f4.length → PropOk n.f4 j) := fun j hj => HF.out j (by omega)
        have HB1 : Hid (Boxed2 w (.cells #[.int .i64 nx, .slice A l.length c] 27) (.cells (nodeCs n A4 c4 A5 c5 A6 c6) 76) wr) := HB.out
        clear HF HB
        go_wp2_with fail
        clear t0
        go_loopw [6] (fun i W => ∃ k : Nat, k ≤ n.f6.length ∧ i = .int .i64 k ∧ Hid (Boxed2 w (.cells #[.int .i64 nx, .slice A l.length c] 27) (.cells (nodeCs n A4 c4 A5 c5 A6 c6) 76) W) ∧ Hid (∀ j, j < k → RefOk nx n.f6 j)) (fun i _ => n.f6.length - (intOf i).toNat)
        case atStart => exact ⟨0, Nat.zero_le _, rfl, HB1, fun j hj => by omega⟩
        case round =>
          clear HB1
          obtain ⟨k, hk, rfl, HB, HF⟩ := hrel
          have t0 : wr.cell? ⟨w.heap.size + 1, 6, none⟩ = some (.slice A6 n.f6.length c6) := blk_cell HB.out.k2 6
          by_cases hlt : k < n.f6.length
          · have BAD : Hid (¬ RefOk nx n.f6 k → r = false) := fun h => by rw [← HT.out]; exact tv_no (fun hp => h (hp.refs k hlt))
            have STEP : Hid (RefOk nx n.f6 k → ∀ j, j < k + 1 → RefOk nx n.f6 j) := fun h j hj => by
              rcases Nat.lt_or_ge j k with h2 | h2
              · exact HF.out j h2
              · obtain rfl : j = k := by omega
                exact h
            clear HF
            obtain ⟨ad, hade, x0, x1⟩ := at_T84 (Kd.C_below HN.out.r6 HB.out.b) k (by omega) (by omega)
            simp only [Int.toNat_natCast] at x0 x1
            have Y : Hid (0 < k → wr.cell? (ad.add ((k - 1) * 2)) = some (.string (rd_T84 n.f6 (k - 1 : Nat)).f0)) := fun h => by
              obtain ⟨ad', e', y0, _⟩ := at_T84 (Kd.C_below HN.out.r6 HB.out.b) (k - 1 : Nat) (by omega) (by omega)
              rw [hade] at e'
              cases e'
              exact y0
            have OKI : Hid (∀ (_ : wordB (rd_T84 n.f6 k).f0 = true) (_ : 1 ≤ (rd_T84 n.f6 k).f1) (_ : (rd_T84 n.f6 k).f1 < nx) (_ : 0 < k → lessB (rd_T84 n.f6 (k - 1 : Nat)).f0 (rd_T84 n.f6 k).f0 = true), RefOk nx n.f6 k) := fun a b e d => ⟨a, b, e, d⟩
            have OKE : Hid (RefOk nx n.f6 k → wordB (rd_T84 n.f6 k).f0 = true ∧ (1 ≤ (rd_T84 n.f6 k).f1 ∧ (rd_T84 n.f6 k).f1 < nx) ∧ (0 < k → lessB (rd_T84 n.f6 (k - 1 : Nat)).f0 (rd_T84 n.f6 k).f0 = true)) := fun h => ⟨h.word, ⟨h.lo, h.hi⟩, h.up⟩
            have hA : A6 = some ad := hade
            subst hA
            clear hade
            generalize rd_T84 n.f6 k = p at *
            have hk0 : (0 : Int) ≤ (k : Int) := by omega
            have hk1 : (k : Int) < (n.f6.length : Int) := by omega
            have s0 : ∀ x : BW wr, x.1.cell? ⟨w.heap.size + 1, 6, none⟩ = some (.slice (some ad) n.f6.length c6) := bw_cell (blk_cell HB.out.k2 6)
            have s1 : ∀ x : BW wr, x.1.cell? (ad.add (k * 2)) = some (.string p.f0) := bw_cell x0
            have s2 : ∀ x : BW wr, x.1.cell? ⟨(ad.add (k * 2)).block, (ad.add (k * 2)).off + 1, none⟩ = some (.int .i64 p.f1) := bw_cell x1
            have s4 : ∀ x : BW wr, x.1.cell? ⟨w.heap.size, 0, none⟩ = some (.int .i64 nx) := bw_cell (blk_cell HB.out.k1 0)
            clear x0 x1
            go_wp2_with fail
            clear t0
            cases hw : wordB p.f0 with
            | false =>
              have hr : Hid (r = false) := BAD.out (fun h => by have := (OKE.out h).1; rw [hw] at this; cases this)
              clear BAD OKE OKI STEP Y
              refine wp_region_bw (by kernel_rfl) (by kernel_rfl) ?_
              repeat (go_big_quiet_step ((go_at_call 83; exact calls_bw (refWord_any _ _))))
              refine wpQuiet_nil ?_
              rintro _ ⟨x, rfl⟩
              have HB4 := hidm (HB.out.below x.2)
              clear HB s0 s1 s2 s4
              obtain ⟨w4, hw4⟩ := x
              dsimp only at HB4 ⊢
              clear hw4
              go_wp2_with fail
              go_ret
              exact ⟨by rw [hr.out]; rfl, HB4.out.b⟩
            | true =>
              by_cases hv : 1 ≤ p.f1
              case neg =>
                have hr : Hid (r = false) := BAD.out (fun h => hv (OKE.out h).2.1.1)
                clear BAD OKE OKI STEP Y
                have hv1 : decide (p.f1 < 1) = true := by simp; omega
                clear hv
                refine wp_region_bw (by kernel_rfl) (by kernel_rfl) ?_
                repeat (go_big_quiet_step ((go_at_call 83; exact calls_bw (refWord_any _ _))))
                refine wpQuiet_nil ?_
                rintro _ ⟨x, rfl⟩
                have HB4 := hidm (HB.out.below x.2)
                clear HB s0 s1 s2 s4
                obtain ⟨w4, hw4⟩ := x
                dsimp only at HB4 ⊢
                clear hw4
                go_wp2_with fail
                go_ret
                exact ⟨by rw [hr.out]; rfl, HB4.out.b⟩
              have hv1 : decide (p.f1 < 1) = false := by simp; omega
              by_cases hx : p.f1 < nx
              case neg =>
                have hr : Hid (r = false) := BAD.out (fun h => hx (OKE.out h).2.1.2)
                clear BAD OKE OKI STEP Y
                have hx1 : decide (nx ≤ p.f1) = true := by simp; omega
                clear hv hx
                refine wp_region_bw (by kernel_rfl) (by kernel_rfl) ?_
                repeat (go_big_quiet_step ((go_at_call 83; exact calls_bw (refWord_any _ _))))
                refine wpQuiet_nil ?_
                rintro _ ⟨x, rfl⟩
                have HB4 := hidm (HB.out.below x.2)
                clear HB s0 s1 s2 s4
                obtain ⟨w4, hw4⟩ := x
                dsimp only at HB4 ⊢
                clear hw4
                go_wp2_with fail
                go_ret
                exact ⟨by rw [hr.out]; rfl, HB4.out.b⟩
              have hx1 : decide (nx ≤ p.f1) = false := by simp; omega
              rcases Nat.eq_zero_or_pos k with hkz | hkz
              · have HO : Hid (RefOk nx n.f6 k) := OKI.out hw hv hx (fun h => by omega)
                have hk2 : decide ((0 : Int) < (k : Int)) = false := by simp; omega
                have hk3 : decide (0 < k) = false := by simp; omega
                have K0 : Hid (k = 0) := hkz
                have hk4 : k ≤ 0 := by omega
                clear BAD OKE OKI Y hkz hv hx
                refine wp_region_bw (by kernel_rfl) (by kernel_rfl) ?_
                repeat (go_big_quiet_step ((go_at_call 83; exact calls_bw (refWord_any _ _))))
                refine wpQuiet_nil ?_
                rintro _ ⟨x, rfl⟩
                have HB4 := hidm (HB.out.below x.2)
                clear HB s0 s1 s2 s4
                obtain ⟨w4, hw4⟩ := x
                dsimp only at HB4 ⊢
                clear hw4
                go_wp2_with fail
                go_roundw
                case rel => exact ⟨k + 1, by omega, by go_num, HB4, STEP.out HO.out⟩
                case measure => simp [intOf]; omega
              · obtain ⟨j, hj⟩ : ∃ j, j = k - 1 := ⟨_, rfl⟩
                have HQ : Hid (wr.cell? (ad.add (j * 2)) = some (.string (rd_T84 n.f6 (j : Nat)).f0)) := by rw [hj]; exact Y.out hkz
                have OKI' : Hid (lessB (rd_T84 n.f6 (j : Nat)).f0 p.f0 = true → RefOk nx n.f6 k) := fun h => OKI.out hw hv hx (fun _ => by rw [← hj]; exact h)
                have OKE' : Hid (RefOk nx n.f6 k → lessB (rd_T84 n.f6 (j : Nat)).f0 p.f0 = true) := fun h => by rw [hj]; exact (OKE.out h).2.2 hkz
                clear Y OKI OKE
                generalize rd_T84 n.f6 (j : Int) = q at *
                have hk2 : decide ((0 : Int) < (k : Int)) = true := by simp; omega
                have hk3 : decide (0 < k) = true := by simp; omega
                have hj0 : (0 : Int) ≤ (j : Int) := by omega
                have hj1 : (j : Int) < (n.f6.length : Int) := by omega
                have hw1 : IntKind.i64.wrap ((k : Int) - 1) = (j : Int) := by rw [show (k : Int) - 1 = (j : Int) by omega]; exact IntWalk.i64_in _ (by omega)
                have s3 : ∀ x : BW wr, x.1.cell? (ad.add (j * 2)) = some (.string q.f0) := bw_cell HQ.out
                have HJ : Hid (j = k - 1 ∧ 0 < k) := ⟨hj, hkz⟩
                clear hj hv hx HQ
                cases hls : lessB q.f0 p.f0 with
                | true =>
                  have hls' : (!Op.bytesLess q.f0.toList p.f0.toList) = false := by have : Op.bytesLess q.f0.toList p.f0.toList = true := hls; rw [this]; rfl
                  have HO : Hid (RefOk nx n.f6 k) := OKI'.out hls
                  clear BAD OKE' OKI' hls
                  refine wp_region_bw (by kernel_rfl) (by kernel_rfl) ?_
                  repeat (go_big_quiet_step ((go_at_call 83; exact calls_bw (refWord_any _ _))))
                  refine wpQuiet_nil ?_
                  rintro _ ⟨x, rfl⟩
                  have HB4 := hidm (HB.out.below x.2)
                  clear HB s0 s1 s2 s4 s3
                  obtain ⟨w4, hw4⟩ := x
                  dsimp only at HB4 ⊢
                  clear hw4
                  go_wp2_with fail
                  go_roundw
                  case rel => exact ⟨k + 1, by omega, by go_num, HB4, STEP.out HO.out⟩
                  case measure => simp [intOf]; omega
                | false =>
                  have hls' : (!Op.bytesLess q.f0.toList p.f0.toList) = true := by have : Op.bytesLess q.f0.toList p.f0.toList = false := hls; rw [this]; rfl
                  have hr : Hid (r = false) := BAD.out (fun h => by have := OKE'.out h; rw [hls] at this; cases this)
                  clear BAD OKE' OKI' hls STEP
                  refine wp_region_bw (by kernel_rfl) (by kernel_rfl) ?_
                  repeat (go_big_quiet_step ((go_at_call 83; exact calls_bw (refWord_any _ _))))
                  refine wpQuiet_nil ?_
                  rintro _ ⟨x, rfl⟩
                  have HB4 := hidm (HB.out.below x.2)
                  clear HB s0 s1 s2 s4 s3
                  obtain ⟨w4, hw4⟩ := x
                  dsimp only at HB4 ⊢
                  clear hw4
                  go_wp2_with fail
                  go_ret
                  exact ⟨by rw [hr.out]; rfl, HB4.out.b⟩
          · have Hrefs : Hid (∀ j, j < n.f6.length → RefOk nx n.f6 j) := fun j hj => HF.out j (by omega)
            have HB1 : Hid (Boxed2 w (.cells #[.int .i64 nx, .slice A l.length c] 27) (.cells (nodeCs n A4 c4 A5 c5 A6 c6) 76) wr) := HB.out
            clear HF HB
            have t2 : wr.cell? ⟨w.heap.size, 1, none⟩ = some (.slice A l.length c) := blk_cell HB1.out.k1 1
            have hmk := print_make_of (P := Try.prog) 124 4 (.bool false) 1 Try.underlying124 info4 rfl (by decide) l.length (by omega)
            have HB2 : Hid (Boxed2 w (.cells #[.int .i64 nx, .slice A l.length c] 27) (.cells (nodeCs n A4 c4 A5 c5 A6 c6) 76) (wr.alloc (.cells (madeCells #[.bool false] l.length) 4))) := HB1.out.below (below_alloc (Below.refl _ _) _)
            have HM2 : Hid ((wr.alloc (.cells (madeCells #[.bool false] l.length) 4)).heap[wr.heap.size]? = some (.cells (bools (metC l [])) 4 (0, 0))) := by
              have := blk_new wr (.cells (madeCells #[.bool false] l.length) 4)
              rw [made_bools, ← metC_nil] at this
              rw [made_bools, ← metC_nil]
              exact this
            have hgm : w.heap.size + 1 < wr.heap.size := blk_lt HB1.out.k2
            clear HB1
            go_wp2_with fail
            clear t0 t2 hmk
            generalize (wr.alloc (.cells (madeCells #[.bool false] l.length) 4)) = W2 at HB2 HM2 ⊢
            generalize wr.heap.size = gm at HM2 hgm ⊢
            obtain ⟨wo, rfl⟩ : ∃ wo : World, wo = wr := ⟨_, rfl⟩
            go_loopw [8] (fun i W => ∃ k : Nat, k ≤ n.f5.length ∧ i = .int .i64 k ∧ Hid (Boxed2 w (.cells #[.int .i64 nx, .slice A l.length c] 27) (.cells (nodeCs n A4 c4 A5 c5 A6 c6) 76) W) ∧ Hid (W.heap[gm]? = some (.cells (bools (metC l (n.f5.take k))) 4 (0, 0))) ∧ Hid (∀ j : Nat, j < k → ∃ p : Nat, p < l.length ∧ (rd_T76 l p).f0 = rd n.f5 j ∧ (rd_T76 l p).f2 = n.f0) ∧ Hid (∀ i j : Nat, i < j → j < k → rd n.f5 i ≠ rd n.f5 j)) (fun i _ => n.f5.length - (intOf i).toNat)
            case atStart => exact ⟨0, Nat.zero_le _, rfl, HB2, by simpa using HM2, fun j hj => by omega, fun i j _ hj => by omega⟩
            case round =>
              clear HB2 HM2
              obtain ⟨k, hk, rfl, HB, HM, HK, HO⟩ := hrel
              have t0 : wr.cell? ⟨w.heap.size + 1, 5, none⟩ = some (.slice A5 n.f5.length c5) := blk_cell HB.out.k2 5
              by_cases hlt : k < n.f5.length
              · obtain ⟨ad, hade, x0⟩ := kid_at (Kd.C_below HN.out.r5 HB.out.b) k hlt
                have hA : A5 = some ad := hade
                subst hA
                clear hade
                obtain ⟨rr, hrr, hf⟩ := refAt_ev nx l (rd n.f5 k) HS.out (by omega)
                obtain ⟨kk, hkk⟩ := hrr.rounds
                have HKK : Hid (topiaryref02_At.f kk nx l (rd n.f5 k) = some rr) := hkk
                have BADK : Hid ((∀ q : Nat, q < l.length → (rd_T76 l q).f0 = rd n.f5 k → (rd_T76 l q).f2 ≠ n.f0) → r = false) := fun h => by
                  rw [← HT.out]
                  refine tv_no (fun hp => ?_)
                  obtain ⟨p, h1, h2, h3⟩ := hp.own k hlt
                  exact h p h1 h2 h3
                have BADO : Hid (rd n.f5 k ∈ n.f5.take k → r = false) := fun h => by
                  rw [← HT.out]
                  refine tv_no (fun hp => ?_)
                  obtain ⟨i, hi, he⟩ := List.getElem_of_mem h
                  have hik : i < k := by rw [List.length_take] at hi; omega
                  refine hp.once i k hik hlt ?_
                  rw [← he, List.getElem_take]
                  simp [rd, List.getD_eq_getElem?_getD, List.getElem?_eq_getElem (show i < n.f5.length by omega)]
                have STEPO : Hid (rd n.f5 k ∉ n.f5.take k → ∀ i j : Nat, i < j → j < k + 1 → rd n.f5 i ≠ rd n.f5 j) := fun h i j hij hj => by
                  rcases Nat.lt_or_ge j k with h2 | h2
                  · exact HO.out i j hij h2
                  · obtain rfl : j = k := by omega
                    intro e
                    apply h
                    rw [← e]
                    have h3 : i < (n.f5.take j).length := by rw [List.length_take]; omega
                    have h4 : (n.f5.take j)[i] = rd n.f5 i := by
                      rw [List.getElem_take]
                      simp [rd, List.getD_eq_getElem?_getD, List.getElem?_eq_getElem (show i < n.f5.length by omega)]
                    rw [← h4]
                    exact List.getElem_mem h3
                have htk : n.f5.take (k + 1) = n.f5.take k ++ [rd n.f5 k] := by
                  have e : rd n.f5 k = n.f5[k] := by simp [rd, List.getD_eq_getElem?_getD, List.getElem?_eq_getElem hlt]
                  rw [List.take_succ_eq_append_getElem hlt, e]
                have HTK := hidm htk
                clear htk
                clear hrr hkk HO
                generalize hx : rd n.f5 k = x at *
                have HX : Hid (rd n.f5 k = x) := hx
                clear hx
                have hk0 : (0 : Int) ≤ (k : Int) := by omega
                have hk1 : (k : Int) < (n.f5.length : Int) := by omega
                have s0 : ∀ x : BW wr, x.1.cell? ⟨w.heap.size + 1, 5, none⟩ = some (.slice (some ad) n.f5.length c5) := bw_cell (blk_cell HB.out.k2 5)
                have s1 : ∀ y : BW wr, y.1.cell? (ad.add k) = some (.int .i64 x) := bw_cell x0
                have s2 : ∀ x : BW wr, x.1.cell? ⟨w.heap.size, 0, none⟩ = some (.int .i64 nx) := bw_cell (blk_cell HB.out.k1 0)
                have s3 : ∀ x : BW wr, x.1.cell? ⟨w.heap.size, 1, none⟩ = some (.slice A l.length c) := bw_cell (blk_cell HB.out.k1 1)
                go_wp2_with fail
                clear t0 x0
                refine wp_region_bw (by kernel_rfl) (by kernel_rfl) ?_
                repeat (go_big_quiet_step ((go_at_call 84; exact calls_bw (topiaryref02_At.calls kk nx A c l x rr _ (Kd.C_below HR.out (below_step HB.out.b (Subtype.property _))) HC.out HKK.out))))
                refine wpQuiet_nil ?_
                rintro _ ⟨y, rfl⟩
                have HB3 := hidm (HB.out.below y.2)
                have HM3 := hidm (blk_below HM.out y.2)
                clear HB HM s0 s1 s2 s3 HKK
                obtain ⟨w3, hw3⟩ := y
                dsimp only at HB3 HM3 ⊢
                clear hw3
                have HB := HB3
                have HM := HM3
                clear HB3 HM3
                go_wp2_with fail
                rcases hf with ⟨rfl, hno⟩ | ⟨q, rfl, hq, he⟩
                · have hr : Hid (r = false) := BADK.out (fun q h1 h2 => absurd h2 (hno q h1))
                  clear hno BADK BADO STEPO HTK
                  have s1 : True := trivial
                  have s2 : True := trivial
                  have s3 : True := trivial
                  have s4 : True := trivial
                  have s5 : True := trivial
                  refine wp_region_bw (by kernel_rfl) (by kernel_rfl) ?_
                  repeat (go_big_quiet_step (fail))
                  refine wpQuiet_nil ?_
                  rintro _ ⟨x, rfl⟩
                  have HB4 := hidm (HB.out.below x.2)
                  have HM4 := hidm (blk_below HM.out x.2)
                  clear HB HM s1 s2 s3 s4 s5
                  obtain ⟨w4, hw4⟩ := x
                  dsimp only at HB4 HM4 ⊢
                  clear hw4
                  clear HM4
                  go_wp2_with fail
                  go_ret
                  exact ⟨by rw [hr.out]; rfl, HB4.out.b⟩
                · have HE : Hid ((rd_T76 l q).f0 = x) := he
                  have hq0 : (0 : Int) ≤ (q : Int) := by omega
                  have hq1 : (q : Int) < (l.length : Int) := by omega
                  have hq2 : decide ((q : Int) < 0) = false := by simp
                  obtain ⟨ad7, B4, d4, B5, d5, B6, d6, hade, z0, z1, z2, z3, z4, z5, z6, hn'⟩ := node_atN (Kd.C_below HR.out HB.out.b) q hq
                  have hA : A = some ad7 := hade
                  subst hA
                  have s1 : ∀ x : BW w3, x.1.cell? ⟨w.heap.size, 1, none⟩ = some (.slice (some ad7) l.length c) := bw_cell (blk_cell HB.out.k1 1)
                  have s2 : ∀ x : BW w3, x.1.cell? ⟨(ad7.add (q * 7)).block, (ad7.add (q * 7)).off + 2, none⟩ = some (.int .i64 (rd_T76 l q).f2) := bw_cell z2
                  have s3 : ∀ x : BW w3, x.1.cell? ⟨w.heap.size + 1, 0, none⟩ = some (.int .i64 n.f0) := bw_cell (blk_cell HB.out.k2 0)
                  have HSTEPK : Hid ((rd_T76 l q).f2 = n.f0 → ∀ j : Nat, j < k + 1 → ∃ p : Nat, p < l.length ∧ (rd_T76 l p).f0 = rd n.f5 j ∧ (rd_T76 l p).f2 = n.f0) := fun h j hj => by
                    rcases Nat.lt_or_ge j k with h2 | h2
                    · exact HK.out j h2
                    · obtain rfl : j = k := by omega
                      exact ⟨q, hq, HE.out.trans HX.out.symm, h⟩
                  have BADP : Hid ((rd_T76 l q).f2 ≠ n.f0 → r = false) := fun h => BADK.out (fun p h1 h2 => by
                    have := same_id HS.out h1 hq (h2.trans HE.out.symm)
                    subst this; exact h)
                  have s4 : ∀ y : BW w3, y.1.cell? ⟨gm, q, none⟩ = some (.bool (decide (x ∈ n.f5.take k))) := bw_cell (by rw [metC_cell HM.out q hq, HE.out])
                  have s5 : True := trivial
                  have HMS : Hid (∀ w4 : World, w4.heap[gm]? = some (.cells (bools (metC l (n.f5.take k))) 4 (0, 0)) → (w4.setCell ⟨gm, q, none⟩ (.bool true)).heap[gm]? = some (.cells (bools (metC l (n.f5.take (k + 1)))) 4 (0, 0))) := fun w4 h => by
                    rw [HTK.out]; exact metC_set HS.out h q hq x HE.out
                  clear z0 z1 z2 z3 z4 z5 z6 hn' hade he HK BADK HTK
                  generalize (rd_T76 l q).f2 = par at *
                  by_cases hp : par = n.f0
                  case neg =>
                    have hr : Hid (r = false) := BADP.out hp
                    have hp1 : (par != n.f0) = true := by rw [bne_iff_ne]; exact hp
                    clear hp BADP BADO STEPO HSTEPK HMS
                    refine wp_region_bw (by kernel_rfl) (by kernel_rfl) ?_
                    repeat (go_big_quiet_step (fail))
                    refine wpQuiet_nil ?_
                    rintro _ ⟨x, rfl⟩
                    have HB4 := hidm (HB.out.below x.2)
                    have HM4 := hidm (blk_below HM.out x.2)
                    clear HB HM s1 s2 s3 s4 s5
                    obtain ⟨w4, hw4⟩ := x
                    dsimp only at HB4 HM4 ⊢
                    clear hw4
                    clear HM4
                    go_wp2_with fail
                    go_ret
                    exact ⟨by rw [hr.out]; rfl, HB4.out.b⟩
                  have HP : Hid (par = n.f0) := hp
                  have hp1 : (par != n.f0) = false := by rw [bne_eq_false_iff_eq]; exact hp
                  clear hp
                  by_cases hin : x ∈ n.f5.take k
                  · have hr : Hid (r = false) := BADO.out hin
                    rw [decide_eq_true hin] at s4
                    clear hin BADP BADO STEPO HSTEPK HMS
                    refine wp_region_bw (by kernel_rfl) (by kernel_rfl) ?_
                    repeat (go_big_quiet_step (fail))
                    refine wpQuiet_nil ?_
                    rintro _ ⟨x, rfl⟩
                    have HB4 := hidm (HB.out.below x.2)
                    have HM4 := hidm (blk_below HM.out x.2)
                    clear HB HM s1 s2 s3 s4 s5
                    obtain ⟨w4, hw4⟩ := x
                    dsimp only at HB4 HM4 ⊢
                    clear hw4
                    clear HM4
                    go_wp2_with fail
                    go_ret
                    exact ⟨by rw [hr.out]; rfl, HB4.out.b⟩
                  · have HSO := hidm (STEPO.out hin)
                    have HSK := hidm (HSTEPK.out HP.out)
                    rw [decide_eq_false hin] at s4
                    clear hin BADP BADO STEPO HSTEPK
                    refine wp_region_bw (by kernel_rfl) (by kernel_rfl) ?_
                    repeat (go_big_quiet_step (fail))
                    refine wpQuiet_nil ?_
                    rintro _ ⟨x, rfl⟩
                    have HB4 := hidm (HB.out.below x.2)
                    have HM4 := hidm (blk_below HM.out x.2)
                    clear HB HM s1 s2 s3 s4 s5
                    obtain ⟨w4, hw4⟩ := x
                    dsimp only at HB4 HM4 ⊢
                    clear hw4
                    have y0 : w4.cell? ⟨gm, q, none⟩ = some (.bool (decide ((rd_T76 l q).f0 ∈ n.f5.take k))) := metC_cell HM4.out q hq
                    have ff : ∀ i, w4.frozen? ⟨gm, i, none⟩ = false := blk_frozen HM4.out
                    have HM5 := hidm (HMS.out w4 HM4.out)
                    have HB5 : Hid (Boxed2 w (.cells #[.int .i64 nx, .slice (some ad7) l.length c] 27) (.cells (nodeCs n A4 c4 (some ad) c5 A6 c6) 76) (w4.setCell ⟨gm, q, none⟩ (.bool true))) :=
                      ⟨HB4.out.b.setCell (by show w.heap.size ≤ gm; omega) _, blk_far HB4.out.k1 (by show w.heap.size ≠ gm; omega) _, blk_far HB4.out.k2 (by show w.heap.size + 1 ≠ gm; omega) _⟩
                    clear HB4 HM4 HMS
                    generalize decide ((rd_T76 l q).f0 ∈ n.f5.take k) = ob at y0
                    go_wp2_with fail
                    go_roundw
                    case rel => exact ⟨k + 1, by omega, by go_num, HB5, HM5, HSK, HSO⟩
                    case measure => simp [intOf]; omega
              · have hr : Hid (r = true) := by
                  rw [← HT.out]
                  exact tv_yes ⟨hw, hkl, Hprops.out, Hrefs.out, fun j hj => HK.out j (by omega), fun i j hij hj => HO.out i j hij (by omega)⟩
                have HB4 := HB
                clear HB HM HK HO
                go_wp2_with fail
                go_ret
                exact ⟨by rw [hr.out]; rfl, HB4.out.b⟩
end Go.Proofs.Ytlopfkkegjajlaa
namespace Go.Proofs.Ytlopfkkegjajlaa
open Go.RowKit Go.Proofs.YtlopfkkegjajlaaW.PrintWords PHistoryTouched
structure RightP (nx : Int) (l : List S76) : Prop where
  lo : 1 ≤ nx
  hi : nx ≤ 1048577
  len : l.length ≤ 4096
  ids : ∀ i : Nat, i < l.length → prevId l i < (rd_T76 l i).f0 ∧ (rd_T76 l i).f0 < nx
  plain : ∀ i : Nat, i < l.length → PlainP nx l (rd_T76 l i)
  below : ∀ i : Nat, i < l.length → BelowD l 64 (rd_T76 l i)
structure Boxed1 (w : World) (o : Obj) (W : World) : Prop where
  b : Below w.heap.size w W
  k1 : W.heap[w.heap.size]? = some o
theorem Boxed1.below {w : World} {o : Obj} {W W' : World} (h : Boxed1 w o W) (hb : Below W.heap.size W W') : Boxed1 w o W' := ⟨below_step h.b hb, blk_below h.k1 hb⟩
set_option maxRecDepth 100000 in
set_option maxHeartbeats 40000000 in
theorem right_any (nx : Int) (l : List S76) (A : Option Addr) (c : Nat) (w : World) (hr : Kd.C k76 w A l.length l) (hc : l.length ≤ c) :
    Calls Try.prog 39 #[.agg #[.int .i64 nx, .slice A l.length c]] w fun e w' => e = .returned (.bool (tv (RightP nx l))) ∧ Below w.heap.size w w' := by
  have HR : Hid (Kd.C k76 w A l.length l) := hr
  have HC : Hid (l.length ≤ c) := hc
  have hmx := hr.2.1
  have HW : Hid (Boxed1 w (.cells #[.int .i64 nx, .slice A l.length c] 27) (w.alloc (.cells #[.int .i64 nx, .slice A l.length c] 27))) := ⟨below_alloc (Below.refl _ _) _, blk_new _ _⟩
  generalize htv : tv (RightP nx l) = r
  have HT : Hid (tv (RightP nx l) = r) := htv
  have NO : Hid (¬ RightP nx l → r = false) := fun h => by rw [← HT.out]; exact tv_no h
  clear hr hc htv
  have q0 : (w.alloc (.cells #[.int .i64 nx, .slice A l.length c] 27)).cell? ⟨w.heap.size, 0, none⟩ = some (.int .i64 nx) := blk_cell HW.out.k1 0
  have q1 : (w.alloc (.cells #[.int .i64 nx, .slice A l.length c] 27)).cell? ⟨w.heap.size, 1, none⟩ = some (.slice A l.length c) := blk_cell HW.out.k1 1
  by_cases h1 : 1 ≤ nx
  case neg =>
    have hr : Hid (r = false) := NO.out (fun h => h1 h.lo)
    have d1 : decide (nx < 1) = true := by simp; omega
    clear h1
    go_enter Try.func39, Try.ntmps39
    go_wp2_with fail
    go_ret
    exact ⟨by rw [hr.out]; rfl, HW.out.b⟩
  have d1 : decide (nx < 1) = false := by simp; omega
  by_cases h2 : nx ≤ 1048577
  case neg =>
    have hr : Hid (r = false) := NO.out (fun h => h2 h.hi)
    have d2 : decide (1048577 < nx) = true := by simp; omega
    clear h1 h2
    go_enter Try.func39, Try.ntmps39
    go_wp2_with fail
    go_ret
    exact ⟨by rw [hr.out]; rfl, HW.out.b⟩
  have d2 : decide (1048577 < nx) = false := by simp; omega
  by_cases h3 : l.length ≤ 4096
  case neg =>
    have hr : Hid (r = false) := NO.out (fun h => h3 h.len)
    have d3 : decide ((4096 : Int) < (l.length : Int)) = true := by simp; omega
    have d4 : decide (4096 < l.length) = true := by simp; omega
    clear h1 h2 h3
    go_enter Try.func39, Try.ntmps39
    go_wp2_with fail
    go_ret
    exact ⟨by rw [hr.out]; rfl, HW.out.b⟩
  have d3 : decide ((4096 : Int) < (l.length : Int)) = false := by simp; omega
  have d4 : decide (4096 < l.length) = false := by simp; omega
  go_enter Try.func39, Try.ntmps39
  go_wp2_with fail
  clear q0 q1 d1 d2 d3 d4
  generalize (w.alloc (.cells #[.int .i64 nx, .slice A l.length c] 27)) = W0 at HW ⊢
  go_loopw [3] (fun i W => ∃ k : Nat, k ≤ l.length ∧ i = .int .i64 k ∧ Hid (Boxed1 w (.cells #[.int .i64 nx, .slice A l.length c] 27) W) ∧ Hid (∀ j : Nat, j < k → prevId l j < (rd_T76 l j).f0 ∧ (rd_T76 l j).f0 < nx)) (fun i _ => l.length - (intOf i).toNat)
  case atStart => exact ⟨0, Nat.zero_le _, rfl, HW, fun j hj => by omega⟩
  case round =>
    obtain ⟨k, hk, rfl, HB, HF⟩ := hrel
    have t1 : wr.cell? ⟨w.heap.size, 1, none⟩ = some (.slice A l.length c) := blk_cell HB.out.k1 1
    by_cases hlt : k < l.length
    · obtain ⟨ad, B4, e4, B5, e5, B6, e6, hade, z0, _, _, _, _, _, _, _⟩ := node_atN (Kd.C_below HR.out HB.out.b) k hlt
      have hA : A = some ad := hade
      subst hA
      clear hade
      have Y : Hid (0 < k → wr.cell? (ad.add ((k - 1) * 7)) = some (.int .i64 (rd_T76 l (k - 1 : Nat)).f0)) := fun h => by
        obtain ⟨ad', _, _, _, _, _, _, e', y0, _⟩ := node_atN (Kd.C_below HR.out HB.out.b) (k - 1) (by omega)
        injection e' with e'
        subst e'
        exact y0
      have BAD : Hid (¬ (prevId l k < (rd_T76 l k).f0 ∧ (rd_T76 l k).f0 < nx) → r = false) := fun h => NO.out (fun hp => h (hp.ids k hlt))
      have STEP : Hid ((prevId l k < (rd_T76 l k).f0 ∧ (rd_T76 l k).f0 < nx) → ∀ j : Nat, j < k + 1 → prevId l j < (rd_T76 l j).f0 ∧ (rd_T76 l j).f0 < nx) := fun h j hj => by
        rcases Nat.lt_or_ge j k with h2 | h2
        · exact HF.out j h2
        · obtain rfl : j = k := by omega
          exact h
      have LO : Hid (prevId l k < (rd_T76 l k).f0 → 1 ≤ (rd_T76 l k).f0) := fun h => by
        rcases Nat.eq_zero_or_pos k with e | e
        · subst e; rw [prevId_zero] at h; omega
        · have h2 := (HF.out (k - 1) (by omega)).1
          have h3 : ∀ i : Nat, i < k → 1 ≤ (rd_T76 l i).f0 := by
            intro i
            induction i with
            | zero => intro h0; have := (HF.out 0 h0).1; rw [prevId_zero] at this; omega
            | succ i ih =>
              intro h0
              have h4 := ih (by omega)
              have h5 := (HF.out (i + 1) h0).1
              rw [prevId_succ] at h5
              omega
          have h4 := h3 (k - 1) (by omega)
          unfold prevId at h
          rw [if_neg (by omega)] at h
          omega
      have P0 : Hid (k = 0 → prevId l k = 0) := fun h => by rw [h]; rfl
      have P1 : Hid (0 < k → prevId l k = (rd_T76 l (k - 1 : Nat)).f0) := fun h => by unfold prevId; rw [if_neg (by omega)]
      have hk0 : (0 : Int) ≤ (k : Int) := by omega
      have hk1 : (k : Int) < (l.length : Int) := by omega
      have s0 : ∀ x : BW wr, x.1.cell? ⟨w.heap.size, 0, none⟩ = some (.int .i64 nx) := bw_cell (blk_cell HB.out.k1 0)
      have s1 : ∀ x : BW wr, x.1.cell? ⟨w.heap.size, 1, none⟩ = some (.slice (some ad) l.length c) := bw_cell (blk_cell HB.out.k1 1)
      have s2 : ∀ x : BW wr, x.1.cell? (ad.add (k * 7)) = some (.int .i64 (rd_T76 l k).f0) := bw_cell z0
      clear z0 HF
      generalize (rd_T76 l k).f0 = id at *
      go_wp2_with fail
      clear t1
      by_cases hi1 : 1 ≤ id
      case neg =>
        have hr : Hid (r = false) := BAD.out (fun h => hi1 (LO.out h.1))
        have d1 : decide (id < 1) = true := by simp; omega
        clear hi1 BAD STEP LO P0 P1 Y
        refine wp_region_bw (by kernel_rfl) (by kernel_rfl) ?_
        repeat (go_big_quiet_step (fail))
        refine wpQuiet_nil ?_
        rintro _ ⟨x, rfl⟩
        have HB4 := hidm (HB.out.below x.2)
        clear HB s0 s1 s2
        obtain ⟨w4, hw4⟩ := x
        dsimp only at HB4 ⊢
        clear hw4
        go_wp2_with fail
        go_ret
        exact ⟨by rw [hr.out]; rfl, HB4.out.b⟩
      have d1 : decide (id < 1) = false := by simp; omega
      by_cases hi2 : id < nx
      case neg =>
        have hr : Hid (r = false) := BAD.out (fun h => hi2 h.2)
        have d2 : decide (nx ≤ id) = true := by simp; omega
        clear hi1 hi2 BAD STEP LO P0 P1 Y
        refine wp_region_bw (by kernel_rfl) (by kernel_rfl) ?_
        repeat (go_big_quiet_step (fail))
        refine wpQuiet_nil ?_
        rintro _ ⟨x, rfl⟩
        have HB4 := hidm (HB.out.below x.2)
        clear HB s0 s1 s2
        obtain ⟨w4, hw4⟩ := x
        dsimp only at HB4 ⊢
        clear hw4
        go_wp2_with fail
        go_ret
        exact ⟨by rw [hr.out]; rfl, HB4.out.b⟩
      have d2 : decide (nx ≤ id) = false := by simp; omega
      rcases Nat.eq_zero_or_pos k with hkz | hkz
      · have HO : Hid (prevId l k < id ∧ id < nx) := ⟨by rw [P0.out hkz]; omega, hi2⟩
        have hk2 : decide ((0 : Int) < (k : Int)) = false := by simp; omega
        have hk3 : decide (0 < k) = false := by simp; omega
        have K0 : Hid (k = 0) := hkz
        have hk4 : k ≤ 0 := by omega
        clear hi1 hi2 BAD LO P0 P1 Y hkz
        refine wp_region_bw (by kernel_rfl) (by kernel_rfl) ?_
        repeat (go_big_quiet_step (fail))
        refine wpQuiet_nil ?_
        rintro _ ⟨x, rfl⟩
        have HB4 := hidm (HB.out.below x.2)
        clear HB s0 s1 s2
        obtain ⟨w4, hw4⟩ := x
        dsimp only at HB4 ⊢
        clear hw4
        go_wp2_with fail
        go_roundw
        case rel => exact ⟨k + 1, by omega, by go_num, HB4, STEP.out HO.out⟩
        case measure => simp [intOf]; omega
      · obtain ⟨j, hj⟩ : ∃ j, j = k - 1 := ⟨_, rfl⟩
        have hk2 : decide ((0 : Int) < (k : Int)) = true := by simp; omega
        have hk3 : decide (0 < k) = true := by simp; omega
        have hj0 : (0 : Int) ≤ (j : Int) := by omega
        have hj1 : (j : Int) < (l.length : Int) := by omega
        have hw1 : IntKind.i64.wrap ((k : Int) - 1) = (j : Int) := by rw [show (k : Int) - 1 = (j : Int) by omega]; exact IntWalk.i64_in _ (by omega)
        have HQ : Hid (wr.cell? (ad.add (j * 7)) = some (.int .i64 (rd_T76 l (j : Nat)).f0)) := by have := Y.out hkz; rw [← hj] at this; exact this
        have PE : Hid (prevId l k = (rd_T76 l (j : Nat)).f0) := by have := P1.out hkz; rw [← hj] at this; exact this
        have HJ : Hid (j = k - 1 ∧ 0 < k) := ⟨hj, hkz⟩
        clear hj hkz Y P0 P1
        generalize (rd_T76 l (j : Int)).f0 = pid at *
        have s3 : ∀ x : BW wr, x.1.cell? (ad.add (j * 7)) = some (.int .i64 pid) := bw_cell HQ.out
        by_cases hle : id ≤ pid
        · have hr : Hid (r = false) := BAD.out (fun h => by have h1 := h.1; rw [PE.out] at h1; omega)
          have d3 : decide (id ≤ pid) = true := by simp; omega
          clear hi1 hi2 hle BAD STEP LO PE HQ
          refine wp_region_bw (by kernel_rfl) (by kernel_rfl) ?_
          repeat (go_big_quiet_step (fail))
          refine wpQuiet_nil ?_
          rintro _ ⟨x, rfl⟩
          have HB4 := hidm (HB.out.below x.2)
          clear HB s0 s1 s2 s3
          obtain ⟨w4, hw4⟩ := x
          dsimp only at HB4 ⊢
          clear hw4
          go_wp2_with fail
          go_ret
          exact ⟨by rw [hr.out]; rfl, HB4.out.b⟩
        · have HO : Hid (prevId l k < id ∧ id < nx) := ⟨by rw [PE.out]; omega, hi2⟩
          have d3 : decide (id ≤ pid) = false := by simp; omega
          clear hi1 hi2 hle BAD LO PE HQ
          refine wp_region_bw (by kernel_rfl) (by kernel_rfl) ?_
          repeat (go_big_quiet_step (fail))
          refine wpQuiet_nil ?_
          rintro _ ⟨x, rfl⟩
          have HB4 := hidm (HB.out.below x.2)
          clear HB s0 s1 s2 s3
          obtain ⟨w4, hw4⟩ := x
          dsimp only at HB4 ⊢
          clear hw4
          go_wp2_with fail
          go_roundw
          case rel => exact ⟨k + 1, by omega, by go_num, HB4, STEP.out HO.out⟩
          case measure => simp [intOf]; omega
    · have HIDS : Hid (∀ j : Nat, j < l.length → prevId l j < (rd_T76 l j).f0 ∧ (rd_T76 l j).f0 < nx) := fun j hj => HF.out j (by omega)
      have HS : Hid (IdsUp l) := ids_up h2 HIDS.out
      have HW : Hid (Boxed1 w (.cells #[.int .i64 nx, .slice A l.length c] 27) wr) := HB
      clear HB HF
      go_wp2_with fail
      clear t1
      obtain ⟨wo, rfl⟩ : ∃ wo : World, wo = wr := ⟨_, rfl⟩
      go_loopw [4] (fun i W => ∃ k : Nat, k ≤ l.length ∧ i = .int .i64 k ∧ Hid (Boxed1 w (.cells #[.int .i64 nx, .slice A l.length c] 27) W) ∧ Hid (∀ j : Nat, j < k → PlainP nx l (rd_T76 l j) ∧ BelowD l 64 (rd_T76 l j))) (fun i _ => l.length - (intOf i).toNat)
      case atStart => exact ⟨0, Nat.zero_le _, rfl, HW, fun j hj => by omega⟩
      case round =>
        clear HW
        obtain ⟨k, hk, rfl, HB, HF⟩ := hrel
        have t1 : wr.cell? ⟨w.heap.size, 1, none⟩ = some (.slice A l.length c) := blk_cell HB.out.k1 1
        by_cases hlt : k < l.length
        · obtain ⟨ad, B4, e4, B5, e5, B6, e6, hade, z0, z1, z2, z3, z4, z5, z6, hn⟩ := node_atN (Kd.C_below HR.out HB.out.b) k hlt
          have hA : A = some ad := hade
          subst hA
          clear hade
          have HNR : Hid (NodeR wr (rd_T76 l k) B4 e4 B5 e5 B6 e6) := hn
          have STEP : Hid (PlainP nx l (rd_T76 l k) ∧ BelowD l 64 (rd_T76 l k) → ∀ j : Nat, j < k + 1 → PlainP nx l (rd_T76 l j) ∧ BelowD l 64 (rd_T76 l j)) := fun h j hj => by
            rcases Nat.lt_or_ge j k with h2 | h2
            · exact HF.out j h2
            · obtain rfl : j = k := by omega
              exact h
          have BADP : Hid (¬ PlainP nx l (rd_T76 l k) → r = false) := fun h => NO.out (fun hp => h (hp.plain k hlt))
          have BADB : Hid (¬ BelowD l 64 (rd_T76 l k) → r = false) := fun h => NO.out (fun hp => h (hp.below k hlt))
          have HKL : Hid (∀ p : Nat, p < l.length → (rd_T76 l p).f5.length ≤ 9223372036854775807) := fun p hp => by
            obtain ⟨_, _, _, _, _, _, _, _, _, _, _, _, _, _, _, hn⟩ := node_atN HR.out p hp
            exact hn.r5.2.1
          have HCP : Hid (∀ x : BW wr, Calls Try.prog 68 #[.agg #[.int .i64 nx, .slice (some ad) l.length c], nodeV (rd_T76 l k) B4 e4 B5 e5 B6 e6] x.1 fun e w' => e = .returned (.bool (tv (PlainP nx l (rd_T76 l k)))) ∧ Below x.1.heap.size x.1 w') := fun x =>
            plain_any nx l (some ad) c (rd_T76 l k) B4 B5 B6 e4 e5 e6 x.1 (Kd.C_below HR.out (below_step HB.out.b x.2)) HC.out (HNR.out.below x.2) HS.out h3
          have HCB : Hid (∀ x : BW wr, Calls Try.prog 69 #[.agg #[.int .i64 nx, .slice (some ad) l.length c], nodeV (rd_T76 l k) B4 e4 B5 e5 B6 e6] x.1 fun e w' => e = .returned (.bool (tv (BelowD l 64 (rd_T76 l k)))) ∧ Below x.1.heap.size x.1 w') := fun x =>
            refBelow_any nx l (some ad) c (rd_T76 l k) B4 B5 B6 e4 e5 e6 x.1 (Kd.C_below HR.out (below_step HB.out.b x.2)) HC.out (HNR.out.below x.2) HS.out (by omega) HKL.out
          have hk0 : (0 : Int) ≤ (k : Int) := by omega
          have hk1 : (k : Int) < (l.length : Int) := by omega
          have s0 : ∀ x : BW wr, x.1.cell? ⟨w.heap.size, 0, none⟩ = some (.int .i64 nx) := bw_cell (blk_cell HB.out.k1 0)
          have s1 : ∀ x : BW wr, x.1.cell? ⟨w.heap.size, 1, none⟩ = some (.slice (some ad) l.length c) := bw_cell (blk_cell HB.out.k1 1)
          have y0 : ∀ x : BW wr, x.1.cell? (ad.add (k * 7)) = some (.int .i64 (rd_T76 l k).f0) := bw_cell z0
          have y1 : ∀ x : BW wr, x.1.cell? ⟨(ad.add (k * 7)).block, (ad.add (k * 7)).off + 1, none⟩ = some (.string (rd_T76 l k).f1) := bw_cell z1
          have y2 : ∀ x : BW wr, x.1.cell? ⟨(ad.add (k * 7)).block, (ad.add (k * 7)).off + 2, none⟩ = some (.int .i64 (rd_T76 l k).f2) := bw_cell z2
          have y3 : ∀ x : BW wr, x.1.cell? ⟨(ad.add (k * 7)).block, (ad.add (k * 7)).off + 3, none⟩ = some (.string (rd_T76 l k).f3) := bw_cell z3
          have y4 : ∀ x : BW wr, x.1.cell? ⟨(ad.add (k * 7)).block, (ad.add (k * 7)).off + 4, none⟩ = some (.slice B4 (rd_T76 l k).f4.length e4) := bw_cell z4
          have y5 : ∀ x : BW wr, x.1.cell? ⟨(ad.add (k * 7)).block, (ad.add (k * 7)).off + 5, none⟩ = some (.slice B5 (rd_T76 l k).f5.length e5) := bw_cell z5
          have y6 : ∀ x : BW wr, x.1.cell? ⟨(ad.add (k * 7)).block, (ad.add (k * 7)).off + 6, none⟩ = some (.slice B6 (rd_T76 l k).f6.length e6) := bw_cell z6
          clear z0 z1 z2 z3 z4 z5 z6 hn HF HKL
          go_wp2_with fail
          clear t1
          by_cases hpl : PlainP nx l (rd_T76 l k)
          · rw [tv_yes hpl] at HCP
            by_cases hbe : BelowD l 64 (rd_T76 l k)
            · rw [tv_yes hbe] at HCB
              have HO : Hid (PlainP nx l (rd_T76 l k) ∧ BelowD l 64 (rd_T76 l k)) := ⟨hpl, hbe⟩
              clear hpl hbe BADP BADB
              refine wp_region_bw (by kernel_rfl) (by kernel_rfl) ?_
              repeat (go_big_quiet_step (first | (go_at_call 68; exact calls_bw (HCP.out _)) | (go_at_call 69; exact calls_bw (HCB.out _))))
              refine wpQuiet_nil ?_
              rintro _ ⟨x, rfl⟩
              have HB4 := hidm (HB.out.below x.2)
              clear HB HCP HCB s0 s1 y0 y1 y2 y3 y4 y5 y6 HNR
              obtain ⟨w4, hw4⟩ := x
              dsimp only at HB4 ⊢
              clear hw4
              go_wp2_with fail
              go_roundw
              case rel => exact ⟨k + 1, by omega, by go_num, HB4, STEP.out HO.out⟩
              case measure => simp [intOf]; omega
            · rw [tv_no hbe] at HCB
              have hr : Hid (r = false) := BADB.out hbe
              clear hpl hbe BADP BADB STEP
              refine wp_region_bw (by kernel_rfl) (by kernel_rfl) ?_
              repeat (go_big_quiet_step (first | (go_at_call 68; exact calls_bw (HCP.out _)) | (go_at_call 69; exact calls_bw (HCB.out _))))
              refine wpQuiet_nil ?_
              rintro _ ⟨x, rfl⟩
              have HB4 := hidm (HB.out.below x.2)
              clear HB HCP HCB s0 s1 y0 y1 y2 y3 y4 y5 y6 HNR
              obtain ⟨w4, hw4⟩ := x
              dsimp only at HB4 ⊢
              clear hw4
              go_wp2_with fail
              go_ret
              exact ⟨by rw [hr.out]; rfl, HB4.out.b⟩
          · rw [tv_no hpl] at HCP
            have hr : Hid (r = false) := BADP.out hpl
            clear hpl BADP BADB STEP
            refine wp_region_bw (by kernel_rfl) (by kernel_rfl) ?_
            repeat (go_big_quiet_step (first | (go_at_call 68; exact calls_bw (HCP.out _)) | (go_at_call 69; exact calls_bw (HCB.out _))))
            refine wpQuiet_nil ?_
            rintro _ ⟨x, rfl⟩
            have HB4 := hidm (HB.out.below x.2)
            clear HB HCP HCB s0 s1 y0 y1 y2 y3 y4 y5 y6 HNR
            obtain ⟨w4, hw4⟩ := x
            dsimp only at HB4 ⊢
            clear hw4
            go_wp2_with fail
            go_ret
            exact ⟨by rw [hr.out]; rfl, HB4.out.b⟩
        · have hr : Hid (r = true) := by
            rw [← HT.out]
            exact tv_yes ⟨h1, h2, h3, HIDS.out, fun j hj => (HF.out j (by omega)).1, fun j hj => (HF.out j (by omega)).2⟩
          have HB4 := HB
          clear HB HF
          go_wp2_with fail
          go_ret
          exact ⟨by rw [hr.out]; rfl, HB4.out.b⟩
end Go.Proofs.Ytlopfkkegjajlaa
namespace Go.Proofs.Ytlopfkkegjajlaa
open Go.RowKit Go.Proofs.YtlopfkkegjajlaaW.PrintWords PHistoryTouched
theorem mem_kidsTo (l : List S76) (x : Int) : ∀ m : Nat, m ≤ l.length → (x ∈ kidsTo l m ↔ ∃ b : Nat, b < m ∧ x ∈ (rd_T76 l b).f5)
  | 0, _ => by simp [kidsTo]
  | m + 1, hm => by
    rw [kidsTo_succ l m (by omega), List.mem_append, mem_kidsTo l x m (by omega)]
    constructor
    · rintro (⟨b, hb, h⟩ | h)
      · exact ⟨b, by omega, h⟩
      · exact ⟨m, by omega, h⟩
    · rintro ⟨b, hb, h⟩
      rcases Nat.lt_or_ge b m with h1 | h1
      · exact .inl ⟨b, h1, h⟩
      · obtain rfl : b = m := by omega
        exact .inr h
theorem count_kids_ge (l : List S76) (x : Int) : ∀ m : Nat, m ≤ l.length → ∀ b : Nat, b < m → (rd_T76 l b).f5.count x ≤ (kidsTo l m).count x
  | 0, _, b, hb => by omega
  | m + 1, hm, b, hb => by
    rw [kidsTo_succ l m (by omega), List.count_append]
    rcases Nat.lt_or_ge b m with h1 | h1
    · have := count_kids_ge l x m (by omega) b h1; omega
    · obtain rfl : b = m := by omega
      omega
theorem count_kids_one (l : List S76) (x : Int) (p : Nat) : ∀ m : Nat, m ≤ l.length → (∀ b : Nat, b < m → b ≠ p → x ∉ (rd_T76 l b).f5) → (kidsTo l m).count x = if p < m then (rd_T76 l p).f5.count x else 0
  | 0, _, _ => by simp [kidsTo]
  | m + 1, hm, h => by
    rw [kidsTo_succ l m (by omega), List.count_append, count_kids_one l x p m (by omega) (fun b hb => h b (by omega))]
    by_cases e : p = m
    · subst e
      rw [if_neg (by omega), if_pos (by omega)]; omega
    · have h0 : (rd_T76 l m).f5.count x = 0 := List.count_eq_zero.2 (h m (by omega) (fun h => e h.symm))
      rw [h0]
      by_cases h1 : p < m
      · rw [if_pos h1, if_pos (by omega)]; omega
      · rw [if_neg h1, if_neg (by omega)]
theorem mem_rd {K : List Int} {x : Int} (h : x ∈ K) : ∃ j : Nat, j < K.length ∧ rd K j = x := by
  obtain ⟨j, hj, rfl⟩ := List.getElem_of_mem h
  exact ⟨j, hj, by simp [rd, List.getD_eq_getElem?_getD, List.getElem?_eq_getElem hj]⟩
theorem once_nodup {K : List Int} (h : ∀ i j : Nat, i < j → j < K.length → rd K i ≠ rd K j) : K.Nodup := by
  rw [List.nodup_iff_pairwise_ne, List.pairwise_iff_getElem]
  intro i j hi hj hij
  have := h i j hij hj
  simpa [rd, List.getD_eq_getElem?_getD, List.getElem?_eq_getElem hi, List.getElem?_eq_getElem hj] using this
theorem nodup_once {K : List Int} (h : K.Nodup) : ∀ i j : Nat, i < j → j < K.length → rd K i ≠ rd K j := by
  intro i j hij hj
  rw [List.nodup_iff_pairwise_ne, List.pairwise_iff_getElem] at h
  have := h i j (by omega) hj hij
  simpa [rd, List.getD_eq_getElem?_getD, List.getElem?_eq_getElem (show i < K.length by omega), List.getElem?_eq_getElem hj] using this
theorem count_le_nodup {K : List Int} (h : ∀ x ∈ K, K.count x ≤ 1) : K.Nodup := List.nodup_iff_count.2 (fun x => by
  by_cases hx : x ∈ K
  · exact h x hx
  · rw [List.count_eq_zero.2 hx]; omega)
theorem kid_parent {l : List S76} (hs : IdsUp l) (hk : ∀ a : Nat, a < l.length → KidsOk l (rd_T76 l a)) {i b : Nat} (hi : i < l.length) (hb : b < l.length) (h : (rd_T76 l i).f0 ∈ (rd_T76 l b).f5) : (rd_T76 l i).f2 = (rd_T76 l b).f0 := by
  obtain ⟨j, hj, he⟩ := mem_rd h
  obtain ⟨p, hp, h1, h2⟩ := hk b hb j hj
  have := same_id hs hp hi (h1.trans he)
  subst this
  exact h2
theorem word_some {s : ByteArray} (h : wordB s = true) : s.toList ≠ [] := by
  intro h0
  have h1 : s.size = 0 := by
    have : s.toList.length = s.size := by rw [ByteArray.toList_eq]; rfl
    rw [h0] at this; simpa using this.symm
  unfold wordB at h
  rw [trimQ_neg' (by omega), bodyB_no1 h1] at h
  cases h
theorem check_of_right {nx : Int} {l : List S76} (h : RightP nx l) : CheckP nx l := by
  have hs : IdsUp l := ids_up h.hi h.ids
  have hk : ∀ a : Nat, a < l.length → KidsOk l (rd_T76 l a) := fun a ha => (h.plain a ha).own
  refine ⟨h.lo, h.hi, h.len, h.ids, fun i hi => ?_, hk, fun i hi h0 => ?_, fun i hi h0 => ?_, fun i hi => ?_⟩
  · have hp := h.plain i hi
    have hb := h.below i hi
    refine ⟨hp.word, ?_, ?_, hp.kids, hp.props, hp.refs⟩
    · rcases hb with ⟨h1, h2⟩ | ⟨h1, h2, _⟩
      · exact ⟨fun _ => h2, fun _ => h1⟩
      · exact ⟨fun h3 => absurd h3 h1, fun h3 => absurd h3 (word_some h2)⟩
    · rcases hb with ⟨h1, h2⟩ | ⟨h1, h2, _⟩
      · exact fun h3 => absurd h2 h3
      · exact fun _ => h2
  · refine List.count_eq_zero.2 (fun hm => ?_)
    obtain ⟨b, hb, hx⟩ := (mem_kidsTo l _ l.length (Nat.le_refl _)).1 hm
    have h1 := kid_parent hs hk hi hb hx
    have h2 := hs.lo b hb
    omega
  · rcases h.below i hi with ⟨h1, _⟩ | ⟨_, _, p, hp, h1, h2, _⟩
    · exact absurd h1 h0
    · rw [count_kids_one l _ p l.length (Nat.le_refl _) (fun b hb hne hx => by
        have h3 := kid_parent hs hk hi hb hx
        exact hne (same_id hs hb hp (h3.symm.trans h1.symm))), if_pos hp]
      have h4 := List.nodup_iff_count.1 (once_nodup (h.plain p hp).once) (rd_T76 l i).f0
      have h5 := List.count_pos_iff.2 h2
      omega
  · have key : ∀ (k : Nat) (n : S76), BelowD l k n → DeepOk l k n := by
      intro k
      induction k with
      | zero => intro n h; exact h
      | succ k ih =>
        rintro n (⟨h1, _⟩ | ⟨_, _, p, hp, h1, _, h2⟩)
        · exact .inl h1
        · exact .inr ⟨p, hp, h1, ih _ h2⟩
    exact key 64 _ (h.below i hi)
theorem right_of_check {nx : Int} {l : List S76} (h : CheckP nx l) : RightP nx l := by
  have hs : IdsUp l := ids_up h.hi h.ids
  refine ⟨h.lo, h.hi, h.len, h.ids, fun i hi => ?_, fun i hi => ?_⟩
  · have ha := h.alone i hi
    refine ⟨ha.word, ha.kids, ha.props, ha.refs, h.hangs.kids i hi, nodup_once (count_le_nodup (fun x hx => ?_))⟩
    obtain ⟨j, hj, he⟩ := mem_rd hx
    obtain ⟨p, hp, h1, h2⟩ := h.hangs.kids i hi j hj
    have h3 : (rd_T76 l p).f2 ≠ 0 := by have := hs.lo i hi; omega
    have h4 := h.hangs.met1 p hp h3
    have h5 := count_kids_ge l x l.length (Nat.le_refl _) i hi
    rw [h1, he] at h4
    omega
  · have key : ∀ (k : Nat) (a : Nat), a < l.length → DeepOk l k (rd_T76 l a) → BelowD l k (rd_T76 l a) := by
      intro k
      induction k with
      | zero => intro a _ h; exact h
      | succ k ih =>
        intro a ha hd
        have hal := h.alone a ha
        by_cases h0 : (rd_T76 l a).f2 = 0
        · exact .inl ⟨h0, hal.root.1 h0⟩
        · rcases hd with h1 | ⟨p, hp, h1, h2⟩
          · exact absurd h1 h0
          · refine .inr ⟨h0, hal.role (fun h3 => h0 (hal.root.2 h3)), p, hp, h1, ?_, ih p hp h2⟩
            have h3 := h.hangs.met1 a ha h0
            obtain ⟨b, hb, hx⟩ := (mem_kidsTo l _ l.length (Nat.le_refl _)).1 (List.count_pos_iff.1 (by rw [h3]; exact Nat.one_pos))
            have h4 := kid_parent hs h.hangs.kids ha hb hx
            have h5 := same_id hs hb hp (h4.symm.trans h1.symm)
            subst h5
            exact hx
    exact key 64 i hi (h.hangs.deep i hi)
theorem right_iff (nx : Int) (l : List S76) : RightP nx l ↔ CheckP nx l := ⟨check_of_right, right_of_check⟩
theorem right_check (nx : Int) (l : List S76) (A : Option Addr) (c : Nat) (w : World) (hr : Kd.C k76 w A l.length l) (hc : l.length ≤ c) :
    Calls Try.prog 39 #[.agg #[.int .i64 nx, .slice A l.length c]] w fun e w' => e = .returned (.bool (tv (CheckP nx l))) ∧ Below w.heap.size w w' := by
  have := right_any nx l A c w hr hc
  rwa [tv_congr (right_iff nx l)] at this
end Go.Proofs.Ytlopfkkegjajlaa
namespace Go.Proofs.Ytlopfkkegjajlaa
open Go
section
variable {P : Program} {ops : Array Oper} {C : World → Prop}
def stepH (P : Program) (ops : Array Oper) (C : World → Prop) (K : Act → World → Prop) (j : Nat) (a : Act) (w : World) : Prop :=
  ∃ o, ops[j]? = some o ∧ Region.wanted o (yielded ops a.tmps) = true ∧
      ((∃ f args, (execOp a.eval o).run P w = .ok (.enter f args) w ∧ Calls P f args w fun e w' => ∃ v, e = .returned v ∧ C w' ∧ K (a.put o.dst v) w') ∨
        (∃ v w', (execOp a.eval o).run P w = .ok (.value v) w' ∧ C w' ∧ K (a.put o.dst v) w') ∨
        o.wp P a w (fun a' w' => C w' ∧ K a' w') (fun _ _ _ => False))
theorem wp_any_post {o : Oper} {a : Act} {w : World} {K : Act → World → Prop} {Q : Exit → Act → World → Prop} (h : o.wp P a w K (fun _ _ _ => False)) : o.wp P a w K Q := by
  unfold Oper.wp at *
  generalize (execOp a.eval o).run P w = r at *
  cases r with
  | ok n w' =>
    cases n <;> simp only [Oper.upon] at h ⊢ <;>
      first
        | exact h
        | exact Calls.mono h (fun e w'' he => by
            cases e with
            | returned u => exact he
            | panicked c => exact False.elim he
            | outgrown => obtain ⟨_, _, h⟩ := he; exact False.elim h)
  | halt x w' => cases x <;> simp only [Oper.upon] at h ⊢
theorem stepH_op {Q : Exit → Act → World → Prop} {K : Act → World → Prop} {j : Nat} {a : Act} {w : World} (h : stepH P ops C K j a w) : wpOp P ops Q j (fun a' w' => C w' ∧ K a' w') a w := by
  obtain ⟨o, ho, hw, h⟩ := h
  unfold wpOp
  simp only [ho]
  rw [if_pos hw]
  refine .inl ?_
  unfold Oper.wp
  rcases h with ⟨f, args, hr, hc⟩ | ⟨v, w', hr, hc⟩ | h
  · rw [hr]
    refine Calls.mono hc ?_
    rintro e w' ⟨v, rfl, h1, h2⟩
    exact ⟨h1, h2⟩
  · rw [hr]
    exact hc
  · exact wp_any_post h
def freeOf (ops : Array Oper) (crem : List Nat) (j : Nat) : Bool := crem.all fun i => !Region.waitsFor .any ops j i
def allP (p : Nat → Prop) : List Nat → Prop
  | [] => True
  | j :: js => p j ∧ allP p js
theorem allP_mem {p : Nat → Prop} : ∀ {l : List Nat}, allP p l → ∀ j ∈ l, p j
  | _ :: _, h, j, hj => by
    rcases List.mem_cons.1 hj with rfl | h1
    · exact h.1
    · exact allP_mem h.2 j h1
def runX (P : Program) (ops : Array Oper) (C : World → Prop) (F : Act → World → Prop) : Nat → List Nat → Act → World → Prop
  | 0, _, a, w => F a w
  | m + 1, crem, a, w => allP (fun j => stepH P ops C (runX P ops C F m (crem.erase j)) j a w) (crem.filter (freeOf ops crem))
theorem runX_step {F : Act → World → Prop} {m : Nat} {crem rs : List Nat} {a : Act} {w : World} (hrs : crem.filter (freeOf ops crem) = rs) (h : allP (fun j => stepH P ops C (runX P ops C F m (crem.erase j)) j a w) rs) : runX P ops C F (m + 1) crem a w := by
  rw [← hrs] at h; exact h
structure RemX (ops : Array Oper) (n : Nat) (listed : Array Bool) (rem crem : List Nat) : Prop where
  inv : HeadInv .any ops n listed
  mem : ∀ i, (i ∈ rem ∨ i ∈ crem) ↔ i < n ∧ listed.getD i true = false
  up : rem.Pairwise (· < ·)
  plain : ∀ i ∈ rem, plainAt ops i = true
  dis : ∀ i ∈ rem, ∀ j ∈ crem, i ≠ j
  nd : crem.Nodup
  two : ∀ i ∈ rem, ∀ j ∈ rem, i < j → Region.waitsFor .any ops j i = true ∨ apartAt ops i j = true
  mix : ∀ i ∈ rem, ∀ j ∈ crem, Region.waitsFor .any ops j i = true ∨ apartAt ops i j = true
theorem any_of_holdX {n g : Nat} {F : Act → World → Prop} {Q : Exit → Act → World → Prop} (hsel : ∀ (j : Nat) (o : Oper) cs b, ops[j]? = some o → o.op ≠ .select cs b)
    (hQ : ∀ (o : Oper) (v : Value) c a w, Q (.panic c) (a.put o.dst v) w → Q (.panic c) a w)
    {pre : List Nat} (hs : sinkPre ops n pre = true) (hc : Region.chainB .any ops n = true) (hn : n < ops.size) (hlow : lowB ops n = true)
    (hend : ∀ a w, C w → F a w → wpAny P .any ops Q g (headed ops.size n) a w) :
    ∀ (m : Nat) (rem crem : List Nat) (listed : Array Bool) (a : Act) (w : World), rem.length + crem.length = m → RemX ops n listed rem crem → (∀ i ∈ pre, listed.getD i true = true) → C w →
      RunQ P ops C (fun a' => runX P ops C F crem.length crem a' w) rem a → wpAny P .any ops Q (m + g) listed a w
  | 0, rem, crem, listed, a, w, hm, hr, _, hw, h => by
    obtain rfl : rem = [] := List.eq_nil_of_length_eq_zero (by omega)
    obtain rfl : crem = [] := List.eq_nil_of_length_eq_zero (by omega)
    have hl : listed = headed ops.size n := rem_done ⟨hr.inv, fun i => by simpa using hr.mem i, List.Pairwise.nil⟩
    rw [Nat.zero_add, hl]
    exact hend a w hw h
  | m + 1, rem, crem, listed, a, w, hm, hr, hpl, hw, h => by
    have hex : ∃ i0, i0 < n ∧ listed.getD i0 true = false := by
      cases rem with
      | cons i r => exact ⟨i, (hr.mem i).1 (.inl List.mem_cons_self)⟩
      | nil =>
        cases crem with
        | cons i r => exact ⟨i, (hr.mem i).1 (.inr List.mem_cons_self)⟩
        | nil => simp at hm
    obtain ⟨i0, hi0, hu0⟩ := hex
    have hsucc : m + 1 + g = (m + g) + 1 := by omega
    rw [hsucc]
    refine ⟨fun h0 => absurd h0 (ready_min hlow hr.inv (by omega) i0 hi0 hu0), fun j hj => ?_⟩
    have hjun := (mem_ready.1 hj).1
    have hjn : j < n := by
      rcases Nat.lt_or_ge j n with h1 | h1
      · exact h1
      · exact absurd hj (tail_waits_pre hpl hs hc hn hr.inv _ i0 rfl hi0 hu0 j h1)
    have hsz : j < listed.size := by rw [hr.inv.size]; omega
    have hun : ∀ i, i ∈ rem ∨ i ∈ crem → listed.getD i true = false := fun i hi => ((hr.mem i).1 hi).2
    rcases (hr.mem j).2 ⟨hjn, hjun⟩ with hjm | hjm
    · obtain ⟨l1, l2, hl⟩ := List.append_of_mem hjm
      have hup := hr.up
      rw [hl] at h hup
      have hap : ∀ i ∈ l1, apartAt ops i j = true := by
        intro i hi
        have hij : i < j := (List.pairwise_append.1 hup).2.2 i hi j List.mem_cons_self
        have him : i ∈ rem := by rw [hl]; exact List.mem_append_left _ hi
        rcases hr.two i him j hjm hij with h1 | h1
        · exact absurd hj (waits_not_ready h1 (hun i (.inl him)))
        · exact h1
      have h2 := run_front hsel l1 j l2 a hap h
      have hlen : (l1 ++ l2).length + crem.length = m := by rw [hl] at hm; simp at hm ⊢; omega
      have hnd : ∀ i, i ∈ l1 ++ l2 → i ≠ j := by
        intro i hi
        rcases List.mem_append.1 hi with h3 | h3
        · have := (List.pairwise_append.1 hup).2.2 i h3 j List.mem_cons_self; omega
        · have := (List.pairwise_cons.1 (List.pairwise_append.1 hup).2.1).1 i h3; omega
      have hsub : ∀ i, i ∈ l1 ++ l2 → i ∈ rem := fun i hi => by
        rw [hl]
        rcases List.mem_append.1 hi with h3 | h3
        · exact List.mem_append_left _ h3
        · exact List.mem_append_right _ (List.mem_cons_of_mem _ h3)
      have hjp := hr.plain j hjm
      have hcj : ∀ i, i ∈ crem → i ≠ j := fun i hi e => hr.dis j hjm i hi e.symm
      have hr2 : RemX ops n (listed.setIfInBounds j true) (l1 ++ l2) crem := by
        refine ⟨hr.inv.set hj hjn, fun i => ?_, ?_, fun i hi => hr.plain i (hsub i hi), fun i hi k hk => hr.dis i (hsub i hi) k hk, hr.nd, fun i hi k hk => hr.two i (hsub i hi) k (hsub k hk), fun i hi k hk => hr.mix i (hsub i hi) k hk⟩
        · by_cases hij : i = j
          · subst hij
            constructor
            · rintro (h3 | h3)
              · exact absurd rfl (hnd i h3)
              · exact absurd rfl (hcj i h3)
            · rintro ⟨_, h3⟩; simp [hsz] at h3
          · rw [getD_set_ne true (Ne.symm hij), ← hr.mem i, hl]
            simp only [List.mem_append, List.mem_cons]
            constructor
            · rintro ((h3 | h3) | h3)
              · exact .inl (.inl h3)
              · exact .inl (.inr (.inr h3))
              · exact .inr h3
            · rintro ((h3 | h3 | h3) | h3)
              · exact .inl (.inl h3)
              · exact absurd h3 hij
              · exact .inl (.inr h3)
              · exact .inr h3
        · rw [List.pairwise_append] at hup ⊢
          exact ⟨hup.1, (List.pairwise_cons.1 hup.2.1).2, fun x hx y hy => hup.2.2 x hx y (List.mem_cons_of_mem _ hy)⟩
      unfold plainAt at hjp
      cases ho : ops[j]? with
      | none => simp [ho] at hjp
      | some oj =>
        simp only [ho] at hjp
        have h3 : qOp P ops C j (RunQ P ops C (fun a' => runX P ops C F crem.length crem a' w) (l1 ++ l2)) a := h2
        obtain ⟨v, hy, hK⟩ := yieldsIf_of_qOp ho hjp h3
        exact hy.wpOp ho hw (any_of_holdX hsel hQ hs hc hn hlow hend m (l1 ++ l2) crem _ _ w hlen hr2 (fun i hi => getD_set_true' (hpl i hi)) hw hK)
    · have hap : ∀ i ∈ rem, plainAt ops i = true ∧ apartAt ops i j = true := fun i hi => ⟨hr.plain i hi, by
        rcases hr.mix i hi j hjm with h1 | h1
        · exact absurd hj (waits_not_ready h1 (hun i (.inl hi)))
        · exact h1⟩
      obtain ⟨k, hk⟩ : ∃ k, crem.length = k + 1 := ⟨crem.length - 1, by have := List.length_pos_of_mem hjm; omega⟩
      have hfree : j ∈ crem.filter (freeOf ops crem) := by
        rw [List.mem_filter]
        refine ⟨hjm, List.all_eq_true.2 fun i hi => ?_⟩
        cases hx : Region.waitsFor .any ops j i with
        | false => rfl
        | true => exact absurd hj (waits_not_ready hx (hun i (.inr hi)))
      have h2 : RunQ P ops C (fun a' => wpOp P ops Q j (fun a' w' => C w' ∧ runX P ops C F k (crem.erase j) a' w') a' w) rem a := runQ_mono (fun a' h' => by
        rw [hk] at h'
        exact stepH_op (allP_mem h' j hfree)) rem a h
      have h3 := pull hsel hQ rem a hap h2
      have hrj : ∀ i, i ∈ rem → i ≠ j := fun i hi => hr.dis i hi j hjm
      have hel : (crem.erase j).length = k := by rw [List.length_erase_of_mem hjm]; omega
      have hem : ∀ i, i ∈ crem.erase j ↔ i ≠ j ∧ i ∈ crem := fun i => hr.nd.mem_erase_iff
      have hr2 : RemX ops n (listed.setIfInBounds j true) rem (crem.erase j) := by
        refine ⟨hr.inv.set hj hjn, fun i => ?_, hr.up, hr.plain, fun i hi k hk => hr.dis i hi k ((hem k).1 hk).2, hr.nd.erase j, hr.two, fun i hi k hk => hr.mix i hi k ((hem k).1 hk).2⟩
        by_cases hij : i = j
        · subst hij
          constructor
          · rintro (h3 | h3)
            · exact absurd rfl (hrj i h3)
            · exact absurd rfl ((hem i).1 h3).1
          · rintro ⟨_, h3⟩; simp [hsz] at h3
        · rw [getD_set_ne true (Ne.symm hij), ← hr.mem i, hem]
          simp [hij]
      refine wpOp_mono (fun a' w' h' => ?_) h3
      rw [← hel] at h'
      exact any_of_holdX hsel hQ hs hc hn hlow hend m rem (crem.erase j) _ _ w' (by omega) hr2 (fun i hi => getD_set_true' (hpl i hi)) (runQ_out (fun _ h => h.1) rem a' h') (runQ_mono (fun _ h => h.2) rem a' h')
end
def quietOfX (ops : Array Oper) (n : Nat) (pre late : List Nat) : List Nat := (List.range n).filter fun i => plainAt ops i && (!late.contains i && !pre.contains i)
def callsOfX (ops : Array Oper) (n : Nat) (pre late : List Nat) : List Nat := (List.range n).filter fun i => (!plainAt ops i || late.contains i) && !pre.contains i
def holdXB (ops : Array Oper) (n : Nat) (pre late : List Nat) : Bool :=
  Region.noSelect ops && decide (n < ops.size) && sinkPre ops n pre && Region.chainB .any ops n && lowB ops n && Region.seqB .any ops (ops.size - n) n (headed ops.size n) && preB ops pre (Array.replicate ops.size false) && pre.all (fun i => decide (i < n)) && decide (pre.length + ((quietOfX ops n pre late).length + (callsOfX ops n pre late).length) = n) &&
  (quietOfX ops n pre late).all (fun i => (quietOfX ops n pre late).all (fun j => decide (j ≤ i) || Region.waitsFor .any ops j i || apartAt ops i j) && (callsOfX ops n pre late).all (fun j => Region.waitsFor .any ops j i || apartAt ops i j))
theorem wp_region_holdX {P : Program} {C : World → Prop} {id : Nat} {Q : Exit → Act → World → Prop} {a : Act} {w : World} {l : List Oper} (n : Nat) (pre late is cs : List Nat) (hm : P.follows .mixedOrders = true) (hB : holdXB l.toArray n pre late = true) (his : pre ++ quietOfX l.toArray n pre late = is) (hcs : callsOfX l.toArray n pre late = cs)
    (hQ : ∀ (o : Oper) (v : Value) c a w, Q (.panic c) (a.put o.dst v) w → Q (.panic c) a w) (hC : C { w with drawn := w.drawn + 1 })
    (h : wpQuiet P l.toArray C (fun a' => ∀ w', C w' → runX P l.toArray C (fun a w => wpList P l.toArray Q (l.drop n) a w) cs.length cs a' w') (pickOps l is) a) : (Code.region id l.toArray true).wp P Q a w := by
  rw [← pickOps_eq] at h
  subst his hcs
  simp only [holdXB, Bool.and_eq_true, decide_eq_true_eq] at hB
  obtain ⟨⟨⟨⟨⟨⟨⟨⟨⟨hsel, hn⟩, hs⟩, hc⟩, hlow⟩, hq⟩, hpB⟩, hpn⟩, hlen⟩, hmx⟩ := hB
  have hn' : n < l.length := by simpa using hn
  have hpn' : ∀ i ∈ pre, i < n := fun i hi => by simpa using List.all_eq_true.1 hpn i hi
  have hdl : (l.drop n).length = l.toArray.size - n := by simp
  have hqm : ∀ i, i ∈ quietOfX l.toArray n pre late ↔ i < n ∧ plainAt l.toArray i = true ∧ i ∉ late ∧ i ∉ pre := fun i => by
    unfold quietOfX; rw [List.mem_filter, List.mem_range]; simp
  have hcm : ∀ i, i ∈ callsOfX l.toArray n pre late ↔ i < n ∧ (plainAt l.toArray i = false ∨ i ∈ late) ∧ i ∉ pre := fun i => by
    unfold callsOfX; rw [List.mem_filter, List.mem_range]; simp [Classical.or_iff_not_imp_left]
  have hrun := runQ_of_quiet (ops := l.toArray) (pre ++ quietOfX l.toArray n pre late) a (fun i hi => by
    rcases List.mem_append.1 hi with h1 | h1
    · have := hpn' i h1; omega
    · have := ((hqm i).1 h1).1; omega) h
  have hrun2 := runQ_append _ _ _ hrun
  have hinv0 : HeadInv .any l.toArray n (Array.replicate l.toArray.size false) :=
    ⟨by simp, fun j oj _ hl => (by rw [getD_replicate_false] at hl; cases hl), fun t _ ht => getD_in (by simpa using ht) (getD_replicate_false _ _)⟩
  have hmem : ∀ i, i < n → ((preL pre (Array.replicate l.toArray.size false)).getD i true = false ↔ i ∉ pre) := fun i hi => by
    rw [preL_false pre _ i (by simp; omega)]
    have : (Array.replicate l.toArray.size false).getD i true = false := getD_in (by simp; omega) (getD_replicate_false _ _)
    simp only [this, true_and]
  have hrem : RemX l.toArray n (preL pre (Array.replicate l.toArray.size false)) (quietOfX l.toArray n pre late) (callsOfX l.toArray n pre late) := by
    refine ⟨preL_inv pre _ hpB hpn' hinv0, fun i => ?_, ?_, fun i hi => ((hqm i).1 hi).2.1, fun i hi j hj e => by
      subst e
      have h1 := ((hqm i).1 hi).2
      rcases ((hcm i).1 hj).2.1 with h2 | h2
      · rw [h1.1] at h2; cases h2
      · exact h1.2.1 h2, ?_, fun i hi j hj hij => ?_, fun i hi j hj => ?_⟩
    · rw [hqm, hcm]
      constructor
      · rintro (⟨h1, _, _, h2⟩ | ⟨h1, _, h2⟩) <;> exact ⟨h1, (hmem i h1).2 h2⟩
      · rintro ⟨h1, h2⟩
        cases hp : plainAt l.toArray i with
        | true =>
          by_cases hl : i ∈ late
          · exact .inr ⟨h1, .inr hl, (hmem i h1).1 h2⟩
          · exact .inl ⟨h1, rfl, hl, (hmem i h1).1 h2⟩
        | false => exact .inr ⟨h1, .inl rfl, (hmem i h1).1 h2⟩
    · exact List.Pairwise.filter _ List.pairwise_lt_range
    · exact (List.nodup_range).filter _
    · have h1 := List.all_eq_true.1 hmx i hi
      rw [Bool.and_eq_true] at h1
      have h2 := List.all_eq_true.1 h1.1 j hj
      simp only [Bool.or_eq_true, decide_eq_true_eq] at h2
      rcases h2 with (h2 | h2) | h2
      · omega
      · exact .inl h2
      · exact .inr h2
    · have h1 := List.all_eq_true.1 hmx i hi
      rw [Bool.and_eq_true] at h1
      have h2 := List.all_eq_true.1 h1.2 j hj
      rwa [Bool.or_eq_true] at h2
  have hpl : ∀ i ∈ pre, (preL pre (Array.replicate l.toArray.size false)).getD i true = true := fun i hi => by
    have := hmem i (hpn' i hi)
    cases hx : (preL pre (Array.replicate l.toArray.size false)).getD i true with
    | true => rfl
    | false => exact absurd hi (this.1 hx)
  refine wp_region_any hm ?_
  have hall : ∀ a', RunQ P l.toArray C (fun a' => ∀ w', C w' → runX P l.toArray C (fun a w => wpList P l.toArray Q (l.drop n) a w) (callsOfX l.toArray n pre late).length (callsOfX l.toArray n pre late) a' w') (quietOfX l.toArray n pre late) a' → wpAny P .any l.toArray Q (((quietOfX l.toArray n pre late).length + (callsOfX l.toArray n pre late).length) + (l.toArray.size - n)) (preL pre (Array.replicate l.toArray.size false)) a' { w with drawn := w.drawn + 1 } := fun a' ha' =>
    any_of_holdX (pre := pre) (P := P) (C := C) (g := l.toArray.size - n) (Q := Q) (Region.noSelect_spec hsel) hQ hs hc hn hlow (fun a' w' hw' hF => by
      have := wpAny_of_seq (md := .any) (Q' := Q) (l.drop n) n _ a' w' (fun j => by simp [List.getElem?_drop]) (by rw [hdl]; exact hq) hF
      rwa [hdl] at this) _ (quietOfX l.toArray n pre late) (callsOfX l.toArray n pre late) _ a' _ rfl hrem hpl hC (runQ_mono (fun a'' h'' => h'' _ hC) _ _ ha')
  have := take_pre (C := C) hsel (fun o v c a w _ h => hQ o v c a w h) hC pre (Array.replicate l.toArray.size false) a hpB (runQ_mono hall pre a hrun2)
  rw [show pre.length + (((quietOfX l.toArray n pre late).length + (callsOfX l.toArray n pre late).length) + (l.toArray.size - n)) = l.toArray.size by omega] at this
  exact this
end Go.Proofs.Ytlopfkkegjajlaa
namespace Go.Proofs.Ytlopfkkegjajlaa
open Go.RowKit Go.Proofs.YtlopfkkegjajlaaW.PrintWords PHistoryTouched
theorem node_copy (n : S76) (h4 : n.f4.length ≤ 1048576) (h5 : n.f5.length ≤ 1048576) (h6 : n.f6.length ≤ 1048576) : topiaryref02_Node.f n.f0 n.f1 n.f2 n.f3 n.f4 n.f5 n.f6 = some (n.f0, n.f1, n.f2, n.f3, n.f4, n.f5, n.f6) := by
  simp only [topiaryref02_Node.f, Option.bind_some, List.length_nil, List.nil_append, Nat.zero_add]
  rw [if_pos (by omega), if_pos (by omega), if_pos (by omega)]
theorem refTwin_ev (nx : Int) (l : List S76) (hs : SmallL l) : Ev (fun k => topiaryref02_Twin.f k nx l) (nx, l) := by
  have key : ∀ (d i : Nat), i + d = l.length → Ev (fun k => topiaryref02_Twin.l0 k i nx l nx (l.take i)) (nx, l) := by
    intro d
    induction d with
    | zero =>
      intro i hi
      obtain rfl : i = l.length := by omega
      refine Ev.step (f := fun _ => some (nx, l)) (fun k => ?_) (Ev.now _)
      simp only [topiaryref02_Twin.l0]
      rw [if_neg (by omega), List.take_length]
    | succ d ih =>
      intro i hi
      refine Ev.step (f := fun k => topiaryref02_Twin.l0 k ((i + 1 : Nat) : Int) nx l nx (l.take (i + 1))) (fun k => ?_) (ih (i + 1) (by omega))
      have hn := hs.n
      simp only [topiaryref02_Twin.l0]
      rw [if_pos (by omega), if_pos (by omega), node_copy (rd_T76 l i) (hs.p i (by omega)) (hs.k i (by omega)) (hs.r i (by omega))]
      simp only [Option.bind_some]
      rw [if_pos (by rw [List.length_take]; omega), wrap_up (by omega), List.take_succ_eq_append_getElem (show i < l.length by omega)]
      congr 3
      simp [rd_T76, List.getD_eq_getElem?_getD, List.getElem?_eq_getElem (show i < l.length by omega)]
  have := key l.length 0 (by omega)
  simpa [topiaryref02_Twin.f] using this
theorem refTwin_any (nx : Int) (A : Option Addr) (l : List S76) (c : Nat) (w : World) (hr : Kd.C k76 w A l.length l) (hc : l.length ≤ c) (hs : SmallL l) :
    Calls Try.prog 10 #[.agg #[.int .i64 nx, .slice A l.length c]] w (TwinPost nx l w) := by
  obtain ⟨k, h⟩ := (refTwin_ev nx l hs).rounds
  refine (topiaryref02_Twin.calls k nx A c l nx l w hr hc h).mono ?_
  rintro e w' ⟨v, rfl, hv, hb⟩
  exact ⟨v, rfl, Kd.S_R hv, hb⟩
theorem great_some (l : List S27) : ∃ r, Ev (fun k => topiarylaw27_great.f k l) r := by
  have key : ∀ (d i : Nat), i + d = l.length → ∀ x : Int, ∃ r, Ev (fun k => topiarylaw27_great.l0 k l x i) r := by
    intro d
    induction d with
    | zero =>
      intro i hi x
      refine ⟨decide (x > 3000), Ev.step (f := fun k => topiarylaw27_great.j1 k l x i false) (fun k => ?_) (Ev.step (f := fun _ => some (decide (x > 3000))) (fun k => ?_) (Ev.now _))⟩
      · simp only [topiarylaw27_great.l0]; rw [if_neg (by omega)]
      · simp [topiarylaw27_great.j1]
    | succ d ih =>
      intro i hi x
      have hj1 : ∃ r, Ev (fun k => topiarylaw27_great.j1 k l x i (decide ((i : Int) < 1000))) r := by
        by_cases h : (i : Int) < 1000
        · rw [decide_eq_true h]
          have hl1 : ∀ (e j : Nat), j + e = 1000 → ∀ y : Int, ∃ r, Ev (fun k => topiarylaw27_great.l1 k l y i j) r := by
            intro e
            induction e with
            | zero =>
              intro j hj y
              obtain ⟨r, hr⟩ := ih (i + 1) (by omega) y
              refine ⟨r, Ev.step (fun k => ?_) hr⟩
              simp only [topiarylaw27_great.l1]
              have hwi : wrap64 ((i : Int) + 1) = ((i + 1 : Nat) : Int) := wrap_up (by omega)
              rw [if_pos (by omega), if_pos (by omega), hwi]
              split
              · rw [if_neg (by omega)]
              · rfl
            | succ e ih2 =>
              intro j hj y
              by_cases hlt : (j : Int) < ((rd_T27 l i).f1.length : Int)
              · obtain ⟨r, hr⟩ := ih2 (j + 1) (by omega) (wrap64 ((wrap64 (y + 1)) + (mn 1000 (wrap64 ((wrap64 ((((rd_T76 ((rd_T27 l i).f1) j).f4).length : Int) + (((rd_T76 ((rd_T27 l i).f1) j).f6).length : Int))) + (wrap64 ((((rd_T76 ((rd_T27 l i).f1) j).f5).length : Int) / 8)))))))
                refine ⟨r, Ev.step (fun k => ?_) hr⟩
                simp only [topiarylaw27_great.l1]
                rw [if_pos (by omega), if_pos (by omega), if_pos hlt, if_pos (by omega), if_pos (by omega), wrap_up (i := j) (by omega)]
              · obtain ⟨r, hr⟩ := ih (i + 1) (by omega) y
                refine ⟨r, Ev.step (fun k => ?_) hr⟩
                simp only [topiarylaw27_great.l1]
                rw [if_pos (by omega), if_pos (by omega), if_neg hlt, wrap_up (i := i) (by omega)]
          have hj2 : ∀ y : Int, ∃ r, Ev (fun k => topiarylaw27_great.j2 k l y i) r := fun y => by
            obtain ⟨r, hr⟩ := hl1 1000 0 (by omega) y
            exact ⟨r, Ev.step (f := fun k => topiarylaw27_great.l1 k l y i 0) (fun k => by simp only [topiarylaw27_great.j2]) hr⟩
          by_cases hb : (((rd_T27 l i).f1).length : Int) > 1000
          · obtain ⟨r, hr⟩ := hj2 (wrap64 ((wrap64 (x + (((rd_T27 l i).f1).length : Int))) - 1000))
            refine ⟨r, Ev.step (fun k => ?_) hr⟩
            simp only [topiarylaw27_great.j1]
            rw [if_pos trivial, if_pos (by omega), if_pos (by omega), if_pos hb]
          · obtain ⟨r, hr⟩ := hj2 x
            refine ⟨r, Ev.step (fun k => ?_) hr⟩
            simp only [topiarylaw27_great.j1]
            rw [if_pos trivial, if_pos (by omega), if_pos (by omega), if_neg hb]
        · rw [decide_eq_false h]
          exact ⟨decide (x > 3000), Ev.step (f := fun _ => some (decide (x > 3000))) (fun k => by simp [topiarylaw27_great.j1]) (Ev.now _)⟩
      obtain ⟨r, hr⟩ := hj1
      exact ⟨r, Ev.step (fun k => by simp only [topiarylaw27_great.l0]; rw [if_pos (by omega)]) hr⟩
  exact key l.length 0 (by omega) 0
theorem great_any (A : Option Addr) (l : List S27) (c : Nat) (w : World) (hr : Kd.C k27 w A l.length l) (hc : l.length ≤ c) :
    ∃ r : Bool, Calls Try.prog 9 #[.slice A l.length c] w fun e w' => e = .returned (.bool r) ∧ Below w.heap.size w w' := by
  obtain ⟨r, h⟩ := great_some l
  obtain ⟨k, h⟩ := h.rounds
  exact ⟨r, topiarylaw27_great.calls k A c l r w hr hc h⟩
structure RefR (W : World) (D : Nat → Prop) (qb : Nat) (ah : List S27) (h : S27) (be : List S27) : Prop where
  ex : ∃ A1 c1 A2 c2 A3 c3, W.heap[qb]? = some (refO A1 ah.length c1 h.f0 A2 h.f1.length c2 A3 be.length c3) ∧ ah.length ≤ c1 ∧ h.f1.length ≤ c2 ∧ be.length ≤ c3 ∧
    Kd.F k27 W D A1 ah.length ah ∧ Kd.F k76 W D A2 h.f1.length h.f1 ∧ Kd.F k27 W D A3 be.length be
theorem RefR.step {W W' : World} {D : Nat → Prop} {qb : Nat} {ah be : List S27} {h : S27} (hr : RefR W D qb ah h be) (hq : W'.heap[qb]? = W.heap[qb]?) (hD : ∀ k, D k → k < W.heap.size → W'.heap[k]? = W.heap[k]?) : RefR W' D qb ah h be := by
  obtain ⟨A1, c1, A2, c2, A3, c3, h0, l1, l2, l3, f1, f2, f3⟩ := hr.ex
  exact ⟨A1, c1, A2, c2, A3, c3, hq.trans h0, l1, l2, l3, Kd.F_step f1 hD, Kd.F_step f2 hD, Kd.F_step f3 hD⟩
theorem RefR.below {W W' : World} {D : Nat → Prop} {qb : Nat} {ah be : List S27} {h : S27} (hr : RefR W D qb ah h be) (hb : Below W.heap.size W W') : RefR W' D qb ah h be :=
  hr.step (by
    obtain ⟨A1, c1, A2, c2, A3, c3, h0, _⟩ := hr.ex
    exact hb.block qb (blk_lt h0)) (fun k _ hk => hb.block k hk)
theorem RefR.mono {W : World} {D D' : Nat → Prop} {qb : Nat} {ah be : List S27} {h : S27} (hr : RefR W D qb ah h be) (hD : ∀ k, k < W.heap.size → D k → D' k) : RefR W D' qb ah h be := by
  obtain ⟨A1, c1, A2, c2, A3, c3, h0, l1, l2, l3, f1, f2, f3⟩ := hr.ex
  exact ⟨A1, c1, A2, c2, A3, c3, h0, l1, l2, l3, Kd.F_mono (Kd.F_bound f1) (fun k hk => hD k hk.2 hk.1), Kd.F_mono (Kd.F_bound f2) (fun k hk => hD k hk.2 hk.1), Kd.F_mono (Kd.F_bound f3) (fun k hk => hD k hk.2 hk.1)⟩
end Go.Proofs.Ytlopfkkegjajlaa
namespace Go.Proofs.Ytlopfkkegjajlaa
open Go.RowKit Go.Proofs.YtlopfkkegjajlaaW.PrintWords PHistoryTouched
structure RefC (W : World) (D : Nat → Prop) (qb : Nat) (ah : List S27) (h : S27) (be : List S27) (A1 : Option Addr) (c1 : Nat) (A2 : Option Addr) (c2 : Nat) (A3 : Option Addr) (c3 : Nat) : Prop where
  blk : W.heap[qb]? = some (refO A1 ah.length c1 h.f0 A2 h.f1.length c2 A3 be.length c3)
  l1 : ah.length ≤ c1
  l2 : h.f1.length ≤ c2
  l3 : be.length ≤ c3
  f1 : Kd.F k27 W D A1 ah.length ah
  f2 : Kd.F k76 W D A2 h.f1.length h.f1
  f3 : Kd.F k27 W D A3 be.length be
theorem RefC.below {W W' : World} {D : Nat → Prop} {qb : Nat} {ah be : List S27} {h : S27} {A1 A2 A3 : Option Addr} {c1 c2 c3 : Nat} (hr : RefC W D qb ah h be A1 c1 A2 c2 A3 c3) (hb : Below W.heap.size W W') : RefC W' D qb ah h be A1 c1 A2 c2 A3 c3 :=
  ⟨blk_below hr.blk hb, hr.l1, hr.l2, hr.l3, Kd.F_below hr.f1 hb, Kd.F_below hr.f2 hb, Kd.F_below hr.f3 hb⟩
end Go.Proofs.Ytlopfkkegjajlaa
namespace Go.Proofs.Ytlopfkkegjajlaa
open Go.RowKit Go.Proofs.YtlopfkkegjajlaaW.PrintWords PHistoryTouched
def ahead (ah : List S27) (h : S27) : List S27 := if 64 < (ah ++ [h]).length then (ah ++ [h]).drop 1 else ah ++ [h]
end Go.Proofs.Ytlopfkkegjajlaa
namespace Go.Proofs.Ytlopfkkegjajlaa
open Go.RowKit Go.Proofs.YtlopfkkegjajlaaW.PrintWords PHistoryTouched
def PastR (W : World) (D : Nat → Prop) (pb : Nat) (ms : List S27) (now : Nat) : Prop :=
  ∃ ad c, W.heap[pb]? = some (pastO (some ad) ms.length c now) ∧ ms.length ≤ c ∧ Kd.F k27 W D (some ad) ms.length ms
theorem PastR.lt {W : World} {D : Nat → Prop} {pb : Nat} {ms : List S27} {now : Nat} (h : PastR W D pb ms now) : pb < W.heap.size := by
  obtain ⟨ad, c, hb, _⟩ := h
  exact blk_lt hb
theorem RefR.lt {W : World} {D : Nat → Prop} {qb : Nat} {ah be : List S27} {h : S27} (hr : RefR W D qb ah h be) : qb < W.heap.size := by
  obtain ⟨A1, c1, A2, c2, A3, c3, h0, _⟩ := hr.ex
  exact blk_lt h0
theorem PastR.step {W W' : World} {D : Nat → Prop} {pb : Nat} {ms : List S27} {now : Nat} (h : PastR W D pb ms now) (hp : W'.heap[pb]? = W.heap[pb]?) (hD : ∀ k, D k → k < W.heap.size → W'.heap[k]? = W.heap[k]?) : PastR W' D pb ms now := by
  obtain ⟨ad, c, hb, hc, hF⟩ := h
  exact ⟨ad, c, hp.trans hb, hc, Kd.F_step hF hD⟩
theorem PastR.mono {W : World} {D D' : Nat → Prop} {pb : Nat} {ms : List S27} {now : Nat} (h : PastR W D pb ms now) (hD : ∀ k, k < W.heap.size → D k → D' k) : PastR W D' pb ms now := by
  obtain ⟨ad, c, hb, hc, hF⟩ := h
  exact ⟨ad, c, hb, hc, Kd.F_mono (Kd.F_bound hF) (fun k hk => hD k hk.2 hk.1)⟩
theorem PastR.below {W W' : World} {D : Nat → Prop} {pb : Nat} {ms : List S27} {now : Nat} (h : PastR W D pb ms now) (hb : Below W.heap.size W W') : PastR W' D pb ms now :=
  h.step (hb.block pb h.lt) (fun k _ hk => hb.block k hk)
end Go.Proofs.Ytlopfkkegjajlaa
namespace Go.Proofs.Ytlopfkkegjajlaa
open Go.RowKit Go.Proofs.YtlopfkkegjajlaaW.PrintWords PHistoryTouched
def kP : Kd Nat := Kd.scalar (fun b : Nat => Value.pointer (some ⟨b, 0, none⟩)) (fun _ => rfl)
theorem ShpM.move {W W' : World} {S S' : Nat → Prop} {A : Option Addr} {n : Nat} (h : ShpM W S A n) (hS : ∀ k, S k → S' k) (hm : ∀ k, S k → W'.heap[k]? = W.heap[k]?) : ShpM W' S' A n := by
  have hr : ∀ e sz v, RowS W S e sz v → RowS W' S' e sz v := fun e sz v ⟨A, n, c, h1, h2, h3⟩ => ⟨A, n, c, h1, h2, fun h0 => by
    obtain ⟨b, cs, g1, g2, g3, g4⟩ := h3 h0
    exact ⟨b, cs, g1, hS b g2, (hm b g2).trans g3, g4⟩⟩
  refine ⟨h.1, fun h0 => ?_⟩
  obtain ⟨g, cur, hA, hs⟩ := h.2 h0
  exact ⟨g, cur, hA, hS g hs.s, (hm g hs.s).trans hs.blk, hs.size, fun j h1 h2 => hr _ _ _ (hs.r4 j h1 h2), fun j h1 h2 => hr _ _ _ (hs.r5 j h1 h2), fun j h1 h2 => hr _ _ _ (hs.r6 j h1 h2)⟩
theorem PastR.wr {W W' : World} {D S : Nat → Prop} {pb : Nat} {ms : List S27} {now : Nat} (h : PastR W D pb ms now) (hw : Wr S W W') (hp : ¬ S pb) (hD : ∀ k, D k → k < W.heap.size → ¬ S k) : PastR W' D pb ms now :=
  h.step (hw.block pb h.lt hp) (fun k hk hlt => hw.block k hlt (hD k hk hlt))
theorem RefR.wr {W W' : World} {D S : Nat → Prop} {qb : Nat} {ah be : List S27} {h : S27} (hr : RefR W D qb ah h be) (hw : Wr S W W') (hq : ¬ S qb) (hD : ∀ k, D k → k < W.heap.size → ¬ S k) : RefR W' D qb ah h be :=
  hr.step (hw.block qb hr.lt hq) (fun k hk hlt => hw.block k hlt (hD k hk hlt))
def OldOK (W : World) (D : Nat → Prop) (o : Nat × Nat) : Prop :=
  D o.1 ∧ D o.2 ∧ ∃ ah h be, (ah ++ h :: be).length ≤ 65 ∧ (∀ m ∈ ah ++ h :: be, SmallL m.f1) ∧ PastR W D o.1 (ah ++ h :: be) ah.length ∧ RefR W D o.2 ah h be
theorem OldOK.move {W W' : World} {D D' : Nat → Prop} {o : Nat × Nat} (h : OldOK W D o) (hm : ∀ k, D k → k < W.heap.size → W'.heap[k]? = W.heap[k]?) (hD : ∀ k, D k → D' k) : OldOK W' D' o := by
  obtain ⟨h1, h2, ah, hh, be, h3, h4, h5, h6⟩ := h
  exact ⟨hD _ h1, hD _ h2, ah, hh, be, h3, h4, (h5.step (hm _ h1 h5.lt) hm).mono (fun k _ hk => hD k hk), (h6.step (hm _ h2 h6.lt) hm).mono (fun k _ hk => hD k hk)⟩
structure AP (w0 W : World) (D : Nat → Prop) (pb qb : Nat) (ah : List S27) (h : S27) (be : List S27) : Prop where
  b : Below w0.heap.size w0 W
  lt : ∀ k, D k → k < W.heap.size
  nP : ¬ D pb
  nQ : ¬ D qb
  ne : pb ≠ qb
  gp : w0.heap.size ≤ pb
  gq : w0.heap.size ≤ qb
  len : (ah ++ h :: be).length ≤ 65
  sm : ∀ m ∈ ah ++ h :: be, SmallL m.f1
  past : PastR W D pb (ah ++ h :: be) ah.length
  ref : RefR W D qb ah h be
abbrev LP (w0 W : World) (D : Nat → Prop) (pb qb : Nat) (e : Nat) (v : Value) (xs : List Nat) : Prop := Kd.N kP e W w0.heap.size (fun k => ¬ D k ∧ k ≠ pb ∧ k ≠ qb) v xs
structure AI (w0 W : World) (D : Nat → Prop) (pb qb : Nat) (ah : List S27) (h : S27) (be : List S27) (os ws : Value) (ol : List (Nat × Nat)) : Prop where
  p : AP w0 W D pb qb ah h be
  os : LP w0 W D pb qb 29 os (ol.map Prod.fst)
  ws : LP w0 W D pb qb 33 ws (ol.map Prod.snd)
  olds : ∀ o ∈ ol, OldOK W D o
theorem AP.below {w0 W W' : World} {D : Nat → Prop} {pb qb : Nat} {ah : List S27} {h : S27} {be : List S27} (I : AP w0 W D pb qb ah h be) (hb : Below W.heap.size W W') : AP w0 W' D pb qb ah h be :=
  ⟨below_step I.b hb, fun k hk => Nat.lt_of_lt_of_le (I.lt k hk) hb.size, I.nP, I.nQ, I.ne, I.gp, I.gq, I.len, I.sm, I.past.below hb, I.ref.below hb⟩
theorem AI.below {w0 W W' : World} {D : Nat → Prop} {pb qb : Nat} {ah : List S27} {h : S27} {be : List S27} {os ws : Value} {ol : List (Nat × Nat)} (I : AI w0 W D pb qb ah h be os ws ol) (hb : Below W.heap.size W W') : AI w0 W' D pb qb ah h be os ws ol :=
  ⟨I.p.below hb, Kd.N_below I.os hb, Kd.N_below I.ws hb, fun o ho => (I.olds o ho).move (fun k _ hlt => hb.block k hlt) (fun _ h => h)⟩
theorem AP.grown {w0 W W' : World} {D : Nat → Prop} {pb qb : Nat} {ah : List S27} {h : S27} {be : List S27} {e : Nat} {v : Value} {xs : List Nat} (I : AP w0 W D pb qb ah h be) (L : LP w0 W D pb qb e v xs) (hg : W.grownBy W' v.ownBlock) (hb : Below w0.heap.size w0 W') : AP w0 W' D pb qb ah h be := by
  have hmv : ∀ k, D k → k < W.heap.size → W'.heap[k]? = W.heap[k]? := fun k hk hlt => hg.block k hlt (fun e => (L.1 k e.symm).1 hk)
  refine ⟨hb, fun k hk => Nat.lt_of_lt_of_le (I.lt k hk) hg.size, I.nP, I.nQ, I.ne, I.gp, I.gq, I.len, I.sm, I.past.step (hg.block pb I.past.lt (fun e => (L.1 _ e.symm).2.1 rfl)) hmv, I.ref.step (hg.block qb I.ref.lt (fun e => (L.1 _ e.symm).2.2 rfl)) hmv⟩
theorem OldOK.grown {w0 W W' : World} {D : Nat → Prop} {pb qb : Nat} {e : Nat} {v : Value} {xs : List Nat} {o : Nat × Nat} (h : OldOK W D o) (L : LP w0 W D pb qb e v xs) (hg : W.grownBy W' v.ownBlock) : OldOK W' D o :=
  h.move (fun k hk hlt => hg.block k hlt (fun e => (L.1 k e.symm).1 hk)) (fun _ h => h)
end Go.Proofs.Ytlopfkkegjajlaa
namespace Go.Proofs.Ytlopfkkegjajlaa
open Go.RowKit Go.ChangeShapes Go.WideShapes Go.Deep Go.Proofs.YtlopfkkegjajlaaW.PrintWords PHistoryTouched
def RdK {α : Type} (d : Kd α) (t : TypeId) (Q : α → Prop) : Prop :=
  ∀ {H : Type} (enc : TypeId × Value → H) (W : World) (n : Nat) (cs : List Value) (x : DataW H × List MemPlace),
    DataW.trod enc Try.prog W 0 (fun _ => true) true n t cs = some x → Rows.uptoBulk x.1 ≤ 1048576 → ∃ a : α, d.K W a cs ∧ Q a
theorem i64_of_wf {z : Int} (h : (Lit.int .i64 z).wf = true) : I64 z := by
  simp [Lit.wf, IntKind.min, IntKind.max, IntKind.signed, IntKind.bits] at h
  constructor <;> omega
theorem rd_int : RdK (Kd.int .i64) 3 I64 := by
  intro H enc W n cs x h _
  obtain ⟨z, rfl, rfl, hw⟩ := DataW.trod_int Try.underlying3 h
  exact ⟨z, rfl, i64_of_wf hw⟩
theorem rd_string : RdK Kd.string 9 (fun s => s.size ≤ 1048576) := by
  intro H enc W n cs x h hb
  obtain ⟨s, rfl, rfl, _⟩ := DataW.trod_string Try.underlying9 h
  have h1 : Rows.uptoBulk (DataW.lit (H := H) (.string s.data.toList)) = s.data.toList.length + 1 := bulks.string_eq _
  refine ⟨s, rfl, ?_⟩
  have h2 : s.data.toList.length = s.size := Array.length_toList
  rw [h1] at hb
  omega
theorem rd_slice {α : Type} {d : Kd α} {t e : TypeId} {Q : α → Prop} (ht : Try.prog.underlying t = some (.slice e)) (hc : Try.prog.cellsOf e = d.sz) (hd : RdK d e Q) (z : α) (e' : Nat) : RdK (Kd.slice e' d) t (fun xs => xs.length ≤ 1048576 ∧ ∀ a ∈ xs, Q a) := by
  intro H enc W n cs x h hb
  rcases open_slice ht h with ⟨rfl, rfl⟩ | ⟨a, len, cap, m, n', D, Pl, rfl, _, hl, _, hmm, rfl, hx⟩
  · exact ⟨[], ⟨none, 0, rfl, Nat.le_refl _, rfl, Nat.zero_le _, fun h => absurd h (Nat.lt_irrefl _)⟩, Nat.zero_le _, fun a ha => by cases ha⟩
  · have hlm : len ≤ m := by rw [hmm]; simpa using hl
    have hb1 := bulks.slice_elems ((List.range len).map D) ((List.range (m - len)).map fun j => D (len + j))
    have hb2 := bulks.slice_le ((List.range len).map D) ((List.range (m - len)).map fun j => D (len + j))
    have hb' : Rows.uptoBulk (DataW.slice ((List.range len).map D) ((List.range (m - len)).map fun j => D (len + j))) ≤ 1048576 := hb
    simp only [List.length_map, List.length_range] at hb2
    haveI : Inhabited α := ⟨z⟩
    obtain ⟨f, hf⟩ := choose_lt (n := len) (p := fun i y => (∃ cs', W.cells? 0 (a.add (i * Try.prog.cellsOf e)) (Try.prog.cellsOf e) = some cs' ∧ d.K W y cs') ∧ Q y) (fun i hi => by
      obtain ⟨cs', h1, h2⟩ := hx i (Nat.lt_of_lt_of_le hi hlm)
      obtain ⟨y, hy, hQ⟩ := hd enc W n' cs' _ h2 (by
        have := bulks.part_le (d := D i) (l := (List.range len).map D) (List.mem_map.2 ⟨i, List.mem_range.2 hi, rfl⟩)
        show Rows.uptoBulk (D i) ≤ _
        omega)
      exact ⟨y, ⟨cs', h1, hy⟩, hQ⟩)
    have hlen : ((List.range len).map f).length = len := by simp
    refine ⟨(List.range len).map f, ⟨some a, cap, by rw [hlen], by rw [hlen]; exact hl, rfl, by rw [hlen]; omega, fun _ => ⟨a, rfl, fun j p hj => ?_⟩⟩, by rw [hlen]; omega, fun y hy => ?_⟩
    · have hjl : j < len := by
        have := (List.getElem?_eq_some_iff.1 hj).1
        rwa [hlen] at this
      have hp : f j = p := by simpa [hjl] using hj
      obtain ⟨⟨cs', h1, h2⟩, _⟩ := hf j hjl
      rw [hc] at h1
      obtain ⟨_, h3, h4⟩ := World.cells?_some h1
      rw [hp] at h2
      refine ⟨cs', h3, h2, fun i u hu => ?_⟩
      have hi : i < d.sz := by
        have := (List.getElem?_eq_some_iff.1 hu).1
        omega
      have h5 := h4 i hi
      rw [hu, Go.Deep.add_add] at h5
      exact h5
    · obtain ⟨i, hi, rfl⟩ := List.mem_map.1 hy
      exact (hf i (List.mem_range.1 hi)).2
theorem rd_field {H : Type} {enc : TypeId × Value → H} {W : World} {n : Nat} {xs : List (DataW H × List MemPlace)} {i : Nat} {α : Type} {d : Kd α} {t : TypeId} {Q : α → Prop} {cs : List Value} (hd : RdK d t Q)
    (h : DataW.trod enc Try.prog W 0 (fun _ => true) true n t cs = xs[i]?) (hi : i < xs.length) (hb : Rows.uptoBulk (DataW.agg (xs.map (·.1))) ≤ 1048576) : ∃ a, d.K W a cs ∧ Q a := by
  rw [List.getElem?_eq_getElem hi] at h
  refine hd enc W n cs _ h ?_
  have h1 : Rows.uptoBulk (DataW.agg (xs.map (·.1))) = Rows.uptoBulkAll (xs.map (·.1)) + 1 := by simp only [Rows.uptoBulk]
  have h2 := bulks.part_le (d := (xs[i]).1) (l := xs.map (·.1)) (List.mem_map.2 ⟨_, List.getElem_mem hi, rfl⟩)
  omega
theorem cells27 : Try.prog.cellsOf 27 = 2 := by kernel_rfl
theorem cells76 : Try.prog.cellsOf 76 = 7 := by kernel_rfl
theorem cells82 : Try.prog.cellsOf 82 = 2 := by kernel_rfl
theorem cells84 : Try.prog.cellsOf 84 = 2 := by kernel_rfl
theorem cells3 : Try.prog.cellsOf 3 = 1 := by kernel_rfl
theorem cells9 : Try.prog.cellsOf 9 = 1 := by kernel_rfl
theorem cells73 : Try.prog.cellsOf 73 = 1 := by kernel_rfl
theorem cells54 : Try.prog.cellsOf 54 = 1 := by kernel_rfl
theorem cells74 : Try.prog.cellsOf 74 = 1 := by kernel_rfl
theorem cells25 : Try.prog.cellsOf 25 = 1 := by kernel_rfl
theorem two_cells {cs : List Value} {a b : Value} (hl : cs.length = 2) (h0 : (cs.drop 0).take 1 = [a]) (h1 : (cs.drop 1).take 1 = [b]) : cs = [a, b] := by
  match cs, hl with
  | [x, y], _ => simp at h0 h1; rw [h0, h1]
theorem rd_82 : RdK k82 82 (fun _ => True) := by
  intro H enc W n cs x h hb
  obtain ⟨xs, n', rfl, rfl, hl, hxl, hf⟩ := DataW.trod_struct Try.underlying82 h
  have hxl' : xs.length = 2 := hxl
  rw [cells82] at hl
  have f0 : DataW.trod enc Try.prog W 0 (fun _ => true) true n' 9 ((cs.drop 0).take (Try.prog.cellsOf 9)) = xs[0]? := hf 0 _ rfl
  have f1 : DataW.trod enc Try.prog W 0 (fun _ => true) true n' 9 ((cs.drop 1).take (Try.prog.cellsOf 9)) = xs[1]? := hf 1 _ rfl
  simp only [cells9] at f0 f1
  obtain ⟨s0, hs0, _⟩ := rd_field rd_string f0 (by omega) hb
  obtain ⟨s1, hs1, _⟩ := rd_field rd_string f1 (by omega) hb
  obtain rfl := two_cells hl hs0 hs1
  exact ⟨⟨s0, s1⟩, k82_mk W ⟨s0, s1⟩, trivial⟩
theorem rd_84 : RdK k84 84 (fun _ => True) := by
  intro H enc W n cs x h hb
  obtain ⟨xs, n', rfl, rfl, hl, hxl, hf⟩ := DataW.trod_struct Try.underlying84 h
  have hxl' : xs.length = 2 := hxl
  rw [cells84] at hl
  have f0 : DataW.trod enc Try.prog W 0 (fun _ => true) true n' 9 ((cs.drop 0).take (Try.prog.cellsOf 9)) = xs[0]? := hf 0 _ rfl
  have f1 : DataW.trod enc Try.prog W 0 (fun _ => true) true n' 3 ((cs.drop 1).take (Try.prog.cellsOf 3)) = xs[1]? := hf 1 _ rfl
  simp only [cells9, cells3] at f0 f1
  obtain ⟨s0, hs0, _⟩ := rd_field rd_string f0 (by omega) hb
  obtain ⟨s1, hs1, _⟩ := rd_field rd_int f1 (by omega) hb
  obtain rfl := two_cells hl hs0 hs1
  exact ⟨⟨s0, s1⟩, k84_mk W ⟨s0, s1⟩, trivial⟩
theorem seven_cells {cs : List Value} {a b c d e f g : Value} (hl : cs.length = 7) (h0 : (cs.drop 0).take 1 = [a]) (h1 : (cs.drop 1).take 1 = [b]) (h2 : (cs.drop 2).take 1 = [c]) (h3 : (cs.drop 3).take 1 = [d])
    (h4 : (cs.drop 4).take 1 = [e]) (h5 : (cs.drop 5).take 1 = [f]) (h6 : (cs.drop 6).take 1 = [g]) : cs = [a, b, c, d, e, f, g] := by
  match cs, hl with
  | [x0, x1, x2, x3, x4, x5, x6], _ =>
    simp only [List.drop_zero, List.drop_succ_cons, List.take_succ_cons, List.take_zero, List.cons.injEq, and_true] at h0 h1 h2 h3 h4 h5 h6
    rw [h0, h1, h2, h3, h4, h5, h6]
structure NodeIn (x : S76) : Prop where
  id : I64 x.f0
  par : I64 x.f2
  kids : ∀ z ∈ x.f5, I64 z
  n4 : x.f4.length ≤ 1048576
  n5 : x.f5.length ≤ 1048576
  n6 : x.f6.length ≤ 1048576
theorem rd_76 : RdK k76 76 NodeIn := by
  intro H enc W n cs x h hb
  obtain ⟨xs, n', rfl, rfl, hl, hxl, hf⟩ := DataW.trod_struct Try.underlying76 h
  have hxl' : xs.length = 7 := hxl
  rw [cells76] at hl
  have f0 : DataW.trod enc Try.prog W 0 (fun _ => true) true n' 3 ((cs.drop 0).take (Try.prog.cellsOf 3)) = xs[0]? := hf 0 _ rfl
  have f1 : DataW.trod enc Try.prog W 0 (fun _ => true) true n' 9 ((cs.drop 1).take (Try.prog.cellsOf 9)) = xs[1]? := hf 1 _ rfl
  have f2 : DataW.trod enc Try.prog W 0 (fun _ => true) true n' 3 ((cs.drop 2).take (Try.prog.cellsOf 3)) = xs[2]? := hf 2 _ rfl
  have f3 : DataW.trod enc Try.prog W 0 (fun _ => true) true n' 9 ((cs.drop 3).take (Try.prog.cellsOf 9)) = xs[3]? := hf 3 _ rfl
  have f4 : DataW.trod enc Try.prog W 0 (fun _ => true) true n' 73 ((cs.drop 4).take (Try.prog.cellsOf 73)) = xs[4]? := hf 4 _ rfl
  have f5 : DataW.trod enc Try.prog W 0 (fun _ => true) true n' 54 ((cs.drop 5).take (Try.prog.cellsOf 54)) = xs[5]? := hf 5 _ rfl
  have f6 : DataW.trod enc Try.prog W 0 (fun _ => true) true n' 74 ((cs.drop 6).take (Try.prog.cellsOf 74)) = xs[6]? := hf 6 _ rfl
  simp only [cells3, cells9, cells73, cells54, cells74] at f0 f1 f2 f3 f4 f5 f6
  obtain ⟨s0, hs0, h0⟩ := rd_field rd_int f0 (by omega) hb
  obtain ⟨s1, hs1, _⟩ := rd_field rd_string f1 (by omega) hb
  obtain ⟨s2, hs2, h2⟩ := rd_field rd_int f2 (by omega) hb
  obtain ⟨s3, hs3, _⟩ := rd_field rd_string f3 (by omega) hb
  obtain ⟨s4, ⟨A4, c4, hs4, hc4, g4⟩, h4, _⟩ := rd_field (rd_slice Try.underlying73 cells82 rd_82 z82 82) f4 (by omega) hb
  obtain ⟨s5, ⟨A5, c5, hs5, hc5, g5⟩, h5, h5'⟩ := rd_field (rd_slice Try.underlying54 cells3 rd_int 0 3) f5 (by omega) hb
  obtain ⟨s6, ⟨A6, c6, hs6, hc6, g6⟩, h6, _⟩ := rd_field (rd_slice Try.underlying74 cells84 rd_84 z84 84) f6 (by omega) hb
  have hcs : cs = [.int .i64 s0, .string s1, .int .i64 s2, .string s3, .slice A4 s4.length c4, .slice A5 s5.length c5, .slice A6 s6.length c6] := by
    have e0 : (cs.drop 0).take 1 = [.int .i64 s0] := hs0
    have e1 : (cs.drop 1).take 1 = [.string s1] := hs1
    have e2 : (cs.drop 2).take 1 = [.int .i64 s2] := hs2
    have e3 : (cs.drop 3).take 1 = [.string s3] := hs3
    exact seven_cells hl e0 e1 e2 e3 hs4 hs5 hs6
  refine ⟨⟨s0, s1, s2, s3, s4, s5, s6⟩, ?_, ⟨h0, h2, h5', h4, h5, h6⟩⟩
  rw [hcs]
  exact k76_mk W ⟨s0, s1, s2, s3, s4, s5, s6⟩ hc4 g4 hc5 g5 hc6 g6
structure ModelIn (m : S27) : Prop where
  nx : I64 m.f0
  n : m.f1.length ≤ 1048576
  nodes : ∀ x ∈ m.f1, NodeIn x
theorem rd_27 : RdK k27 27 ModelIn := by
  intro H enc W n cs x h hb
  obtain ⟨xs, n', rfl, rfl, hl, hxl, hf⟩ := DataW.trod_struct Try.underlying27 h
  have hxl' : xs.length = 2 := hxl
  rw [cells27] at hl
  have f0 : DataW.trod enc Try.prog W 0 (fun _ => true) true n' 3 ((cs.drop 0).take (Try.prog.cellsOf 3)) = xs[0]? := hf 0 _ rfl
  have f1 : DataW.trod enc Try.prog W 0 (fun _ => true) true n' 25 ((cs.drop 1).take (Try.prog.cellsOf 25)) = xs[1]? := hf 1 _ rfl
  simp only [cells3, cells25] at f0 f1
  obtain ⟨s0, hs0, h0⟩ := rd_field rd_int f0 (by omega) hb
  obtain ⟨s1, ⟨A1, c1, hs1, hc1, g1⟩, h1, h1'⟩ := rd_field (rd_slice Try.underlying25 cells76 rd_76 z76 76) f1 (by omega) hb
  obtain rfl := two_cells hl hs0 hs1
  exact ⟨⟨s0, s1⟩, k27_mk W ⟨s0, s1⟩ hc1 g1, ⟨h0, h1, h1'⟩⟩
theorem rd76_mem {l : List S76} {j : Nat} (hj : j < l.length) : rd_T76 l j ∈ l := by
  have : rd_T76 l j = l[j] := by simp [rd_T76, List.getD_eq_getElem?_getD, List.getElem?_eq_getElem hj]
  rw [this]; exact List.getElem_mem hj
theorem ModelIn.small {m : S27} (h : ModelIn m) : SmallL m.f1 :=
  ⟨h.n, fun _ hj => (h.nodes _ (rd76_mem hj)).n4, fun _ hj => (h.nodes _ (rd76_mem hj)).n5, fun _ hj => (h.nodes _ (rd76_mem hj)).n6⟩
theorem ModelIn.wf {m : S27} (h : ModelIn m) : WfL m.f1 := fun i hi => ⟨(h.nodes _ (rd76_mem hi)).par, fun j hj => by
  have hm := h.nodes _ (rd76_mem hi)
  refine hm.kids _ ?_
  have : rd (rd_T76 m.f1 i).f5 j = (rd_T76 m.f1 i).f5[j] := by simp [rd, List.getD_eq_getElem?_getD, List.getElem?_eq_getElem hj]
  rw [this]; exact List.getElem_mem hj⟩
end Go.Proofs.Ytlopfkkegjajlaa
namespace Go.Proofs.Ytlopfkkegjajlaa
open Go.RowKit Go.Proofs.YtlopfkkegjajlaaW.PrintWords PHistoryTouched
noncomputable def refT : List S76 → List S76 → List Int
  | [], m => m.map (·.f0)
  | x :: l, [] => (x :: l).map (·.f0)
  | x :: l, y :: m => if x.f0 < y.f0 then x.f0 :: refT l (y :: m) else if y.f0 < x.f0 then y.f0 :: refT (x :: l) m else (if tv (x = y) then [] else [x.f0]) ++ refT l m
termination_by l m => l.length + m.length
theorem refT_nil (m : List S76) : refT [] m = m.map (·.f0) := by rw [refT]
theorem refT_end (l : List S76) : refT l [] = l.map (·.f0) := by cases l with
  | nil => rw [refT]
  | cons x l => rw [refT]
theorem drop_rd {l : List S76} {i : Nat} (h : i < l.length) : l.drop i = rd_T76 l i :: l.drop (i + 1) := by
  rw [List.drop_eq_getElem_cons h]
  simp [rd_T76, List.getD_eq_getElem?_getD, List.getElem?_eq_getElem h]
theorem refT_a1 {l m : List S76} {i k : Nat} (hi : i < l.length) (hk : k = m.length) : refT (l.drop i) (m.drop k) = (rd_T76 l i).f0 :: refT (l.drop (i + 1)) (m.drop k) := by
  subst hk
  rw [List.drop_length, refT_end, refT_end, drop_rd hi]; rfl
theorem refT_b1 {l m : List S76} {i k : Nat} (hi : i = l.length) (hk : k < m.length) : refT (l.drop i) (m.drop k) = (rd_T76 m k).f0 :: refT (l.drop i) (m.drop (k + 1)) := by
  subst hi
  rw [List.drop_length, refT_nil, refT_nil, drop_rd hk]; rfl
theorem refT_a2 {l m : List S76} {i k : Nat} (hi : i < l.length) (hk : k < m.length) (h : (rd_T76 l i).f0 < (rd_T76 m k).f0) : refT (l.drop i) (m.drop k) = (rd_T76 l i).f0 :: refT (l.drop (i + 1)) (m.drop k) := by
  rw [drop_rd hi, drop_rd hk, refT, if_pos h]
theorem refT_b2 {l m : List S76} {i k : Nat} (hi : i < l.length) (hk : k < m.length) (h : ¬ (rd_T76 l i).f0 < (rd_T76 m k).f0) (h2 : (rd_T76 m k).f0 < (rd_T76 l i).f0) : refT (l.drop i) (m.drop k) = (rd_T76 m k).f0 :: refT (l.drop i) (m.drop (k + 1)) := by
  rw [drop_rd hi, drop_rd hk, refT, if_neg h, if_pos h2]
theorem refT_c {l m : List S76} {i k : Nat} (hi : i < l.length) (hk : k < m.length) (h : ¬ (rd_T76 l i).f0 < (rd_T76 m k).f0) (h2 : ¬ (rd_T76 m k).f0 < (rd_T76 l i).f0) : refT (l.drop i) (m.drop k) = (if tv (rd_T76 l i = rd_T76 m k) then [] else [(rd_T76 l i).f0]) ++ refT (l.drop (i + 1)) (m.drop (k + 1)) := by
  rw [drop_rd hi, drop_rd hk, refT, if_neg h, if_neg h2]
def TouchPost (er : Int) (xs : List Int) (w : World) (e : Ending) (w' : World) : Prop :=
  ∃ v, e = .returned (.tuple #[v, .int .i64 er]) ∧ (Kd.int .i64).R 3 w' w.heap.size (fun _ => True) v xs ∧ Below w.heap.size w w'
theorem Boxed2.grown {w : World} {o1 o2 : Obj} {W W' : World} {row : Option Nat} (h : Boxed2 w o1 o2 W) (hg : W.grownBy W' row) (hb : Below w.heap.size w W') (h1 : some w.heap.size ≠ row) (h2 : some (w.heap.size + 1) ≠ row) : Boxed2 w o1 o2 W' :=
  ⟨hb, (hg.block _ (Array.getElem?_eq_some_iff.1 h.k1).1 h1).trans h.k1, (hg.block _ (Array.getElem?_eq_some_iff.1 h.k2).1 h2).trans h.k2⟩
structure NodeAt (W : World) (ad : Addr) (i : Nat) (n : S76) (A4 : Option Addr) (c4 : Nat) (A5 : Option Addr) (c5 : Nat) (A6 : Option Addr) (c6 : Nat) : Prop where
  y0 : W.cell? (ad.add (i * 7)) = some (.int .i64 n.f0)
  y1 : W.cell? ⟨(ad.add (i * 7)).block, (ad.add (i * 7)).off + 1, none⟩ = some (.string n.f1)
  y2 : W.cell? ⟨(ad.add (i * 7)).block, (ad.add (i * 7)).off + 2, none⟩ = some (.int .i64 n.f2)
  y3 : W.cell? ⟨(ad.add (i * 7)).block, (ad.add (i * 7)).off + 3, none⟩ = some (.string n.f3)
  y4 : W.cell? ⟨(ad.add (i * 7)).block, (ad.add (i * 7)).off + 4, none⟩ = some (.slice A4 n.f4.length c4)
  y5 : W.cell? ⟨(ad.add (i * 7)).block, (ad.add (i * 7)).off + 5, none⟩ = some (.slice A5 n.f5.length c5)
  y6 : W.cell? ⟨(ad.add (i * 7)).block, (ad.add (i * 7)).off + 6, none⟩ = some (.slice A6 n.f6.length c6)
  r : NodeR W n A4 c4 A5 c5 A6 c6
theorem nodeAt {W : World} {A : Option Addr} {xs : List S76} (h : Kd.C k76 W A xs.length xs) (i : Nat) (hi : i < xs.length) : ∃ ad A4 c4 A5 c5 A6 c6, A = some ad ∧ NodeAt W ad i (rd_T76 xs i) A4 c4 A5 c5 A6 c6 := by
  obtain ⟨ad, A4, c4, A5, c5, A6, c6, hA, y0, y1, y2, y3, y4, y5, y6, hr⟩ := node_atN h i hi
  exact ⟨ad, A4, c4, A5, c5, A6, c6, hA, y0, y1, y2, y3, y4, y5, y6, hr⟩
theorem refNode_any (a b : S76) (A4 A5 A6 B4 B5 B6 : Option Addr) (c4 c5 c6 d4 d5 d6 : Nat) (w : World) (ha : NodeR w a A4 c4 A5 c5 A6 c6) (hb : NodeR w b B4 d4 B5 d5 B6 d6) :
    Calls Try.prog 42 #[nodeV a A4 c4 A5 c5 A6 c6, nodeV b B4 d4 B5 d5 B6 d6] w fun e w' => e = .returned (.bool (tv (a = b))) ∧ Below w.heap.size w w' := by
  obtain ⟨k, h⟩ := (sameNode_ev a b ha.len).rounds
  exact topiaryref02_SameNode.calls k a.f0 a.f1 a.f2 a.f3 A4 c4 a.f4 A5 c5 a.f5 A6 c6 a.f6 b.f0 b.f1 b.f2 b.f3 B4 d4 b.f4 B5 d5 b.f5 B6 d6 b.f6 _ w ha.r4 ha.l4 ha.r5 ha.l5 ha.r6 ha.l6 hb.r4 hb.l4 hb.r5 hb.l5 hb.r6 hb.l6 h
theorem NodeAt.below {W W' : World} {ad : Addr} {i : Nat} {n : S76} {A4 : Option Addr} {c4 : Nat} {A5 : Option Addr} {c5 : Nat} {A6 : Option Addr} {c6 : Nat} (h : NodeAt W ad i n A4 c4 A5 c5 A6 c6) (hb : Below W.heap.size W W') : NodeAt W' ad i n A4 c4 A5 c5 A6 c6 :=
  ⟨pw_cell_below hb h.y0, pw_cell_below hb h.y1, pw_cell_below hb h.y2, pw_cell_below hb h.y3, pw_cell_below hb h.y4, pw_cell_below hb h.y5, pw_cell_below hb h.y6, h.r.below hb⟩
set_option maxRecDepth 100000 in
set_option maxHeartbeats 8000000 in
theorem refTouched_no1 (na nb : Int) (A B : Option Addr) (l m : List S76) (c d : Nat) (w : World) (hra : Kd.C k76 w A l.length l) (hca : l.length ≤ c) (hrb : Kd.C k76 w B m.length m) (hcb : m.length ≤ d) (hk : ¬ CheckP na l) :
    Calls Try.prog 26 #[.agg #[.int .i64 na, .slice A l.length c], .agg #[.int .i64 nb, .slice B m.length d]] w (TouchPost 29 [] w) := by
  have HRA : Hid (Kd.C k76 w A l.length l) := hra
  have HRB : Hid (Kd.C k76 w B m.length m) := hrb
  have HCA : Hid (l.length ≤ c) := hca
  have HCB : Hid (m.length ≤ d) := hcb
  have HBX : Hid (Boxed2 w (.cells #[.int .i64 na, .slice A l.length c] 27) (.cells #[.int .i64 nb, .slice B m.length d] 27) ((w.alloc (.cells #[.int .i64 na, .slice A l.length c] 27)).alloc (.cells #[.int .i64 nb, .slice B m.length d] 27))) := boxed2 w _ _
  clear hra hrb hca hcb
  go_enter Try.func26, Try.ntmps26
  go_wp2_with fail
  generalize ((w.alloc (.cells #[.int .i64 na, .slice A l.length c] 27)).alloc (.cells #[.int .i64 nb, .slice B m.length d] 27)) = W at HBX ⊢
  have q0 : W.cell? ⟨w.heap.size, 0, none⟩ = some (.int .i64 na) := blk_cell HBX.out.k1 0
  have q1 : W.cell? ⟨w.heap.size, 1, none⟩ = some (.slice A l.length c) := blk_cell HBX.out.k1 1
  go_wp2_with fail
  have hcall := right_check na l A c W (Kd.C_below HRA.out HBX.out.b) HCA.out
  rw [tv_no hk] at hcall
  refine hcall.mono ?_
  clear hcall
  rintro e w1 ⟨rfl, hb⟩
  have HB1 := hidm (HBX.out.below hb)
  clear hb HBX q0 q1
  go_wp2_with fail
  have HO : Hid (TouchPost 29 [] w (.returned (.tuple #[.slice none 0 0, .int .i64 29])) w1) := ⟨_, rfl, Kd.R_nil _ _ _ _ _, HB1.out.b⟩
  simp [bodyPost, results, Try.results26, go_sem]
  exact HO.out
set_option maxRecDepth 100000 in
set_option maxHeartbeats 8000000 in
theorem refTouched_no2 (na nb : Int) (A B : Option Addr) (l m : List S76) (c d : Nat) (w : World) (hra : Kd.C k76 w A l.length l) (hca : l.length ≤ c) (hrb : Kd.C k76 w B m.length m) (hcb : m.length ≤ d) (hk1 : CheckP na l) (hk : ¬ CheckP nb m) :
    Calls Try.prog 26 #[.agg #[.int .i64 na, .slice A l.length c], .agg #[.int .i64 nb, .slice B m.length d]] w (TouchPost 29 [] w) := by
  have HRA : Hid (Kd.C k76 w A l.length l) := hra
  have HRB : Hid (Kd.C k76 w B m.length m) := hrb
  have HCA : Hid (l.length ≤ c) := hca
  have HCB : Hid (m.length ≤ d) := hcb
  have HBX : Hid (Boxed2 w (.cells #[.int .i64 na, .slice A l.length c] 27) (.cells #[.int .i64 nb, .slice B m.length d] 27) ((w.alloc (.cells #[.int .i64 na, .slice A l.length c] 27)).alloc (.cells #[.int .i64 nb, .slice B m.length d] 27))) := boxed2 w _ _
  clear hra hrb hca hcb
  go_enter Try.func26, Try.ntmps26
  go_wp2_with fail
  generalize ((w.alloc (.cells #[.int .i64 na, .slice A l.length c] 27)).alloc (.cells #[.int .i64 nb, .slice B m.length d] 27)) = W at HBX ⊢
  have q0 : W.cell? ⟨w.heap.size, 0, none⟩ = some (.int .i64 na) := blk_cell HBX.out.k1 0
  have q1 : W.cell? ⟨w.heap.size, 1, none⟩ = some (.slice A l.length c) := blk_cell HBX.out.k1 1
  go_wp2_with fail
  have hcall := right_check na l A c W (Kd.C_below HRA.out HBX.out.b) HCA.out
  rw [tv_yes hk1] at hcall
  refine hcall.mono ?_
  clear hcall
  rintro e w1 ⟨rfl, hb⟩
  have HB1 := hidm (HBX.out.below hb)
  clear hb HBX q0 q1
  have q0 : w1.cell? ⟨w.heap.size + 1, 0, none⟩ = some (.int .i64 nb) := blk_cell HB1.out.k2 0
  have q1 : w1.cell? ⟨w.heap.size + 1, 1, none⟩ = some (.slice B m.length d) := blk_cell HB1.out.k2 1
  go_wp2_with fail
  have hcall := right_check nb m B d w1 (Kd.C_below HRB.out HB1.out.b) HCB.out
  rw [tv_no hk] at hcall
  refine hcall.mono ?_
  clear hcall
  rintro e w2 ⟨rfl, hb⟩
  have HB2 := hidm (HB1.out.below hb)
  clear hb HB1 q0 q1
  go_wp2_with fail
  have HO : Hid (TouchPost 29 [] w (.returned (.tuple #[.slice none 0 0, .int .i64 29])) w2) := ⟨_, rfl, Kd.R_nil _ _ _ _ _, HB2.out.b⟩
  simp [bodyPost, results, Try.results26, go_sem]
  exact HO.out
set_option maxRecDepth 100000 in
set_option maxHeartbeats 8000000 in
theorem refTouched_yes (na nb : Int) (A B : Option Addr) (l m : List S76) (c d : Nat) (w : World) (hra : Kd.C k76 w A l.length l) (hca : l.length ≤ c) (hrb : Kd.C k76 w B m.length m) (hcb : m.length ≤ d) (hk1 : CheckP na l) (hk2 : CheckP nb m) (hl : l.length ≤ 1048576) (hm : m.length ≤ 1048576) :
    Calls Try.prog 26 #[.agg #[.int .i64 na, .slice A l.length c], .agg #[.int .i64 nb, .slice B m.length d]] w (TouchPost 0 (refT l m) w) := by
  have HRA : Hid (Kd.C k76 w A l.length l) := hra
  have HRB : Hid (Kd.C k76 w B m.length m) := hrb
  have HCA : Hid (l.length ≤ c) := hca
  have HCB : Hid (m.length ≤ d) := hcb
  have HBX : Hid (Boxed2 w (.cells #[.int .i64 na, .slice A l.length c] 27) (.cells #[.int .i64 nb, .slice B m.length d] 27) ((w.alloc (.cells #[.int .i64 na, .slice A l.length c] 27)).alloc (.cells #[.int .i64 nb, .slice B m.length d] 27))) := boxed2 w _ _
  clear hra hrb hca hcb
  go_enter Try.func26, Try.ntmps26
  go_wp2_with fail
  generalize ((w.alloc (.cells #[.int .i64 na, .slice A l.length c] 27)).alloc (.cells #[.int .i64 nb, .slice B m.length d] 27)) = W at HBX ⊢
  have q0 : W.cell? ⟨w.heap.size, 0, none⟩ = some (.int .i64 na) := blk_cell HBX.out.k1 0
  have q1 : W.cell? ⟨w.heap.size, 1, none⟩ = some (.slice A l.length c) := blk_cell HBX.out.k1 1
  go_wp2_with fail
  have hcall := right_check na l A c W (Kd.C_below HRA.out HBX.out.b) HCA.out
  rw [tv_yes hk1] at hcall
  refine hcall.mono ?_
  clear hcall
  rintro e w1 ⟨rfl, hb⟩
  have HB1 := hidm (HBX.out.below hb)
  clear hb HBX q0 q1
  have q0 : w1.cell? ⟨w.heap.size + 1, 0, none⟩ = some (.int .i64 nb) := blk_cell HB1.out.k2 0
  have q1 : w1.cell? ⟨w.heap.size + 1, 1, none⟩ = some (.slice B m.length d) := blk_cell HB1.out.k2 1
  go_wp2_with fail
  have hcall := right_check nb m B d w1 (Kd.C_below HRB.out HB1.out.b) HCB.out
  rw [tv_yes hk2] at hcall
  refine hcall.mono ?_
  clear hcall
  rintro e w2 ⟨rfl, hb⟩
  have HB2 := hidm (HB1.out.below hb)
  clear hb HB1 q0 q1
  clear hk1 hk2
  go_wp2_with fail
  go_loopw [6, 7, 8] (fun v iv kv W => ∃ (i k : Nat) (out : List Int), i ≤ l.length ∧ k ≤ m.length ∧ iv = .int .i64 i ∧ kv = .int .i64 k ∧ Hid (out ++ refT (l.drop i) (m.drop k) = refT l m) ∧ Hid (out.length ≤ i + k) ∧ Hid (Boxed2 w (.cells #[.int .i64 na, .slice A l.length c] 27) (.cells #[.int .i64 nb, .slice B m.length d] 27) W) ∧ Hid ((Kd.int .i64).R 3 W w.heap.size (fun _ => True) v out)) (fun _ iv kv _ => l.length + m.length - (intOf iv).toNat - (intOf kv).toNat)
  case atStart => exact ⟨0, 0, [], Nat.zero_le _, Nat.zero_le _, rfl, rfl, hidm (by simp), hidm (Nat.zero_le _), HB2, hidm (Kd.R_nil _ _ _ _ _)⟩
  case round =>
    clear HB2
    obtain ⟨i, k, out, hil, hkl, rfl, rfl, HEQ, HLN, HB, HO⟩ := hrel
    by_cases hi : i < l.length
    · by_cases hk : k < m.length
      · obtain ⟨ad, A4, c4, A5, c5, A6, c6, hA, hna⟩ := nodeAt HRA.out i hi
        subst hA
        have HNA := hidm (hna.below HB.out.b)
        clear hna
        have hi0 : (0 : Int) ≤ (i : Int) := by omega
        have hi1 : (i : Int) < (l.length : Int) := by omega
        have di : decide ((i : Int) < (l.length : Int)) = true := decide_eq_true hi1
        have ei : ((i : Int) == (l.length : Int)) = false := by rw [beq_eq_false_iff_ne]; omega
        obtain ⟨bd, B4, d4, B5, d5, B6, d6, hB, hnb⟩ := nodeAt HRB.out k hk
        subst hB
        have HNB := hidm (hnb.below HB.out.b)
        clear hnb
        have hk0 : (0 : Int) ≤ (k : Int) := by omega
        have hk1 : (k : Int) < (m.length : Int) := by omega
        have dk : decide ((k : Int) < (m.length : Int)) = true := decide_eq_true hk1
        have ek : ((k : Int) == (m.length : Int)) = false := by rw [beq_eq_false_iff_ne]; omega
        by_cases hab : (rd_T76 l i).f0 < (rd_T76 m k).f0
        · have q1 : wr.cell? ⟨w.heap.size, 1, none⟩ = some (.slice (some ad) l.length c) := blk_cell HB.out.k1 1
          have q2 : wr.cell? ⟨w.heap.size + 1, 1, none⟩ = some (.slice (some bd) m.length d) := blk_cell HB.out.k2 1
          go_wp2_with fail
          clear q1 q2
          have dab : decide ((rd_T76 l i).f0 < (rd_T76 m k).f0) = true := decide_eq_true hab
          have s0 : ∀ y : BW wr, y.1.cell? ⟨w.heap.size, 1, none⟩ = some (.slice (some ad) l.length c) := bw_cell (blk_cell HB.out.k1 1)
          have s1 : ∀ y : BW wr, y.1.cell? ⟨w.heap.size + 1, 1, none⟩ = some (.slice (some bd) m.length d) := bw_cell (blk_cell HB.out.k2 1)
          have sa : ∀ y : BW wr, y.1.cell? (ad.add (i * 7)) = some (.int .i64 (rd_T76 l i).f0) := bw_cell HNA.out.y0
          have sb : ∀ y : BW wr, y.1.cell? (bd.add (k * 7)) = some (.int .i64 (rd_T76 m k).f0) := bw_cell HNB.out.y0
          refine wp_region_bw (by kernel_rfl) (by kernel_rfl) ?_
          repeat (go_big_quiet_step (fail))
          refine wpQuiet_nil ?_
          rintro _ ⟨y, rfl⟩
          replace HB := hidm (HB.out.below y.2)
          replace HO := hidm (Kd.R_below HO.out y.2)
          replace HNA := hidm (HNA.out.below y.2)
          replace HNB := hidm (HNB.out.below y.2)
          clear s0 s1 sa sb
          obtain ⟨w3, hy⟩ := y
          dsimp only at HB HO HNA HNB ⊢
          clear hy
          have q1 : w3.cell? ⟨w.heap.size, 1, none⟩ = some (.slice (some ad) l.length c) := blk_cell HB.out.k1 1
          have q2 : w3.cell? (ad.add (i * 7)) = some (.int .i64 (rd_T76 l i).f0) := HNA.out.y0
          go_wp2_with (at_builtin; refine Kd.R_append (Kd.int .i64) (w0 := w) w.heap.size rfl (.tmp 82) (.tmp 89) 54 3 (.int .i64 0) 8 rfl Try.underlying54 info3 rfl (by decide) (by decide) u6 out (rd_T76 l i).f0 [.int .i64 (rd_T76 l i).f0] (fun _ => True) (fun _ => False) rfl rfl rfl (fun _ h => h.elim) (fun _ _ => trivial) HO.out HB.out.b HB.out.b.size (by have := HLN.out; omega) ?_
                       intro v2 w9 hN hB hg hat
                       have HB9 := hidm (HB.out.grown hg hB (Kd.R_ne HO.out HB.out.k1 (by decide)) (Kd.R_ne HO.out HB.out.k2 (by decide)))
                       have HO9 := hidm hN
                       clear hN hB hg hat HB HO)
          go_roundw
          case rel => exact ⟨i + 1, k, out ++ [(rd_T76 l i).f0], by omega, by omega, by go_num, by go_num, hidm (by rw [List.append_assoc, List.singleton_append, ← refT_a2 hi hk hab]; exact HEQ.out), hidm (by rw [List.length_append]; have := HLN.out; simp; omega), HB9, HO9⟩
          case measure => simp [intOf]; omega
        · by_cases hba : (rd_T76 m k).f0 < (rd_T76 l i).f0
          · have dab : decide ((rd_T76 l i).f0 < (rd_T76 m k).f0) = false := decide_eq_false (by omega)
            have q1 : wr.cell? ⟨w.heap.size, 1, none⟩ = some (.slice (some ad) l.length c) := blk_cell HB.out.k1 1
            have q2 : wr.cell? ⟨w.heap.size + 1, 1, none⟩ = some (.slice (some bd) m.length d) := blk_cell HB.out.k2 1
            go_wp2_with fail
            clear q1 q2
            have dba : decide ((rd_T76 m k).f0 < (rd_T76 l i).f0) = true := decide_eq_true hba
            have s0 : ∀ y : BW wr, y.1.cell? ⟨w.heap.size, 1, none⟩ = some (.slice (some ad) l.length c) := bw_cell (blk_cell HB.out.k1 1)
            have s1 : ∀ y : BW wr, y.1.cell? ⟨w.heap.size + 1, 1, none⟩ = some (.slice (some bd) m.length d) := bw_cell (blk_cell HB.out.k2 1)
            have sa : ∀ y : BW wr, y.1.cell? (ad.add (i * 7)) = some (.int .i64 (rd_T76 l i).f0) := bw_cell HNA.out.y0
            have sb : ∀ y : BW wr, y.1.cell? (bd.add (k * 7)) = some (.int .i64 (rd_T76 m k).f0) := bw_cell HNB.out.y0
            refine wp_region_bw (by kernel_rfl) (by kernel_rfl) ?_
            repeat (go_big_quiet_step (fail))
            refine wpQuiet_nil ?_
            rintro _ ⟨y, rfl⟩
            replace HB := hidm (HB.out.below y.2)
            replace HO := hidm (Kd.R_below HO.out y.2)
            replace HNA := hidm (HNA.out.below y.2)
            replace HNB := hidm (HNB.out.below y.2)
            clear s0 s1 sa sb
            obtain ⟨w3, hy⟩ := y
            dsimp only at HB HO HNA HNB ⊢
            clear hy
            go_wp2_with fail
            have s0 : ∀ y : BW w3, y.1.cell? ⟨w.heap.size, 1, none⟩ = some (.slice (some ad) l.length c) := bw_cell (blk_cell HB.out.k1 1)
            have s1 : ∀ y : BW w3, y.1.cell? ⟨w.heap.size + 1, 1, none⟩ = some (.slice (some bd) m.length d) := bw_cell (blk_cell HB.out.k2 1)
            have sa : ∀ y : BW w3, y.1.cell? (ad.add (i * 7)) = some (.int .i64 (rd_T76 l i).f0) := bw_cell HNA.out.y0
            have sb : ∀ y : BW w3, y.1.cell? (bd.add (k * 7)) = some (.int .i64 (rd_T76 m k).f0) := bw_cell HNB.out.y0
            refine wp_region_bw (by kernel_rfl) (by kernel_rfl) ?_
            repeat (go_big_quiet_step (fail))
            refine wpQuiet_nil ?_
            rintro _ ⟨y, rfl⟩
            replace HB := hidm (HB.out.below y.2)
            replace HO := hidm (Kd.R_below HO.out y.2)
            replace HNA := hidm (HNA.out.below y.2)
            replace HNB := hidm (HNB.out.below y.2)
            clear s0 s1 sa sb
            obtain ⟨w4, hy⟩ := y
            dsimp only at HB HO HNA HNB ⊢
            clear hy
            have q1 : w4.cell? ⟨w.heap.size + 1, 1, none⟩ = some (.slice (some bd) m.length d) := blk_cell HB.out.k2 1
            have q2 : w4.cell? (bd.add (k * 7)) = some (.int .i64 (rd_T76 m k).f0) := HNB.out.y0
            go_wp2_with (at_builtin; refine Kd.R_append (Kd.int .i64) (w0 := w) w.heap.size rfl (.tmp 114) (.tmp 121) 54 3 (.int .i64 0) 8 rfl Try.underlying54 info3 rfl (by decide) (by decide) u6 out (rd_T76 m k).f0 [.int .i64 (rd_T76 m k).f0] (fun _ => True) (fun _ => False) rfl rfl rfl (fun _ h => h.elim) (fun _ _ => trivial) HO.out HB.out.b HB.out.b.size (by have := HLN.out; omega) ?_
                         intro v2 w9 hN hB hg hat
                         have HB9 := hidm (HB.out.grown hg hB (Kd.R_ne HO.out HB.out.k1 (by decide)) (Kd.R_ne HO.out HB.out.k2 (by decide)))
                         have HO9 := hidm hN
                         clear hN hB hg hat HB HO)
            go_roundw
            case rel => exact ⟨i, k + 1, out ++ [(rd_T76 m k).f0], by omega, by omega, by go_num, by go_num, hidm (by rw [List.append_assoc, List.singleton_append, ← refT_b2 hi hk (by omega) hba]; exact HEQ.out), hidm (by rw [List.length_append]; have := HLN.out; simp; omega), HB9, HO9⟩
            case measure => simp [intOf]; omega
          · have dab : decide ((rd_T76 l i).f0 < (rd_T76 m k).f0) = false := decide_eq_false (by omega)
            have q1 : wr.cell? ⟨w.heap.size, 1, none⟩ = some (.slice (some ad) l.length c) := blk_cell HB.out.k1 1
            have q2 : wr.cell? ⟨w.heap.size + 1, 1, none⟩ = some (.slice (some bd) m.length d) := blk_cell HB.out.k2 1
            go_wp2_with fail
            clear q1 q2
            have dba : decide ((rd_T76 m k).f0 < (rd_T76 l i).f0) = false := decide_eq_false (by omega)
            have s0 : ∀ y : BW wr, y.1.cell? ⟨w.heap.size, 1, none⟩ = some (.slice (some ad) l.length c) := bw_cell (blk_cell HB.out.k1 1)
            have s1 : ∀ y : BW wr, y.1.cell? ⟨w.heap.size + 1, 1, none⟩ = some (.slice (some bd) m.length d) := bw_cell (blk_cell HB.out.k2 1)
            have sa : ∀ y : BW wr, y.1.cell? (ad.add (i * 7)) = some (.int .i64 (rd_T76 l i).f0) := bw_cell HNA.out.y0
            have sb : ∀ y : BW wr, y.1.cell? (bd.add (k * 7)) = some (.int .i64 (rd_T76 m k).f0) := bw_cell HNB.out.y0
            refine wp_region_bw (by kernel_rfl) (by kernel_rfl) ?_
            repeat (go_big_quiet_step (fail))
            refine wpQuiet_nil ?_
            rintro _ ⟨y, rfl⟩
            replace HB := hidm (HB.out.below y.2)
            replace HO := hidm (Kd.R_below HO.out y.2)
            replace HNA := hidm (HNA.out.below y.2)
            replace HNB := hidm (HNB.out.below y.2)
            clear s0 s1 sa sb
            obtain ⟨w3, hy⟩ := y
            dsimp only at HB HO HNA HNB ⊢
            clear hy
            go_wp2_with fail
            have s0 : ∀ y : BW w3, y.1.cell? ⟨w.heap.size, 1, none⟩ = some (.slice (some ad) l.length c) := bw_cell (blk_cell HB.out.k1 1)
            have s1 : ∀ y : BW w3, y.1.cell? ⟨w.heap.size + 1, 1, none⟩ = some (.slice (some bd) m.length d) := bw_cell (blk_cell HB.out.k2 1)
            have sa : ∀ y : BW w3, y.1.cell? (ad.add (i * 7)) = some (.int .i64 (rd_T76 l i).f0) := bw_cell HNA.out.y0
            have sb : ∀ y : BW w3, y.1.cell? (bd.add (k * 7)) = some (.int .i64 (rd_T76 m k).f0) := bw_cell HNB.out.y0
            refine wp_region_bw (by kernel_rfl) (by kernel_rfl) ?_
            repeat (go_big_quiet_step (fail))
            refine wpQuiet_nil ?_
            rintro _ ⟨y, rfl⟩
            replace HB := hidm (HB.out.below y.2)
            replace HO := hidm (Kd.R_below HO.out y.2)
            replace HNA := hidm (HNA.out.below y.2)
            replace HNB := hidm (HNB.out.below y.2)
            clear s0 s1 sa sb
            obtain ⟨w4, hy⟩ := y
            dsimp only at HB HO HNA HNB ⊢
            clear hy
            go_wp2_with fail
            have HSC : Hid (∀ y : BW w4, Calls Try.prog 42 #[nodeV (rd_T76 l i) A4 c4 A5 c5 A6 c6, nodeV (rd_T76 m k) B4 d4 B5 d5 B6 d6] y.1 fun e w' => e = .returned (.bool (tv (rd_T76 l i = rd_T76 m k))) ∧ Below y.1.heap.size y.1 w') := fun y => refNode_any _ _ _ _ _ _ _ _ _ _ _ _ _ _ _ (HNA.out.r.below y.2) (HNB.out.r.below y.2)
            generalize hres : tv (rd_T76 l i = rd_T76 m k) = res at HSC
            have HRES := hidm hres
            clear hres
            have s0 : ∀ y : BW w4, y.1.cell? ⟨w.heap.size, 1, none⟩ = some (.slice (some ad) l.length c) := bw_cell (blk_cell HB.out.k1 1)
            have s1 : ∀ y : BW w4, y.1.cell? ⟨w.heap.size + 1, 1, none⟩ = some (.slice (some bd) m.length d) := bw_cell (blk_cell HB.out.k2 1)
            have sa0 : ∀ y : BW w4, y.1.cell? (ad.add (i * 7)) = some (.int .i64 (rd_T76 l i).f0) := bw_cell HNA.out.y0
            have sa1 : ∀ y : BW w4, y.1.cell? ⟨(ad.add (i * 7)).block, (ad.add (i * 7)).off + 1, none⟩ = some (.string (rd_T76 l i).f1) := bw_cell HNA.out.y1
            have sa2 : ∀ y : BW w4, y.1.cell? ⟨(ad.add (i * 7)).block, (ad.add (i * 7)).off + 2, none⟩ = some (.int .i64 (rd_T76 l i).f2) := bw_cell HNA.out.y2
            have sa3 : ∀ y : BW w4, y.1.cell? ⟨(ad.add (i * 7)).block, (ad.add (i * 7)).off + 3, none⟩ = some (.string (rd_T76 l i).f3) := bw_cell HNA.out.y3
            have sa4 : ∀ y : BW w4, y.1.cell? ⟨(ad.add (i * 7)).block, (ad.add (i * 7)).off + 4, none⟩ = some (.slice A4 (rd_T76 l i).f4.length c4) := bw_cell HNA.out.y4
            have sa5 : ∀ y : BW w4, y.1.cell? ⟨(ad.add (i * 7)).block, (ad.add (i * 7)).off + 5, none⟩ = some (.slice A5 (rd_T76 l i).f5.length c5) := bw_cell HNA.out.y5
            have sa6 : ∀ y : BW w4, y.1.cell? ⟨(ad.add (i * 7)).block, (ad.add (i * 7)).off + 6, none⟩ = some (.slice A6 (rd_T76 l i).f6.length c6) := bw_cell HNA.out.y6
            have sb0 : ∀ y : BW w4, y.1.cell? (bd.add (k * 7)) = some (.int .i64 (rd_T76 m k).f0) := bw_cell HNB.out.y0
            have sb1 : ∀ y : BW w4, y.1.cell? ⟨(bd.add (k * 7)).block, (bd.add (k * 7)).off + 1, none⟩ = some (.string (rd_T76 m k).f1) := bw_cell HNB.out.y1
            have sb2 : ∀ y : BW w4, y.1.cell? ⟨(bd.add (k * 7)).block, (bd.add (k * 7)).off + 2, none⟩ = some (.int .i64 (rd_T76 m k).f2) := bw_cell HNB.out.y2
            have sb3 : ∀ y : BW w4, y.1.cell? ⟨(bd.add (k * 7)).block, (bd.add (k * 7)).off + 3, none⟩ = some (.string (rd_T76 m k).f3) := bw_cell HNB.out.y3
            have sb4 : ∀ y : BW w4, y.1.cell? ⟨(bd.add (k * 7)).block, (bd.add (k * 7)).off + 4, none⟩ = some (.slice B4 (rd_T76 m k).f4.length d4) := bw_cell HNB.out.y4
            have sb5 : ∀ y : BW w4, y.1.cell? ⟨(bd.add (k * 7)).block, (bd.add (k * 7)).off + 5, none⟩ = some (.slice B5 (rd_T76 m k).f5.length d5) := bw_cell HNB.out.y5
            have sb6 : ∀ y : BW w4, y.1.cell? ⟨(bd.add (k * 7)).block, (bd.add (k * 7)).off + 6, none⟩ = some (.slice B6 (rd_T76 m k).f6.length d6) := bw_cell HNB.out.y6
            refine wp_region_bw (by kernel_rfl) (by kernel_rfl) ?_
            repeat (go_big_quiet_step ((go_at_call 42; exact calls_bw (HSC.out _))))
            refine wpQuiet_nil ?_
            rintro _ ⟨y, rfl⟩
            replace HB := hidm (HB.out.below y.2)
            replace HO := hidm (Kd.R_below HO.out y.2)
            replace HNA := hidm (HNA.out.below y.2)
            replace HNB := hidm (HNB.out.below y.2)
            clear s0 s1 sa0 sa1 sa2 sa3 sa4 sa5 sa6 sb0 sb1 sb2 sb3 sb4 sb5 sb6 HSC
            obtain ⟨w5, hy⟩ := y
            dsimp only at HB HO HNA HNB ⊢
            clear hy
            cases res with
            | true =>
              have HEQ2 : Hid (out ++ refT (l.drop (i + 1)) (m.drop (k + 1)) = refT l m) := by
                have := HEQ.out
                rw [refT_c hi hk (by omega) (by omega), HRES.out] at this
                exact hidm this
              go_wp2_with fail
              go_roundw
              case rel => exact ⟨i + 1, k + 1, out, by omega, by omega, by go_num, by go_num, HEQ2, hidm (by have := HLN.out; omega), HB, HO⟩
              case measure => simp [intOf]; omega
            | false =>
              have HEQ2 : Hid ((out ++ [(rd_T76 l i).f0]) ++ refT (l.drop (i + 1)) (m.drop (k + 1)) = refT l m) := by
                have := HEQ.out
                rw [refT_c hi hk (by omega) (by omega), HRES.out] at this
                exact hidm (by rw [List.append_assoc]; exact this)
              have q1 : w5.cell? ⟨w.heap.size, 1, none⟩ = some (.slice (some ad) l.length c) := blk_cell HB.out.k1 1
              have q2 : w5.cell? (ad.add (i * 7)) = some (.int .i64 (rd_T76 l i).f0) := HNA.out.y0
              go_wp2_with (at_builtin; refine Kd.R_append (Kd.int .i64) (w0 := w) w.heap.size rfl (.tmp 41) (.tmp 48) 54 3 (.int .i64 0) 8 rfl Try.underlying54 info3 rfl (by decide) (by decide) u6 out (rd_T76 l i).f0 [.int .i64 (rd_T76 l i).f0] (fun _ => True) (fun _ => False) rfl rfl rfl (fun _ h => h.elim) (fun _ _ => trivial) HO.out HB.out.b HB.out.b.size (by have := HLN.out; omega) ?_
                           intro v2 w9 hN hB hg hat
                           have HB9 := hidm (HB.out.grown hg hB (Kd.R_ne HO.out HB.out.k1 (by decide)) (Kd.R_ne HO.out HB.out.k2 (by decide)))
                           have HO9 := hidm hN
                           clear hN hB hg hat HB HO)
              go_roundw
              case rel => exact ⟨i + 1, k + 1, out ++ [(rd_T76 l i).f0], by omega, by omega, by go_num, by go_num, hidm (HEQ2.out), hidm (by rw [List.length_append]; have := HLN.out; simp; omega), HB9, HO9⟩
              case measure => simp [intOf]; omega
      · obtain ⟨ad, A4, c4, A5, c5, A6, c6, hA, hna⟩ := nodeAt HRA.out i hi
        subst hA
        have HNA := hidm (hna.below HB.out.b)
        clear hna
        have hi0 : (0 : Int) ≤ (i : Int) := by omega
        have hi1 : (i : Int) < (l.length : Int) := by omega
        have di : decide ((i : Int) < (l.length : Int)) = true := decide_eq_true hi1
        have ei : ((i : Int) == (l.length : Int)) = false := by rw [beq_eq_false_iff_ne]; omega
        have hk2 : k = m.length := by omega
        have hkn : ¬ (k : Int) < (m.length : Int) := by omega
        have ek : ((k : Int) == (m.length : Int)) = true := by rw [beq_iff_eq]; omega
        have q1 : wr.cell? ⟨w.heap.size, 1, none⟩ = some (.slice (some ad) l.length c) := blk_cell HB.out.k1 1
        have q2 : wr.cell? ⟨w.heap.size + 1, 1, none⟩ = some (.slice B m.length d) := blk_cell HB.out.k2 1
        go_wp2_with fail
        clear q1 q2
        have s0 : ∀ y : BW wr, y.1.cell? ⟨w.heap.size, 1, none⟩ = some (.slice (some ad) l.length c) := bw_cell (blk_cell HB.out.k1 1)
        have s1 : ∀ y : BW wr, y.1.cell? ⟨w.heap.size + 1, 1, none⟩ = some (.slice B m.length d) := bw_cell (blk_cell HB.out.k2 1)
        have sa : ∀ y : BW wr, y.1.cell? (ad.add (i * 7)) = some (.int .i64 (rd_T76 l i).f0) := bw_cell HNA.out.y0
        refine wp_region_bw (by kernel_rfl) (by kernel_rfl) ?_
        repeat (go_big_quiet_step (fail))
        refine wpQuiet_nil ?_
        rintro _ ⟨y, rfl⟩
        replace HB := hidm (HB.out.below y.2)
        replace HO := hidm (Kd.R_below HO.out y.2)
        replace HNA := hidm (HNA.out.below y.2)
        clear s0 s1 sa 
        obtain ⟨w3, hy⟩ := y
        dsimp only at HB HO HNA  ⊢
        clear hy
        have q1 : w3.cell? ⟨w.heap.size, 1, none⟩ = some (.slice (some ad) l.length c) := blk_cell HB.out.k1 1
        have q2 : w3.cell? (ad.add (i * 7)) = some (.int .i64 (rd_T76 l i).f0) := HNA.out.y0
        go_wp2_with (at_builtin; refine Kd.R_append (Kd.int .i64) (w0 := w) w.heap.size rfl (.tmp 82) (.tmp 89) 54 3 (.int .i64 0) 8 rfl Try.underlying54 info3 rfl (by decide) (by decide) u6 out (rd_T76 l i).f0 [.int .i64 (rd_T76 l i).f0] (fun _ => True) (fun _ => False) rfl rfl rfl (fun _ h => h.elim) (fun _ _ => trivial) HO.out HB.out.b HB.out.b.size (by have := HLN.out; omega) ?_
                     intro v2 w9 hN hB hg hat
                     have HB9 := hidm (HB.out.grown hg hB (Kd.R_ne HO.out HB.out.k1 (by decide)) (Kd.R_ne HO.out HB.out.k2 (by decide)))
                     have HO9 := hidm hN
                     clear hN hB hg hat HB HO)
        go_roundw
        case rel => exact ⟨i + 1, k, out ++ [(rd_T76 l i).f0], by omega, by omega, by go_num, by go_num, hidm (by rw [List.append_assoc, List.singleton_append, ← refT_a1 hi hk2]; exact HEQ.out), hidm (by rw [List.length_append]; have := HLN.out; simp; omega), HB9, HO9⟩
        case measure => simp [intOf]; omega
    · by_cases hk : k < m.length
      · obtain ⟨bd, B4, d4, B5, d5, B6, d6, hB, hnb⟩ := nodeAt HRB.out k hk
        subst hB
        have HNB := hidm (hnb.below HB.out.b)
        clear hnb
        have hk0 : (0 : Int) ≤ (k : Int) := by omega
        have hk1 : (k : Int) < (m.length : Int) := by omega
        have dk : decide ((k : Int) < (m.length : Int)) = true := decide_eq_true hk1
        have ek : ((k : Int) == (m.length : Int)) = false := by rw [beq_eq_false_iff_ne]; omega
        have hi2 : i = l.length := by omega
        have hin : ¬ (i : Int) < (l.length : Int) := by omega
        have di : decide ((i : Int) < (l.length : Int)) = false := decide_eq_false hin
        have ei : ((i : Int) == (l.length : Int)) = true := by rw [beq_iff_eq]; omega
        have q1 : wr.cell? ⟨w.heap.size, 1, none⟩ = some (.slice A l.length c) := blk_cell HB.out.k1 1
        have q2 : wr.cell? ⟨w.heap.size + 1, 1, none⟩ = some (.slice (some bd) m.length d) := blk_cell HB.out.k2 1
        go_wp2_with fail
        clear q1 q2
        have s0 : ∀ y : BW wr, y.1.cell? ⟨w.heap.size, 1, none⟩ = some (.slice A l.length c) := bw_cell (blk_cell HB.out.k1 1)
        have s1 : ∀ y : BW wr, y.1.cell? ⟨w.heap.size + 1, 1, none⟩ = some (.slice (some bd) m.length d) := bw_cell (blk_cell HB.out.k2 1)
        have sb : ∀ y : BW wr, y.1.cell? (bd.add (k * 7)) = some (.int .i64 (rd_T76 m k).f0) := bw_cell HNB.out.y0
        refine wp_region_bw (by kernel_rfl) (by kernel_rfl) ?_
        repeat (go_big_quiet_step (fail))
        refine wpQuiet_nil ?_
        rintro _ ⟨y, rfl⟩
        replace HB := hidm (HB.out.below y.2)
        replace HO := hidm (Kd.R_below HO.out y.2)
        replace HNB := hidm (HNB.out.below y.2)
        clear s0 s1  sb
        obtain ⟨w3, hy⟩ := y
        dsimp only at HB HO  HNB ⊢
        clear hy
        go_wp2_with fail
        have s0 : ∀ y : BW w3, y.1.cell? ⟨w.heap.size, 1, none⟩ = some (.slice A l.length c) := bw_cell (blk_cell HB.out.k1 1)
        have s1 : ∀ y : BW w3, y.1.cell? ⟨w.heap.size + 1, 1, none⟩ = some (.slice (some bd) m.length d) := bw_cell (blk_cell HB.out.k2 1)
        have sb : ∀ y : BW w3, y.1.cell? (bd.add (k * 7)) = some (.int .i64 (rd_T76 m k).f0) := bw_cell HNB.out.y0
        refine wp_region_bw (by kernel_rfl) (by kernel_rfl) ?_
        repeat (go_big_quiet_step (fail))
        refine wpQuiet_nil ?_
        rintro _ ⟨y, rfl⟩
        replace HB := hidm (HB.out.below y.2)
        replace HO := hidm (Kd.R_below HO.out y.2)
        replace HNB := hidm (HNB.out.below y.2)
        clear s0 s1  sb
        obtain ⟨w4, hy⟩ := y
        dsimp only at HB HO  HNB ⊢
        clear hy
        have q1 : w4.cell? ⟨w.heap.size + 1, 1, none⟩ = some (.slice (some bd) m.length d) := blk_cell HB.out.k2 1
        have q2 : w4.cell? (bd.add (k * 7)) = some (.int .i64 (rd_T76 m k).f0) := HNB.out.y0
        go_wp2_with (at_builtin; refine Kd.R_append (Kd.int .i64) (w0 := w) w.heap.size rfl (.tmp 114) (.tmp 121) 54 3 (.int .i64 0) 8 rfl Try.underlying54 info3 rfl (by decide) (by decide) u6 out (rd_T76 m k).f0 [.int .i64 (rd_T76 m k).f0] (fun _ => True) (fun _ => False) rfl rfl rfl (fun _ h => h.elim) (fun _ _ => trivial) HO.out HB.out.b HB.out.b.size (by have := HLN.out; omega) ?_
                     intro v2 w9 hN hB hg hat
                     have HB9 := hidm (HB.out.grown hg hB (Kd.R_ne HO.out HB.out.k1 (by decide)) (Kd.R_ne HO.out HB.out.k2 (by decide)))
                     have HO9 := hidm hN
                     clear hN hB hg hat HB HO)
        go_roundw
        case rel => exact ⟨i, k + 1, out ++ [(rd_T76 m k).f0], by omega, by omega, by go_num, by go_num, hidm (by rw [List.append_assoc, List.singleton_append, ← refT_b1 hi2 hk]; exact HEQ.out), hidm (by rw [List.length_append]; have := HLN.out; simp; omega), HB9, HO9⟩
        case measure => simp [intOf]; omega
      · have hin : ¬ (i : Int) < (l.length : Int) := by omega
        have hkn : ¬ (k : Int) < (m.length : Int) := by omega
        have hout : out = refT l m := by
          have := HEQ.out
          rw [List.drop_of_length_le (by omega), List.drop_of_length_le (by omega), refT_nil] at this
          simpa using this
        subst hout
        have q1 : wr.cell? ⟨w.heap.size, 1, none⟩ = some (.slice A l.length c) := blk_cell HB.out.k1 1
        have q2 : wr.cell? ⟨w.heap.size + 1, 1, none⟩ = some (.slice B m.length d) := blk_cell HB.out.k2 1
        go_wp2_with fail
        have HP : Hid (TouchPost 0 (refT l m) w (.returned (.tuple #[u6, .int .i64 0])) wr) := ⟨_, rfl, HO.out, HB.out.b⟩
        simp [bodyPost, results, Try.results26, go_sem]
        exact HP.out
end Go.Proofs.Ytlopfkkegjajlaa
namespace Go.Proofs.Ytlopfkkegjajlaa
open Go.Shelf
def lays189_ren : Go.Shelf.Ren := ⟨fun | 189 => 44 | 125 => 71 | 257 => 70 | 128 => 95 | 129 => 96 | 294 => 86 | 295 => 87 | 296 => 88 | 297 => 89 | 298 => 90 | 299 => 91 | 216 => 92 | 300 => 93 | 301 => 94 | 328 => 104 | 329 => 105 | 330 => 106 | 331 => 107 | 332 => 108 | 215 => 109 | 343 => 113 | n => n, fun | 28 => 54 | 3 => 3 | 46 => 114 | 0 => 0 | 51 => 134 | 53 => 136 | 4 => 4 | 183 => 127 | 182 => 126 | 131 => 99 | 5 => 5 | 9 => 9 | 218 => 140 | 222 => 144 | 228 => 149 | 229 => 62 | n => n, fun | n => n⟩
theorem lays189 : Go.Proofs.Lays.n189 Try.prog lays189_ren := {
  mixed := by kernel_rfl
  f125 := Try.func71.trans (congrArg some (by kernel_rfl))
  f128 := Try.func95.trans (congrArg some (by kernel_rfl))
  f129 := Try.func96.trans (congrArg some (by kernel_rfl))
  f189 := Try.func44.trans (congrArg some (by kernel_rfl))
  f215 := Try.func109.trans (congrArg some (by kernel_rfl))
  f216 := Try.func92.trans (congrArg some (by kernel_rfl))
  f257 := Try.func70.trans (congrArg some (by kernel_rfl))
  f294 := Try.func86.trans (congrArg some (by kernel_rfl))
  f295 := Try.func87.trans (congrArg some (by kernel_rfl))
  f296 := Try.func88.trans (congrArg some (by kernel_rfl))
  f297 := Try.func89.trans (congrArg some (by kernel_rfl))
  f298 := Try.func90.trans (congrArg some (by kernel_rfl))
  f299 := Try.func91.trans (congrArg some (by kernel_rfl))
  f300 := Try.func93.trans (congrArg some (by kernel_rfl))
  f301 := Try.func94.trans (congrArg some (by kernel_rfl))
  f328 := Try.func104.trans (congrArg some (by kernel_rfl))
  f329 := Try.func105.trans (congrArg some (by kernel_rfl))
  f330 := Try.func106.trans (congrArg some (by kernel_rfl))
  f331 := Try.func107.trans (congrArg some (by kernel_rfl))
  f332 := Try.func108.trans (congrArg some (by kernel_rfl))
  f343 := Try.func113.trans (congrArg some (by kernel_rfl))
  t0 := Try.underlying0
  a0 := Try.isAgg0
  z0 := Try.sizeOf0
  v0 := Try.zeroValue0
  t3 := Try.underlying3
  a3 := Try.isAgg3
  z3 := Try.sizeOf3
  v3 := Try.zeroValue3
  t4 := Try.underlying4
  a4 := Try.isAgg4
  z4 := Try.sizeOf4
  v4 := Try.zeroValue4
  t5 := Try.underlying5
  a5 := Try.isAgg5
  z5 := Try.sizeOf5
  v5 := Try.zeroValue5
  t9 := Try.underlying9
  a9 := Try.isAgg9
  z9 := Try.sizeOf9
  v9 := Try.zeroValue9
  t28 := Try.underlying54
  a28 := Try.isAgg54
  z28 := Try.sizeOf54
  v28 := Try.zeroValue54
  t46 := Try.underlying114
  a46 := Try.isAgg114
  z46 := Try.sizeOf114
  v46 := Try.zeroValue114
  t51 := Try.underlying134
  a51 := Try.isAgg134
  z51 := Try.sizeOf134
  v51 := Try.zeroValue134
  t53 := Try.underlying136
  a53 := Try.isAgg136
  z53 := Try.sizeOf136
  v53 := Try.zeroValue136
  t131 := Try.underlying99
  a131 := Try.isAgg99
  z131 := Try.sizeOf99
  v131 := Try.zeroValue99
  t182 := Try.underlying126
  a182 := Try.isAgg126
  z182 := Try.sizeOf126
  v182 := Try.zeroValue126
  t183 := Try.underlying127
  a183 := Try.isAgg127
  z183 := Try.sizeOf127
  v183 := Try.zeroValue127
  t218 := Try.underlying140
  a218 := Try.isAgg140
  z218 := Try.sizeOf140
  v218 := Try.zeroValue140
  t222 := Try.underlying144
  a222 := Try.isAgg144
  z222 := Try.sizeOf144
  v222 := Try.zeroValue144
  t228 := Try.underlying149
  a228 := Try.isAgg149
  z228 := Try.sizeOf149
  v228 := Try.zeroValue149
  t229 := Try.underlying62
  a229 := Try.isAgg62
  z229 := Try.sizeOf62
  v229 := Try.zeroValue62 }
open Go.Sort Go.RowKit in
theorem slices_Sort_int (blk off cap : Nat) (zs : List Int) (w : World) (hH : Holds (Value.int .i64) w blk off zs.toArray) (hblk : blk < w.heap.size) (hsz : zs.length < 4611686018427387904) :
    Calls Try.prog 44 #[.slice (some ⟨blk, off, none⟩) zs.length cap] w fun e w' =>
      e = .returned (.tuple #[]) ∧ ∃ n os, w' = grow (putRow (Value.int .i64) (Sort.ahead w n) blk off (zs.mergeSort fun x y => decide (x ≤ y)).toArray) os := Any.slices_Sort_int lays189 blk off cap zs w hH hblk hsz
theorem slices_Sort_int_none (p : Option Addr) (cap : Nat) (w : World) :
    Calls Try.prog 44 #[.slice p 0 cap] w fun e w' => e = .returned (.tuple #[]) ∧ w' = w := Any.slices_Sort_int_none lays189 p cap w
open Go.RowKit Go.Proofs.YtlopfkkegjajlaaW.PrintWords PHistoryTouched
def leI (x y : Int) : Bool := decide (x ≤ y)
theorem inner_ints {w : World} {base : Nat} {ok : Nat → Prop} {v : Value} {xs : List Int} (h : (Kd.int .i64).R 3 w base ok v xs) : w.ownsRow base 3 1 v xs.length (xs.map (Value.int .i64)) := by
  obtain ⟨_, inner, ho, hr⟩ := h
  have hi : inner = xs.map (Value.int .i64) := by
    apply List.ext_getElem?
    intro j
    have hl : inner.length = xs.length * 1 := ho.1
    by_cases hj : j < xs.length
    · have h1 : (inner.drop (j * 1)).take 1 = [Value.int .i64 xs[j]] := hr.2 j _ (List.getElem?_eq_getElem hj)
      have h2 : ((inner.drop (j * 1)).take 1)[0]? = inner[j]? := by simp [List.getElem?_drop]
      rw [h1] at h2
      rw [← h2]
      simp [hj]
    · rw [List.getElem?_eq_none (by omega), List.getElem?_eq_none (by simp; omega)]
  rw [hi] at ho
  exact ho
theorem ints_R {w : World} {base : Nat} {v : Value} {xs : List Int} (h : w.ownsRow base 3 1 v xs.length (xs.map (Value.int .i64))) : (Kd.int .i64).R 3 w base (fun _ => True) v xs := by
  refine ⟨fun _ _ => trivial, xs.map (Value.int .i64), h, by show _ = xs.length * 1; simp, fun j p hj => ?_⟩
  have hjl := (List.getElem?_eq_some_iff.1 hj).1
  have hp := (List.getElem?_eq_some_iff.1 hj).2
  show ((xs.map (Value.int .i64)).drop (j * 1)).take 1 = [Value.int .i64 p]
  rw [Nat.mul_one, List.drop_eq_getElem_cons (by simpa using hjl)]
  simp [hp]
theorem sort_any (v : Value) (xs : List Int) (base : Nat) (ok : Nat → Prop) (w : World) (h : (Kd.int .i64).R 3 w base ok v xs) (hl : xs.length ≤ 4194304) :
    Calls Try.prog 44 #[v] w fun e w' => e = .returned (.tuple #[]) ∧ (Kd.int .i64).R 3 w' base (fun _ => True) v (xs.mergeSort leI) ∧ w.grownBy w' v.ownBlock := by
  have hlen : (xs.mergeSort leI).length = xs.length := List.length_mergeSort xs
  have ho := inner_ints h
  rcases ho.2 with ⟨rfl, h0⟩ | ⟨g, cap, cur, rfl, hg, hh, hc, hm, hsz, htk⟩
  · have hx : xs = [] := List.eq_nil_of_length_eq_zero (by omega)
    subst hx
    refine (slices_Sort_int_none none 0 w).mono ?_
    rintro e w' ⟨rfl, rfl⟩
    exact ⟨rfl, by simpa using Kd.R_nil (Kd.int .i64) 3 w' base (fun _ => True), ⟨rfl, rfl, rfl, Nat.le_refl _, fun _ _ _ => rfl⟩⟩
  · refine (slices_Sort_int g 0 cap xs w (holds_of_blockI hh (by rw [Nat.mul_one] at htk; exact htk)) (Array.getElem?_eq_some_iff.1 hh).1 (by omega)).mono ?_
    rintro e w' ⟨rfl, n, os, rfl⟩
    refine ⟨rfl, ?_, grownBy_sortedI _⟩
    have h1 := ownsRow_sortedI (base := base) (n := n) (os := os) (ss := xs) (ts := xs.mergeSort leI) hlen hg hh hc hm hsz
    rw [← hlen] at h1
    have h2 := ints_R h1
    rw [hlen] at h2
    exact h2
end Go.Proofs.Ytlopfkkegjajlaa
