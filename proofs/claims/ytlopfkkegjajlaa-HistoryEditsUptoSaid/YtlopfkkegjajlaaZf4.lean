/- Texts of this proof and of the kit's print for this seat, gathered by wip/shake.py: only what the proof reaches. -/
import Derived.Test.YtlopfkkegjajlaaZf3
import Derived.WalkLawsBesides
import Derived.Deep.Quiet
import Derived.StillTail
import Derived.WalkMore
import Derived.Outline
import Derived.WalkSpells
import Derived.Lib.SliceRun
import Derived.Lib.Hide
import Derived.BigRegion
import Derived.OrdersHeld
import Derived.Deep.RegionHeld3
import Derived.Deep.Slices
import Derived.ProofKit
import Derived.Shelf.Sort.Plain
import Derived.Shelf.Slices.In.SortNone
import Derived.Sort.OwnSortedInts
import Derived.Maps.RangeWalk
namespace Go.Proofs.Ytlopfkkegjajlaa
open Go.RowKit Go.Proofs.YtlopfkkegjajlaaW.PrintWords PHistoryTouched
set_option maxRecDepth 100000 in
set_option maxHeartbeats 4000000 in
theorem alone_any (nx : Int) (l : List S76) (A : Option Addr) (c : Nat) (n : S76) (A4 A5 A6 : Option Addr) (c4 c5 c6 : Nat) (w : World) (hn : NodeR w n A4 c4 A5 c5 A6 c6) :
    Calls Try.prog 46 #[.agg #[.int .i64 nx, .slice A l.length c], nodeV n A4 c4 A5 c5 A6 c6] w fun e w' => e = .returned (.bool (tv (AloneP nx l.length n))) ∧ Below w.heap.size w w' := by
  have NO : Hid (¬ AloneP nx l.length n → tv (AloneP nx l.length n) = false) := tv_no
  have HW : Hid (Boxed2 w (.cells #[.int .i64 nx, .slice A l.length c] 27) (.cells (nodeCs n A4 c4 A5 c5 A6 c6) 76) ((w.alloc (.cells #[.int .i64 nx, .slice A l.length c] 27)).alloc (.cells (nodeCs n A4 c4 A5 c5 A6 c6) 76))) := boxed2 w _ _
  cases h1 : wordB n.f1 with
  | false =>
    rw [NO.out (fun h => by have := h.word; rw [h1] at this; cases this)]
    have H1 : Hid (wordB n.f1 = false) := h1
    clear NO h1
    go_enter Try.func46, Try.ntmps46
    go_wp2_with fail
    generalize (World.alloc (World.alloc _ _) _) = W at HW ⊢
    refine (word_any n.f1 W).mono ?_
    rintro e w1 ⟨rfl, hb1⟩
    rw [H1.out]
    have HB : Hid (Below w.heap.size w w1) := below_step HW.out.b hb1
    clear hb1 HW
    go_wp2_with fail
    go_ret
    exact ⟨rfl, HB.out⟩
  | true =>
    have H1 : Hid (wordB n.f1 = true) := h1
    by_cases h2 : n.f2 = 0 ↔ n.f3.toList = []
    case neg =>
      rw [NO.out (fun h => h2 h.root)]
      have HH : Hid (¬ (n.f2 = 0 ↔ n.f3.toList = [])) := h2
      clear NO h1 h2
      by_cases e2 : n.f2 = 0 <;> by_cases e3 : n.f3.toList = []
      · exact absurd ⟨fun _ => e3, fun _ => e2⟩ HH.out
      · have e2' : (n.f2 == 0) = true := by simp [e2]
        have e3' : (n.f3.toList == []) = false := by simp [e3]
        have e3'' : n.f3.toList.isEmpty = false := by simp [e3]
        clear e2 e3
        go_enter Try.func46, Try.ntmps46
        go_wp2_with fail
        generalize (World.alloc (World.alloc _ _) _) = W at HW ⊢
        refine (word_any n.f1 W).mono ?_
        rintro e w1 ⟨rfl, hb1⟩
        rw [H1.out]
        have q2 : w1.cell? ⟨w.heap.size + 1, 2, none⟩ = some (.int .i64 n.f2) := blk_cell (HW.out.below hb1).k2 2
        have q3 : w1.cell? ⟨w.heap.size + 1, 3, none⟩ = some (.string n.f3) := blk_cell (HW.out.below hb1).k2 3
        have HB : Hid (Below w.heap.size w w1) := below_step HW.out.b hb1
        clear hb1 HW
        go_wp2_with fail
        go_ret
        exact ⟨rfl, HB.out⟩
      · have e2' : (n.f2 == 0) = false := by simp [e2]
        have e3' : (n.f3.toList == []) = true := by simp [e3]
        have e3'' : n.f3.toList.isEmpty = true := by simp [e3]
        clear e2 e3
        go_enter Try.func46, Try.ntmps46
        go_wp2_with fail
        generalize (World.alloc (World.alloc _ _) _) = W at HW ⊢
        refine (word_any n.f1 W).mono ?_
        rintro e w1 ⟨rfl, hb1⟩
        rw [H1.out]
        have q2 : w1.cell? ⟨w.heap.size + 1, 2, none⟩ = some (.int .i64 n.f2) := blk_cell (HW.out.below hb1).k2 2
        have q3 : w1.cell? ⟨w.heap.size + 1, 3, none⟩ = some (.string n.f3) := blk_cell (HW.out.below hb1).k2 3
        have HB : Hid (Below w.heap.size w w1) := below_step HW.out.b hb1
        clear hb1 HW
        go_wp2_with fail
        go_ret
        exact ⟨rfl, HB.out⟩
      · exact absurd ⟨fun h => absurd h e2, fun h => absurd h e3⟩ HH.out
    by_cases h4 : n.f3.toList ≠ [] → wordB n.f3 = true
    case neg =>
      rw [NO.out (fun h => h4 h.role)]
      have e3 : ¬ n.f3.toList = [] := fun h => h4 (fun h' => absurd h h')
      have H4 : Hid (wordB n.f3 = false) := by
        cases hw : wordB n.f3 with
        | false => rfl
        | true => exact absurd (fun _ => hw) h4
      have e2 : ¬ n.f2 = 0 := fun h => e3 (h2.1 h)
      have e2' : (n.f2 == 0) = false := by simp [e2]
      have e3' : (n.f3.toList == []) = false := by simp [e3]
      have e3'' : n.f3.toList.isEmpty = false := by simp [e3]
      clear NO h1 h2 h4 e2 e3
      go_enter Try.func46, Try.ntmps46
      go_wp2_with fail
      generalize (World.alloc (World.alloc _ _) _) = W at HW ⊢
      refine (word_any n.f1 W).mono ?_
      rintro e w1 ⟨rfl, hb1⟩
      rw [H1.out]
      have q2 : w1.cell? ⟨w.heap.size + 1, 2, none⟩ = some (.int .i64 n.f2) := blk_cell (HW.out.below hb1).k2 2
      have q3 : w1.cell? ⟨w.heap.size + 1, 3, none⟩ = some (.string n.f3) := blk_cell (HW.out.below hb1).k2 3
      have HB : Hid (Below w.heap.size w w1) := below_step HW.out.b hb1
      clear hb1 HW
      go_wp2_with fail
      refine (word_any n.f3 w1).mono ?_
      rintro e w2 ⟨rfl, hb2⟩
      rw [H4.out]
      have HB2 : Hid (Below w.heap.size w w2) := below_step HB.out hb2
      clear hb2 q2 q3 HB
      go_wp2_with fail
      go_ret
      exact ⟨rfl, HB2.out⟩
    rcases Nat.lt_or_ge l.length n.f5.length with h5 | h5
    · rw [NO.out (fun h => by have := h.kids; omega)]
      have H2 : Hid (n.f2 = 0 ↔ n.f3.toList = []) := h2
      have H4 : Hid (n.f3.toList ≠ [] → wordB n.f3 = true) := h4
      have h5b : decide (l.length < n.f5.length) = true := by simp; omega
      clear NO h1 h2 h4
      by_cases e3 : n.f3.toList = []
      · have e2 : n.f2 = 0 := H2.out.2 e3
        have e2' : (n.f2 == 0) = true := by simp [e2]
        have e3' : (n.f3.toList == []) = true := by simp [e3]
        have e3'' : n.f3.toList.isEmpty = true := by simp [e3]
        clear e2 e3
        go_enter Try.func46, Try.ntmps46
        go_wp2_with fail
        generalize (World.alloc (World.alloc _ _) _) = W at HW ⊢
        refine (word_any n.f1 W).mono ?_
        rintro e w1 ⟨rfl, hb1⟩
        rw [H1.out]
        have q1 : w1.cell? ⟨w.heap.size, 1, none⟩ = some (.slice A l.length c) := blk_cell (HW.out.below hb1).k1 1
        have q2 : w1.cell? ⟨w.heap.size + 1, 2, none⟩ = some (.int .i64 n.f2) := blk_cell (HW.out.below hb1).k2 2
        have q3 : w1.cell? ⟨w.heap.size + 1, 3, none⟩ = some (.string n.f3) := blk_cell (HW.out.below hb1).k2 3
        have q5 : w1.cell? ⟨w.heap.size + 1, 5, none⟩ = some (.slice A5 n.f5.length c5) := blk_cell (HW.out.below hb1).k2 5
        have HB : Hid (Below w.heap.size w w1) := below_step HW.out.b hb1
        clear hb1 HW
        go_wp2_with fail
        go_ret
        exact ⟨rfl, HB.out⟩
      · have e2 : ¬ n.f2 = 0 := fun h => e3 (H2.out.1 h)
        have H5 : Hid (wordB n.f3 = true) := H4.out e3
        have e2' : (n.f2 == 0) = false := by simp [e2]
        have e3' : (n.f3.toList == []) = false := by simp [e3]
        have e3'' : n.f3.toList.isEmpty = false := by simp [e3]
        clear e2 e3
        go_enter Try.func46, Try.ntmps46
        go_wp2_with fail
        generalize (World.alloc (World.alloc _ _) _) = W at HW ⊢
        refine (word_any n.f1 W).mono ?_
        rintro e w1 ⟨rfl, hb1⟩
        rw [H1.out]
        have q2 : w1.cell? ⟨w.heap.size + 1, 2, none⟩ = some (.int .i64 n.f2) := blk_cell (HW.out.below hb1).k2 2
        have q3 : w1.cell? ⟨w.heap.size + 1, 3, none⟩ = some (.string n.f3) := blk_cell (HW.out.below hb1).k2 3
        have HW1 : Hid (Boxed2 w (.cells #[.int .i64 nx, .slice A l.length c] 27) (.cells (nodeCs n A4 c4 A5 c5 A6 c6) 76) w1) := HW.out.below hb1
        clear hb1 HW
        go_wp2_with fail
        refine (word_any n.f3 w1).mono ?_
        rintro e w2 ⟨rfl, hb2⟩
        rw [H5.out]
        have HB2 : Hid (Below w.heap.size w w2) := below_step HW1.out.b hb2
        have q1 : w2.cell? ⟨w.heap.size, 1, none⟩ = some (.slice A l.length c) := blk_cell (HW1.out.below hb2).k1 1
        have q5 : w2.cell? ⟨w.heap.size + 1, 5, none⟩ = some (.slice A5 n.f5.length c5) := blk_cell (HW1.out.below hb2).k2 5
        clear hb2 q2 q3 HW1
        go_wp2_with fail
        go_ret
        exact ⟨rfl, HB2.out⟩
    · exact alone_yes nx l A c n A4 A5 A6 c4 c5 c6 w hn h1 h2 h4 h5
end Go.Proofs.Ytlopfkkegjajlaa
namespace Go.Proofs.Ytlopfkkegjajlaa
open Go.RowKit Go.Proofs.YtlopfkkegjajlaaW.PrintWords PHistoryTouched
structure IdsUp (l : List S76) : Prop where
  up : ∀ i j : Nat, i < j → j < l.length → (rd_T76 l i).f0 < (rd_T76 l j).f0
  lo : ∀ i : Nat, i < l.length → 1 ≤ (rd_T76 l i).f0
  hi : ∀ i : Nat, i < l.length → (rd_T76 l i).f0 ≤ 1048576
def Found (l : List S76) (id : Int) (p : Int) (b : Bool) : Prop :=
  (b = true → ∃ q : Nat, p = q ∧ q < l.length ∧ (rd_T76 l q).f0 = id) ∧ (b = false → ∀ q : Nat, q < l.length → (rd_T76 l q).f0 ≠ id)
structure I64 (x : Int) : Prop where
  lo : -9223372036854775808 ≤ x
  hi : x ≤ 9223372036854775807
theorem cmp_any (a id : Int) (c1 c2 c3 c4 c5 c6 : Value) (w : World) :
    Calls Try.prog 75 #[.agg #[.int .i64 a, c1, c2, c3, c4, c5, c6], .int .i64 id] w fun e w' => e = .returned (.int .i64 (wrap64 (a - id))) ∧ Below w.heap.size w w' := by
  go_enter Try.func75, Try.ntmps75
  go_wp2
  go_ret
  exact ⟨rfl, (Below.refl _ _).alloc (Nat.le_refl _) _⟩
theorem cmp_at (a id d : Int) (h : Hid (wrap64 (a - id) = d)) (c1 c2 c3 c4 c5 c6 : Value) (w : World) :
    Calls Try.prog 75 #[.agg #[.int .i64 a, c1, c2, c3, c4, c5, c6], .int .i64 id] w fun e w' => e = .returned (.int .i64 d) ∧ Below w.heap.size w w' := by
  rw [← h.out]; exact cmp_any a id c1 c2 c3 c4 c5 c6 w
theorem found_out {l : List S76} {id : Int} {i : Int} {n : Nat} (hn : n = l.length) (hi : (n : Int) ≤ i) (h : ∀ q : Nat, q < n → (rd_T76 l q).f0 = id → i ≤ q) : Found l id i false :=
  ⟨fun h => by simp at h, fun _ q hq he => by have := h q (by omega) he; omega⟩
theorem found_in {l : List S76} {id : Int} {i d : Int} (h0 : 0 ≤ i) (h1 : i < l.length) (hs : IdsUp l) (hid : I64 id) (h : ∀ q : Nat, q < l.length → (rd_T76 l q).f0 = id → i ≤ q ∧ q ≤ i) (hd : wrap64 ((rd_T76 l i).f0 - id) = d) : Found l id i (d == 0) := by
  obtain ⟨i, rfl⟩ := Int.eq_ofNat_of_zero_le h0
  have e : (d == 0) = decide ((rd_T76 l i).f0 = id) := by
    subst hd
    rw [Bool.eq_iff_iff]
    simp only [beq_iff_eq, decide_eq_true_eq]
    have b1 := hs.lo i (by omega)
    have b2 := hs.hi i (by omega)
    have b3 := hid.1
    have b4 := hid.2
    unfold wrap64; omega
  rw [e]
  refine ⟨fun hb => ⟨i, rfl, by omega, by simpa using hb⟩, fun hb q hq he => ?_⟩
  have := h q hq he
  obtain rfl : q = i := by omega
  simp [he] at hb
theorem search_side {l : List S76} (hs : IdsUp l) (m : Int) (h0 : 0 ≤ m) (h1 : m < l.length) (id : Int) : ∀ q : Nat, q < l.length → (rd_T76 l q).f0 = id → (wrap64 ((rd_T76 l m).f0 - id) < 0 → m + 1 ≤ q) ∧ (¬ wrap64 ((rd_T76 l m).f0 - id) < 0 → q ≤ m) := by
  intro q hq he
  obtain ⟨m, rfl⟩ := Int.eq_ofNat_of_zero_le h0
  have a1 := hs.lo q hq
  have a2 := hs.hi q hq
  have b1 := hs.lo m (by omega)
  have b2 := hs.hi m (by omega)
  have hw : wrap64 ((rd_T76 l m).f0 - id) = (rd_T76 l m).f0 - id := by unfold wrap64; omega
  rw [hw]
  rcases Nat.lt_trichotomy m q with h | h | h
  · have := hs.up m q h hq; omega
  · subst h; omega
  · have := hs.up q m h (by omega); omega
def SearchPost (l : List S76) (id : Int) (w : World) (e : Ending) (w' : World) : Prop := ∃ (p : Int) (b : Bool), e = .returned (.tuple #[.int .i64 p, .bool b]) ∧ Found l id p b ∧ Below w.heap.size w w'
set_option maxRecDepth 100000 in
set_option maxHeartbeats 1000000 in
theorem search_any (A : Option Addr) (l : List S76) (cp : Nat) (id : Int) (w : World) (hr : Kd.C k76 w A l.length l) (hs : IdsUp l) (hl : l.length ≤ 4096) (hid : I64 id) :
    Calls Try.prog 74 #[.slice A l.length cp, .int .i64 id, .func (.func 75) #[] #[]] w (SearchPost l id w) := by
  have HR : Hid (Kd.C k76 w A l.length l) := hr
  have HS : Hid (IdsUp l) := hs
  have HI : Hid (I64 id) := hid
  clear hr hs hid
  go_enter Try.func74, Try.ntmps74
  go_wp2
  go_loopw [9, 10] (fun a b W => ∃ i j : Int, 0 ≤ i ∧ i ≤ j ∧ j ≤ l.length ∧ a = .int .i64 i ∧ b = .int .i64 j ∧ Hid (Below w.heap.size w W)
    ∧ Hid (∀ q : Nat, q < l.length → (rd_T76 l q).f0 = id → i ≤ q ∧ q ≤ j)) (fun a b _ => (intOf b).toNat - (intOf a).toNat)
  case atStart => exact ⟨0, l.length, by omega, by omega, by omega, rfl, rfl, Below.refl _ _, fun q hq _ => by omega⟩
  case round =>
    obtain ⟨i, j, h0, hij, hj, rfl, rfl, HB, HF⟩ := hrel
    by_cases hlt : i < j
    · obtain ⟨m, hm⟩ : ∃ m, (i + j) / 2 = m := ⟨_, rfl⟩
      have hm0 : i ≤ m := by omega
      have hm1 : m < j := by omega
      obtain ⟨ad, A4, c4, A5, c5, A6, c6, rfl, hx0, hx1, hx2, hx3, hx4, hx5, hx6, _⟩ := at_T76 HR.out m (by omega) (by omega)
      replace hx0 := (HB.out.cell (World.block_lt_of_cell? w _ hx0)).trans hx0
      replace hx1 := (HB.out.cell (World.block_lt_of_cell? w _ hx1)).trans hx1
      replace hx2 := (HB.out.cell (World.block_lt_of_cell? w _ hx2)).trans hx2
      replace hx3 := (HB.out.cell (World.block_lt_of_cell? w _ hx3)).trans hx3
      replace hx4 := (HB.out.cell (World.block_lt_of_cell? w _ hx4)).trans hx4
      replace hx5 := (HB.out.cell (World.block_lt_of_cell? w _ hx5)).trans hx5
      replace hx6 := (HB.out.cell (World.block_lt_of_cell? w _ hx6)).trans hx6
      have HU : Hid (∀ q : Nat, q < l.length → (rd_T76 l q).f0 = id → (wrap64 ((rd_T76 l m).f0 - id) < 0 → m + 1 ≤ q) ∧ (¬ wrap64 ((rd_T76 l m).f0 - id) < 0 → q ≤ m)) := search_side HS.out m (by omega) (by omega) id
      obtain ⟨d, HD⟩ : ∃ d, Hid (wrap64 ((rd_T76 l m).f0 - id) = d) := ⟨_, rfl⟩
      by_cases hc : d < 0
      · have HF' : Hid (∀ q : Nat, q < l.length → (rd_T76 l q).f0 = id → m + 1 ≤ q ∧ q ≤ j) := fun q hq he => ⟨(HU.out q hq he).1 (by rw [HD.out]; exact hc), (HF.out q hq he).2⟩
        clear HU HF
        go_wp2_with (first | (go_at_call 75; refine (cmp_at _ _ d HD _ _ _ _ _ _ _).mono ?_; rintro e w' ⟨rfl, hb⟩; have HB2 : Hid (Below w.heap.size w w') := below_step HB.out hb; clear HB))
        go_roundw
        case rel => exact ⟨m + 1, j, by omega, by omega, hj, rfl, rfl, HB2, HF'⟩
        case measure => simp [intOf]; omega
      · have HF' : Hid (∀ q : Nat, q < l.length → (rd_T76 l q).f0 = id → i ≤ q ∧ q ≤ m) := fun q hq he => ⟨(HF.out q hq he).1, (HU.out q hq he).2 (by rw [HD.out]; exact hc)⟩
        clear HU HF
        go_wp2_with (first | (go_at_call 75; refine (cmp_at _ _ d HD _ _ _ _ _ _ _).mono ?_; rintro e w' ⟨rfl, hb⟩; have HB2 : Hid (Below w.heap.size w w') := below_step HB.out hb; clear HB))
        go_roundw
        case rel => exact ⟨i, m, by omega, by omega, by omega, rfl, rfl, HB2, HF'⟩
        case measure => simp [intOf]; omega
    · by_cases hn : i < l.length
      · obtain ⟨ad, A4, c4, A5, c5, A6, c6, rfl, hx0, hx1, hx2, hx3, hx4, hx5, hx6, _⟩ := at_T76 HR.out i (by omega) (by omega)
        replace hx0 := (HB.out.cell (World.block_lt_of_cell? w _ hx0)).trans hx0
        replace hx1 := (HB.out.cell (World.block_lt_of_cell? w _ hx1)).trans hx1
        replace hx2 := (HB.out.cell (World.block_lt_of_cell? w _ hx2)).trans hx2
        replace hx3 := (HB.out.cell (World.block_lt_of_cell? w _ hx3)).trans hx3
        replace hx4 := (HB.out.cell (World.block_lt_of_cell? w _ hx4)).trans hx4
        replace hx5 := (HB.out.cell (World.block_lt_of_cell? w _ hx5)).trans hx5
        replace hx6 := (HB.out.cell (World.block_lt_of_cell? w _ hx6)).trans hx6
        obtain ⟨d, HD⟩ : ∃ d, Hid (wrap64 ((rd_T76 l i).f0 - id) = d) := ⟨_, rfl⟩
        have HQ : Hid (Found l id i (d == 0)) := found_in h0 hn HS.out HI.out (fun q hq he => by have := HF.out q hq he; omega) HD.out
        generalize hdb : (d == 0) = b at HQ
        go_wp2_with (first | (go_at_call 75; refine (cmp_at _ _ d HD _ _ _ _ _ _ _).mono ?_; rintro e w' ⟨rfl, hb⟩; have HB2 : Hid (Below w.heap.size w w') := below_step HB.out hb; clear HB))
        go_ret2
        exact ⟨i, b, rfl, HQ.out, HB2.out⟩
      · have HQ : Hid (Found l id i false) := found_out rfl (by omega) (fun q hq he => (HF.out q hq he).1)
        go_wp2_with fail
        go_ret2
        exact ⟨i, false, rfl, HQ.out, HB.out⟩
def Placed (l : List S76) (id : Int) (p : Int) : Prop :=
  (p < 0 → p = -1 ∧ ∀ q : Nat, q < l.length → (rd_T76 l q).f0 ≠ id) ∧ (0 ≤ p → ∃ q : Nat, p = q ∧ q < l.length ∧ (rd_T76 l q).f0 = id)
def PlacePost (l : List S76) (id : Int) (w : World) (e : Ending) (w' : World) : Prop := ∃ p : Int, e = .returned (.int .i64 p) ∧ Placed l id p ∧ Below w.heap.size w w'
set_option maxRecDepth 100000 in
set_option maxHeartbeats 1000000 in
theorem place_any (nx : Int) (A : Option Addr) (l : List S76) (cp : Nat) (id : Int) (w : World) (hr : Kd.C k76 w A l.length l) (hs : IdsUp l) (hl : l.length ≤ 4096) (hid : I64 id) :
    Calls Try.prog 54 #[.agg #[.int .i64 nx, .slice A l.length cp], .int .i64 id] w (PlacePost l id w) := by
  have HR : Hid (Kd.C k76 w A l.length l) := hr
  have HS : Hid (IdsUp l) := hs
  have HI : Hid (I64 id) := hid
  clear hr hs hid
  go_enter Try.func54, Try.ntmps54
  go_wp2_with fail
  have HR' := Kd.C_below HR.out (below_alloc (Below.refl w.heap.size w) (Obj.cells #[Value.int IntKind.i64 nx, Value.slice A l.length cp] 27))
  refine (search_any A l cp id _ HR' HS.out hl HI.out).mono ?_
  rintro e w1 ⟨p, b, rfl, hf, hb⟩
  have HB : Hid (Below w.heap.size w w1) := below_step (below_alloc (Below.refl w.heap.size w) _) hb
  cases b with
  | true =>
    obtain ⟨q, rfl, hq, he⟩ := hf.1 rfl
    have HP : Hid (Placed l id (q : Int)) := ⟨fun h => by omega, fun _ => ⟨q, rfl, hq, he⟩⟩
    clear hf HR' hb he
    go_wp2_with fail
    go_ret
    exact ⟨_, rfl, HP.out, HB.out⟩
  | false =>
    have HP : Hid (Placed l id (-1)) := ⟨fun _ => ⟨rfl, hf.2 rfl⟩, fun h => by omega⟩
    clear hf HR' hb
    go_wp2_with fail
    go_ret
    exact ⟨_, rfl, HP.out, HB.out⟩
end Go.Proofs.Ytlopfkkegjajlaa
namespace Go.Proofs.Ytlopfkkegjajlaa
open Go
section
variable {P : Program} {ops : Array Oper} {C : World → Prop}
def RunQ (P : Program) (ops : Array Oper) (C : World → Prop) (F : Act → Prop) : List Nat → Act → Prop
  | [], a => F a
  | i :: rem, a => qOp P ops C i (RunQ P ops C F rem) a
def apartAt (ops : Array Oper) (i j : Nat) : Bool :=
  match ops[i]?, ops[j]? with
  | some x, some y => x.apart ops y
  | _, _ => false
theorem run_front {F : Act → Prop} (hsel : ∀ (j : Nat) (o : Oper) cs b, ops[j]? = some o → o.op ≠ .select cs b) : ∀ (l1 : List Nat) (j : Nat) (l2 : List Nat) (a : Act), (∀ i ∈ l1, apartAt ops i j = true) →
    RunQ P ops C F (l1 ++ j :: l2) a → RunQ P ops C F (j :: (l1 ++ l2)) a
  | [], _, _, _, _, h => h
  | i :: l1, j, l2, a, hap, h => by
    have h1 : qOp P ops C i (RunQ P ops C F (j :: (l1 ++ l2))) a := qOp_mono (fun a' h' => run_front hsel l1 j l2 a' (fun k hk => hap k (List.mem_cons_of_mem _ hk)) h') h
    have ha := hap i (List.mem_cons_self)
    unfold apartAt at ha
    cases hi : ops[i]? with
    | none => simp [hi] at ha
    | some oi =>
      cases hj : ops[j]? with
      | none => simp [hi, hj] at ha
      | some oj =>
        simp only [hi, hj] at ha
        obtain ⟨v, hy, hK⟩ := yieldsIn_of_qOp hi h1
        have h2 := qOp_put hj ha (fun cs b => hsel i oi cs b hi) (fun cs b => hsel j oj cs b hj) hy hK
        exact qOp_mono (fun a' h' => h'.1.qOp hi h'.2) h2
def headB (ops : Array Oper) (n : Nat) : Bool :=
  (List.range n).all fun j => (match ops[j]? with | some o => o.after.all (fun e => !Region.binds .any e || decide (e.on < j)) | none => false) &&
    (List.range j).all fun i => Region.waitsFor .any ops j i || apartAt ops i j
def headed (m n : Nat) : Array Bool := (Array.range m).map fun i => decide (i < n)
def tailB (ops : Array Oper) (n : Nat) : Bool :=
  Region.noSelect ops && decide (n < ops.size) && Region.sinkB .any ops n && Region.chainB .any ops n && headB ops n && Region.seqB .any ops (ops.size - n) n (headed ops.size n)
structure Rem (ops : Array Oper) (n : Nat) (listed : Array Bool) (rem : List Nat) : Prop where
  inv : HeadInv .any ops n listed
  mem : ∀ i, i ∈ rem ↔ i < n ∧ listed.getD i true = false
  up : rem.Pairwise (· < ·)
theorem rem_done {n : Nat} {listed : Array Bool} (h : Rem ops n listed []) : listed = headed ops.size n := by
  apply Array.ext
  · simp [headed, h.inv.size]
  · intro i h1 h2
    have hs : i < ops.size := by rw [← h.inv.size]; exact h1
    have e : listed[i] = listed.getD i true := by simp [h1]
    rw [e]
    simp only [headed, Array.getElem_map, Array.getElem_range]
    rcases Nat.lt_or_ge i n with hi | hi
    · have := h.mem i
      simp only [List.not_mem_nil, false_iff, not_and] at this
      have := this hi
      rw [decide_eq_true hi]
      simpa using this
    · rw [decide_eq_false (by omega)]
      exact h.inv.tail i hi hs
theorem any_of_run {n g : Nat} {F : Act → Prop} {Q' : Exit → Act → World → Prop} (hsel : ∀ (j : Nat) (o : Oper) cs b, ops[j]? = some o → o.op ≠ .select cs b)
    (hs : Region.sinkB .any ops n = true) (hc : Region.chainB .any ops n = true) (hn : n < ops.size) (hh : headB ops n = true)
    (hend : ∀ a w, C w → F a → wpAny P .any ops Q' g (headed ops.size n) a w) :
    ∀ (m : Nat) (rem : List Nat) (listed : Array Bool) (a : Act) (w : World), rem.length = m → Rem ops n listed rem → C w → RunQ P ops C F rem a → wpAny P .any ops Q' (m + g) listed a w
  | 0, rem, listed, a, w, hm, hr, hw, h => by
    obtain rfl : rem = [] := List.eq_nil_of_length_eq_zero hm
    rw [Nat.zero_add, rem_done hr]
    exact hend a w hw h
  | m + 1, rem, listed, a, w, hm, hr, hw, h => by
    have hhead : ∀ j, j < n → ∃ o, ops[j]? = some o ∧ (∀ e ∈ o.after, Region.binds .any e = true → e.on < j) ∧ ∀ i, i < j → Region.waitsFor .any ops j i = true ∨ apartAt ops i j = true := by
      intro j hj
      have h1 := List.all_eq_true.1 hh j (List.mem_range.2 hj)
      rw [Bool.and_eq_true] at h1
      cases ho : ops[j]? with
      | none => simp [ho] at h1
      | some o =>
        refine ⟨o, rfl, fun e he hb => ?_, fun i hi => ?_⟩
        · have h2 := h1.1
          simp only [ho] at h2
          have h3 := Array.all_eq_true_iff_forall_mem.1 h2 e he
          simp only [hb, Bool.not_true, Bool.false_or, decide_eq_true_eq] at h3
          exact h3
        · have h2 := List.all_eq_true.1 h1.2 i (List.mem_range.2 hi)
          rwa [Bool.or_eq_true] at h2
    obtain ⟨i0, rem', rfl⟩ : ∃ i0 rem', rem = i0 :: rem' := by
      cases rem with
      | nil => simp at hm
      | cons i r => exact ⟨i, r, rfl⟩
    have hi0 := (hr.mem i0).1 List.mem_cons_self
    have hready0 : i0 ∈ Region.ready .any ops listed := by
      obtain ⟨o, ho, he, _⟩ := hhead i0 hi0.1
      refine mem_ready.2 ⟨hi0.2, o, ho, fun e hx hb => ?_⟩
      have hlt := he e hx hb
      have hnot : e.on ∉ i0 :: rem' := fun hmem => by
        rcases List.mem_cons.1 hmem with h1 | h1
        · omega
        · have := (List.pairwise_cons.1 hr.up).1 _ h1; omega
      have h2 : ¬ listed.getD e.on true = false := fun h3 => hnot ((hr.mem e.on).2 ⟨by omega, h3⟩)
      have hsz : e.on < listed.size := by rw [hr.inv.size]; omega
      simp [hsz] at h2 ⊢
      exact h2
    have hsucc : m + 1 + g = (m + g) + 1 := by omega
    rw [hsucc]
    refine ⟨fun h0 => (by rw [h0] at hready0; cases hready0), fun j hj => ?_⟩
    have hjun := (mem_ready.1 hj).1
    have hjn : j < n := by
      rcases Nat.lt_or_ge j n with h1 | h1
      · exact h1
      · exact absurd hj (tail_waits hs hc hn hr.inv _ i0 rfl hi0.1 hi0.2 j h1)
    have hjm : j ∈ i0 :: rem' := (hr.mem j).2 ⟨hjn, hjun⟩
    obtain ⟨l1, l2, hl⟩ := List.append_of_mem hjm
    rw [hl] at h hm
    have hup := hr.up
    rw [hl] at hup
    have hap : ∀ i ∈ l1, apartAt ops i j = true := by
      intro i hi
      have hij : i < j := (List.pairwise_append.1 hup).2.2 i hi j List.mem_cons_self
      obtain ⟨o, ho, _, hw2⟩ := hhead j hjn
      rcases hw2 i hij with h1 | h1
      · exfalso
        obtain ⟨o', ho', e, he, hb, hon⟩ := Region.waitsFor_spec h1
        obtain ⟨_, o2, ho2, hall⟩ := mem_ready.1 hj
        have : o' = o2 := Option.some.inj (ho'.symm.trans ho2)
        subst this
        have h2 := hall e he hb
        have h3 : listed.getD i true = false := ((hr.mem i).1 (by rw [hl]; exact List.mem_append_left _ hi)).2
        rw [hon, getD_both h3] at h2
        cases h2
      · exact h1
    have h2 := run_front hsel l1 j l2 a hap h
    have hlen : (l1 ++ l2).length = m := by simp at hm ⊢; omega
    have hnd : ∀ i, i ∈ l1 ++ l2 → i ≠ j := by
      intro i hi
      rcases List.mem_append.1 hi with h3 | h3
      · have := (List.pairwise_append.1 hup).2.2 i h3 j List.mem_cons_self; omega
      · have := (List.pairwise_cons.1 (List.pairwise_append.1 hup).2.1).1 i h3; omega
    have hr2 : Rem ops n (listed.setIfInBounds j true) (l1 ++ l2) := by
      refine ⟨hr.inv.set hj hjn, fun i => ?_, ?_⟩
      · by_cases hij : i = j
        · subst hij
          have hsz : i < listed.size := by rw [hr.inv.size]; omega
          constructor
          · intro h3; exact absurd rfl (hnd i h3)
          · rintro ⟨_, h3⟩; simp [hsz] at h3
        · rw [getD_set_ne true (Ne.symm hij)]
          rw [← hr.mem i, hl]
          simp only [List.mem_append, List.mem_cons]
          constructor
          · rintro (h3 | h3)
            · exact .inl h3
            · exact .inr (.inr h3)
          · rintro (h3 | h3 | h3)
            · exact .inl h3
            · exact absurd h3 hij
            · exact .inr h3
      · rw [List.pairwise_append] at hup ⊢
        exact ⟨hup.1, (List.pairwise_cons.1 hup.2.1).2, fun x hx y hy => hup.2.2 x hx y (List.mem_cons_of_mem _ hy)⟩
    exact wpOp_of_qOp hw (fun a' w' hw' h' => any_of_run hsel hs hc hn hh hend m (l1 ++ l2) _ a' w' hlen hr2 hw' h') h2
theorem run_of_quiet {F : Act → Prop} : ∀ (l : List Oper) (k : Nat) (a : Act), (∀ j, j < l.length → l[j]? = ops[k + j]?) → wpQuiet P ops C F l a → RunQ P ops C F (List.range' k l.length) a
  | [], _, _, _, h => h
  | o :: l, k, a, hl, h => by
    have h0 : ops[k]? = some o := by simpa using (hl 0 (by simp)).symm
    rw [List.length_cons, List.range'_succ]
    have h1 : qOp P ops C k (wpQuiet P ops C F l) a := by unfold qOp; simp only [h0]; exact h
    exact qOp_mono (fun a' h' => run_of_quiet l (k + 1) a' (fun j hj => by have := hl (j + 1) (by simp; omega); simpa [Nat.add_assoc, Nat.add_comm 1 j] using this) h') h1
end
theorem wp_region_tail {P : Program} {C : World → Prop} {id : Nat} {Q : Exit → Act → World → Prop} {a : Act} {w : World} {l : List Oper} (n : Nat) (hm : P.follows .mixedOrders = true) (hB : tailB l.toArray n = true) (hC : C { w with drawn := w.drawn + 1 })
    (h : wpQuiet P l.toArray C (fun a' => ∀ w', C w' → wpList P l.toArray Q (l.drop n) a' w') (l.take n) a) : (Code.region id l.toArray true).wp P Q a w := by
  simp only [tailB, Bool.and_eq_true, decide_eq_true_eq] at hB
  obtain ⟨⟨⟨⟨⟨hsel, hn⟩, hs⟩, hc⟩, hh⟩, hq⟩ := hB
  have hn' : n < l.length := by simpa using hn
  have htl : (l.take n).length = n := by simp; omega
  have hdl : (l.drop n).length = l.toArray.size - n := by simp
  have hrun := run_of_quiet (ops := l.toArray) (l.take n) 0 a (fun j hj => by
    have hj' : j < n := by rw [htl] at hj; exact hj
    simp [hj']) h
  rw [htl] at hrun
  have hrem : Rem l.toArray n (Array.replicate l.toArray.size false) (List.range' 0 n) := by
    refine ⟨⟨by simp, fun j oj _ hl => (by rw [getD_replicate_false] at hl; cases hl), fun t _ ht => getD_in (by simpa using ht) (getD_replicate_false _ _)⟩, fun i => ?_, ?_⟩
    · rw [List.mem_range'_1]
      constructor
      · rintro ⟨_, h2⟩; exact ⟨by omega, getD_in (by simp; omega) (getD_replicate_false _ _)⟩
      · rintro ⟨h1, _⟩; exact ⟨by omega, by omega⟩
    · exact List.pairwise_lt_range'
  refine wp_region_any hm ?_
  have := any_of_run (P := P) (C := C) (g := l.toArray.size - n) (Q' := Q) (Region.noSelect_spec hsel) hs hc hn hh (fun a' w' hw' hF => by
    have := wpAny_of_seq (md := .any) (Q' := Q) (l.drop n) n _ a' w' (fun j => by simp [List.getElem?_drop]) (by rw [hdl]; exact hq) (hF w' hw')
    rwa [hdl] at this) n (List.range' 0 n) _ a _ (by simp) hrem hC hrun
  rw [show n + (l.toArray.size - n) = l.toArray.size by omega] at this
  exact this
end Go.Proofs.Ytlopfkkegjajlaa
namespace Go.Proofs.Ytlopfkkegjajlaa
open Go.RowKit Go.Proofs.YtlopfkkegjajlaaW.PrintWords PHistoryTouched
theorem wp_region_bwt {P : Program} {id : Nat} {Q : Exit → Act → World → Prop} {a : Act} {w : World} {l : List Oper} (n : Nat) (hm : P.follows .mixedOrders = true) (hB : tailB l.toArray n = true)
    (h : wpQuiet P l.toArray (fun w' => ∃ x : BW w, w' = x.1) (fun a' => ∀ w', (∃ x : BW w, w' = x.1) → wpList P l.toArray Q (l.drop n) a' w') (l.take n) a) : (Code.region id l.toArray true).wp P Q a w :=
  wp_region_tail (C := fun w' => ∃ x : BW w, w' = x.1) n hm hB ⟨⟨{ w with drawn := w.drawn + 1 }, ⟨rfl, rfl, rfl, Nat.le_refl _, fun _ _ => rfl⟩⟩, rfl⟩ h
noncomputable def errI (p : Prop) : Int := @ite Int p (Classical.propDecidable p) 0 29
theorem errI_yes {p : Prop} (h : p) : errI p = 0 := @if_pos p (Classical.propDecidable p) h Int 0 29
theorem errI_no {p : Prop} (h : ¬ p) : errI p = 29 := @if_neg p (Classical.propDecidable p) h Int 0 29
theorem errI_congr {p q : Prop} (h : p ↔ q) : errI p = errI q := by rw [propext h]
def KidsOk (l : List S76) (n : S76) : Prop := ∀ j : Nat, j < n.f5.length → ∃ p : Nat, p < l.length ∧ (rd_T76 l p).f0 = rd n.f5 j ∧ (rd_T76 l p).f2 = n.f0
def kidsTo (l : List S76) (i : Nat) : List Int := (l.take i).flatMap (·.f5)
def cntL (l : List S76) (K : List Int) : List Int := (List.range l.length).map fun p : Nat => (K.count (rd_T76 l p).f0 : Int)
def DeepOk (l : List S76) : Nat → S76 → Prop
  | 0, _ => False
  | k + 1, n => n.f2 = 0 ∨ ∃ p : Nat, p < l.length ∧ (rd_T76 l p).f0 = n.f2 ∧ DeepOk l k (rd_T76 l p)
structure HangsP (l : List S76) : Prop where
  kids : ∀ i : Nat, i < l.length → KidsOk l (rd_T76 l i)
  met0 : ∀ i : Nat, i < l.length → (rd_T76 l i).f2 = 0 → (kidsTo l l.length).count (rd_T76 l i).f0 = 0
  met1 : ∀ i : Nat, i < l.length → (rd_T76 l i).f2 ≠ 0 → (kidsTo l l.length).count (rd_T76 l i).f0 = 1
  deep : ∀ i : Nat, i < l.length → DeepOk l 64 (rd_T76 l i)
def MetR (W : World) (g : Nat) (C : List Int) : Prop := W.heap[g]? = some (.cells (nums .i64 C).toArray 3 (0, 0))
theorem MetR.cell {W : World} {g : Nat} {C : List Int} (h : MetR W g C) (p : Nat) (hp : p < C.length) : W.cell? ⟨g, p, none⟩ = some (.int .i64 (C.getD p 0)) := by
  rw [blk_cell h p]
  simp [nums, List.getD_eq_getElem?_getD, List.getElem?_eq_getElem hp]
theorem MetR.set {W : World} {g : Nat} {C : List Int} (h : MetR W g C) (p : Nat) (u : Int) : MetR (W.setCell ⟨g, p, none⟩ (.int .i64 u)) g (C.set p u) :=
  blk_put h p _ (by simp [nums, List.map_set])
theorem MetR.below {W W' : World} {g : Nat} {C : List Int} (h : MetR W g C) (hb : Below W.heap.size W W') : MetR W' g C := blk_below h hb
theorem made_nums (m : Nat) : madeCells #[Value.int .i64 0] m = (nums .i64 (List.replicate m 0)).toArray := by
  apply Array.ext
  · simp [madeCells, nums]
  · intro i h1 h2
    simp [madeCells, nums, Nat.mod_one]
theorem cntL_len (l : List S76) (K : List Int) : (cntL l K).length = l.length := by simp [cntL]
theorem cntL_get (l : List S76) (K : List Int) (p : Nat) (hp : p < l.length) : (cntL l K).getD p 0 = (K.count (rd_T76 l p).f0 : Int) := by
  simp [cntL, List.getD_eq_getElem?_getD, hp]
theorem cntL_nil (l : List S76) : cntL l [] = List.replicate l.length 0 := by
  apply List.ext_getElem
  · simp [cntL]
  · intro i h1 h2; simp [cntL]
theorem cntL_snoc {l : List S76} (hs : IdsUp l) (K : List Int) (q : Nat) (hq : q < l.length) : cntL l (K ++ [(rd_T76 l q).f0]) = (cntL l K).set q ((cntL l K).getD q 0 + 1) := by
  apply List.ext_getElem
  · simp [cntL]
  · intro i h1 h2
    have hi : i < l.length := by simpa [cntL] using h1
    rw [List.getElem_set]
    by_cases e : q = i
    · subst e
      simp [cntL, List.count_append, List.getD_eq_getElem?_getD, hq]
    · rw [if_neg e]
      have hne : (rd_T76 l q).f0 ≠ (rd_T76 l i).f0 := by
        rcases Nat.lt_or_ge q i with h | h
        · have := hs.up q i h hi; omega
        · have := hs.up i q (by omega) hq; omega
      simp [cntL, List.count_append, hne]
theorem kidsTo_succ (l : List S76) (i : Nat) (h : i < l.length) : kidsTo l (i + 1) = kidsTo l i ++ (rd_T76 l i).f5 := by
  unfold kidsTo
  rw [List.take_succ_eq_append_getElem h, List.flatMap_append]
  simp [rd_T76, List.getD_eq_getElem?_getD, List.getElem?_eq_getElem h]
theorem count_le_len (K : List Int) (x : Int) : K.count x ≤ K.length := List.count_le_length
theorem kidsTo_len (l : List S76) (h : ∀ i : Nat, i < l.length → (rd_T76 l i).f5.length ≤ 4096) : ∀ i : Nat, i ≤ l.length → (kidsTo l i).length ≤ i * 4096
  | 0, _ => by simp [kidsTo]
  | i + 1, hi => by
    rw [kidsTo_succ l i (by omega), List.length_append]
    have h1 := kidsTo_len l h i (by omega)
    have h2 := h i (by omega)
    omega
theorem kid_at {w : World} {A : Option Addr} {n : Nat} {xs : List Int} (h : Kd.C (Kd.int .i64) w A n xs) (i : Nat) (h1 : i < n) : ∃ ad, A = some ad ∧ w.cell? (ad.add i) = some (.int .i64 (rd xs i)) := by
  obtain ⟨ad, c, e, _, hK, hc⟩ := Kd.C_get h 0 i (by omega) (by omega)
  have hc0 : c = [.int .i64 (rd xs i)] := hK
  have := hc 0 _ (by rw [hc0]; rfl)
  exact ⟨ad, e, by simpa [Kd.int, Kd.scalar] using this⟩
theorem same_id {l : List S76} (hs : IdsUp l) {p q : Nat} (hp : p < l.length) (hq : q < l.length) (h : (rd_T76 l p).f0 = (rd_T76 l q).f0) : p = q := by
  rcases Nat.lt_trichotomy p q with h1 | h1 | h1
  · have := hs.up p q h1 hq; omega
  · exact h1
  · have := hs.up q p h1 hp; omega
theorem parent_there {l : List S76} (hs : IdsUp l) (hk : ∀ a : Nat, a < l.length → KidsOk l (rd_T76 l a)) {a : Nat} (ha : a < l.length) (h1 : (kidsTo l l.length).count (rd_T76 l a).f0 = 1) : ∃ b : Nat, b < l.length ∧ (rd_T76 l b).f0 = (rd_T76 l a).f2 := by
  have hm : (rd_T76 l a).f0 ∈ kidsTo l l.length := List.count_pos_iff.1 (by omega)
  unfold kidsTo at hm
  rw [List.take_length, List.mem_flatMap] at hm
  obtain ⟨n, hn, hx⟩ := hm
  obtain ⟨b, hb, rfl⟩ := List.getElem_of_mem hn
  obtain ⟨j, hj, hx⟩ := List.getElem_of_mem hx
  have e : rd_T76 l b = l[b] := by simp [rd_T76, List.getD_eq_getElem?_getD, List.getElem?_eq_getElem hb]
  obtain ⟨p, hp, h2, h3⟩ := hk b hb j (by rw [e]; exact hj)
  rw [e] at h2 h3
  have h4 : rd l[b].f5 j = (rd_T76 l a).f0 := by simp [rd, List.getD_eq_getElem?_getD, List.getElem?_eq_getElem hj, hx]
  have h5 := same_id hs hp ha (h2.trans h4)
  subst h5
  exact ⟨b, hb, by rw [e]; exact h3.symm⟩
theorem deep_step {l : List S76} (hs : IdsUp l) {k a b : Nat} (hp : (rd_T76 l a).f2 ≠ 0) (hb : b < l.length) (h : (rd_T76 l b).f0 = (rd_T76 l a).f2) : DeepOk l (k + 1) (rd_T76 l a) ↔ DeepOk l k (rd_T76 l b) := by
  constructor
  · rintro (h1 | ⟨p, h1, h2, h3⟩)
    · exact absurd h1 hp
    · have := same_id hs h1 hb (h2.trans h.symm)
      subst this
      exact h3
  · exact fun h3 => .inr ⟨b, hb, h, h3⟩
theorem place_at (nx : Int) (A : Option Addr) (l : List S76) (cp : Nat) (id : Int) (w : World) (hr : Kd.C k76 w A l.length l) (hs : IdsUp l) (hl : l.length ≤ 4096) (hid : I64 id) (q : Nat) (hq : q < l.length) (he : (rd_T76 l q).f0 = id) :
    Calls Try.prog 54 #[.agg #[.int .i64 nx, .slice A l.length cp], .int .i64 id] w fun e w' => e = .returned (.int .i64 (q : Int)) ∧ Below w.heap.size w w' :=
  (place_any nx A l cp id w hr hs hl hid).mono fun e w' ⟨p, h1, h2, h3⟩ => by
    have : p = q := by
      rcases Int.lt_or_le p 0 with h | h
      · exact absurd he ((h2.1 h).2 q hq)
      · obtain ⟨q', e1, h4, h5⟩ := h2.2 h
        have := same_id hs h4 hq (h5.trans he.symm)
        omega
    subst this
    exact ⟨h1, h3⟩
structure HW (w : World) (nx : Int) (A : Option Addr) (l : List S76) (c : Nat) (C : List Int) (W : World) : Prop where
  b : Below w.heap.size w W
  k1 : W.heap[w.heap.size]? = some (.cells #[.int .i64 nx, .slice A l.length c] 27 (0, 0))
  m : MetR W (w.heap.size + 1) C
theorem HW.below {w : World} {nx : Int} {A : Option Addr} {l : List S76} {c : Nat} {C : List Int} {W W' : World} (h : HW w nx A l c C W) (hb : Below W.heap.size W W') : HW w nx A l c C W' :=
  ⟨below_step h.b hb, blk_below h.k1 hb, h.m.below hb⟩
theorem HW.put {w : World} {nx : Int} {A : Option Addr} {l : List S76} {c : Nat} {C : List Int} {W : World} (h : HW w nx A l c C W) (p : Nat) (u : Int) : HW w nx A l c (C.set p u) (W.setCell ⟨w.heap.size + 1, p, none⟩ (.int .i64 u)) :=
  ⟨h.b.setCell (by show w.heap.size ≤ w.heap.size + 1; omega) _, blk_far h.k1 (by show w.heap.size ≠ w.heap.size + 1; omega) _, h.m.set p u⟩
theorem HW.far {w : World} {nx : Int} {A : Option Addr} {l : List S76} {c : Nat} {C : List Int} {W : World} (h : HW w nx A l c C W) {g : Nat} (hg : w.heap.size + 1 < g) (i : Nat) (u : Value) : HW w nx A l c C (W.setCell ⟨g, i, none⟩ u) :=
  ⟨h.b.setCell (by show w.heap.size ≤ g; omega) _, blk_far h.k1 (by show w.heap.size ≠ g; omega) _, blk_far h.m (by show w.heap.size + 1 ≠ g; omega) _⟩
def putNode (W : World) (g : Nat) (cs : List Value) : World := (((((((W.setCell ⟨g, 0, none⟩ (cs.getD 0 undef)).setCell ⟨g, 1, none⟩ (cs.getD 1 undef)).setCell ⟨g, 2, none⟩ (cs.getD 2 undef)).setCell ⟨g, 3, none⟩ (cs.getD 3 undef)).setCell ⟨g, 4, none⟩ (cs.getD 4 undef)).setCell ⟨g, 5, none⟩ (cs.getD 5 undef)).setCell ⟨g, 6, none⟩ (cs.getD 6 undef))
theorem putNode_blk {W : World} {g : Nat} {t : TypeId} (a0 a1 a2 a3 a4 a5 a6 b0 b1 b2 b3 b4 b5 b6 : Value) (h : W.heap[g]? = some (.cells #[a0, a1, a2, a3, a4, a5, a6] t (0, 0))) : (putNode W g [b0, b1, b2, b3, b4, b5, b6]).heap[g]? = some (.cells #[b0, b1, b2, b3, b4, b5, b6] t (0, 0)) := by
  have h0 := blk_put (cs' := #[b0, a1, a2, a3, a4, a5, a6]) h 0 b0 rfl
  have h1 := blk_put (cs' := #[b0, b1, a2, a3, a4, a5, a6]) h0 1 b1 rfl
  have h2 := blk_put (cs' := #[b0, b1, b2, a3, a4, a5, a6]) h1 2 b2 rfl
  have h3 := blk_put (cs' := #[b0, b1, b2, b3, a4, a5, a6]) h2 3 b3 rfl
  have h4 := blk_put (cs' := #[b0, b1, b2, b3, b4, a5, a6]) h3 4 b4 rfl
  have h5 := blk_put (cs' := #[b0, b1, b2, b3, b4, b5, a6]) h4 5 b5 rfl
  exact blk_put (cs' := #[b0, b1, b2, b3, b4, b5, b6]) h5 6 b6 rfl
theorem HW.putNode {w : World} {nx : Int} {A : Option Addr} {l : List S76} {c : Nat} {C : List Int} {W : World} (h : HW w nx A l c C W) {g : Nat} (hg : w.heap.size + 1 < g) (cs : List Value) : HW w nx A l c C (putNode W g cs) :=
  ((((((h.far hg 0 _).far hg 1 _).far hg 2 _).far hg 3 _).far hg 4 _).far hg 5 _).far hg 6 _
theorem hw_start (w : World) (nx : Int) (A : Option Addr) (l : List S76) (c : Nat) : HW w nx A l c (cntL l []) ((w.alloc (.cells #[.int .i64 nx, .slice A l.length c] 27)).alloc (.cells (madeCells #[.int .i64 0] l.length) 3)) := by
  have h := boxed2 w (.cells #[.int .i64 nx, .slice A l.length c] 27) (.cells (madeCells #[.int .i64 0] l.length) 3)
  refine ⟨h.b, h.k1, ?_⟩
  have := h.k2
  rw [made_nums, ← cntL_nil] at this
  rw [made_nums, ← cntL_nil]
  exact this
set_option maxRecDepth 100000 in
set_option maxHeartbeats 8000000 in
theorem hangs_any (nx : Int) (l : List S76) (A : Option Addr) (c : Nat) (w : World) (hr : Kd.C k76 w A l.length l) (hs : IdsUp l) (hl : l.length ≤ 4096) (hk : ∀ i : Nat, i < l.length → (rd_T76 l i).f5.length ≤ 4096)
    (hi : ∀ i : Nat, i < l.length → I64 (rd_T76 l i).f2 ∧ ∀ j : Nat, j < (rd_T76 l i).f5.length → I64 (rd (rd_T76 l i).f5 j)) :
    Calls Try.prog 47 #[.agg #[.int .i64 nx, .slice A l.length c]] w fun e w' => e = .returned (.int .i64 (errI (HangsP l))) ∧ Below w.heap.size w w' := by
  have HR : Hid (Kd.C k76 w A l.length l) := hr
  have HS : Hid (IdsUp l) := hs
  have HK : Hid (∀ i : Nat, i < l.length → (rd_T76 l i).f5.length ≤ 4096) := hk
  have HI : Hid (∀ i : Nat, i < l.length → I64 (rd_T76 l i).f2 ∧ ∀ j : Nat, j < (rd_T76 l i).f5.length → I64 (rd (rd_T76 l i).f5 j)) := hi
  have HW0 : Hid (HW w nx A l c (cntL l []) ((w.alloc (.cells #[.int .i64 nx, .slice A l.length c] 27)).alloc (.cells (madeCells #[.int .i64 0] l.length) 3))) := hw_start w nx A l c
  generalize htv : errI (HangsP l) = r
  have HT : Hid (errI (HangsP l) = r) := htv
  have NO : Hid (¬ HangsP l → r = 29) := fun h => by rw [← HT.out]; exact errI_no h
  clear hr hs hk hi htv
  have hmk := print_make (P := Try.prog) 54 3 .i64 8 Try.underlying54 info3 (by decide) l.length (by omega)
  go_enter Try.func47, Try.ntmps47
  go_wp2_with fail
  go_step3
  go_wp2_with fail
  generalize (World.alloc (World.alloc _ _) _) = W at HW0 ⊢
  clear hmk
  go_loopw [21] (fun i W => ∃ k : Nat, k ≤ l.length ∧ i = .int .i64 k ∧ Hid (HW w nx A l c (cntL l (kidsTo l k)) W) ∧ Hid (∀ a : Nat, a < k → KidsOk l (rd_T76 l a))) (fun i _ => l.length - (intOf i).toNat)
  case atStart => exact ⟨0, Nat.zero_le _, rfl, by simpa [kidsTo] using HW0, fun a ha => by omega⟩
  case round =>
    obtain ⟨k, hk, rfl, HB, HF⟩ := hrel
    by_cases hlt : k < l.length
    · obtain ⟨ad, A4, c4, A5, c5, A6, c6, rfl, x0, x1, x2, x3, x4, x5, x6, hn⟩ := node_atN HR.out k (by omega)
      have HN : Hid (NodeR w (rd_T76 l k) A4 c4 A5 c5 A6 c6) := hn
      clear hn
      replace x0 := pw_cell_below HB.out.b x0
      replace x1 := pw_cell_below HB.out.b x1
      replace x2 := pw_cell_below HB.out.b x2
      replace x3 := pw_cell_below HB.out.b x3
      replace x4 := pw_cell_below HB.out.b x4
      replace x5 := pw_cell_below HB.out.b x5
      replace x6 := pw_cell_below HB.out.b x6
      have hgt : w.heap.size + 1 < wr.heap.size := blk_lt HB.out.m
      generalize hn0 : rd_T76 l k = n at *
      have Hn : Hid (rd_T76 l k = n) := hn0
      clear hn0
      have KX : Hid ((wr.alloc (.cells (nodeCs n A4 c4 A5 c5 A6 c6) 76)).heap[wr.heap.size]? = some (.cells (nodeCs n A4 c4 A5 c5 A6 c6) 76 (0, 0))) := blk_new wr _
      have HB1 : Hid (HW w nx (some ad) l c (cntL l (kidsTo l k)) (wr.alloc (.cells (nodeCs n A4 c4 A5 c5 A6 c6) 76))) := HB.out.below (below_alloc (Below.refl _ _) _)
      go_wp2_with fail
      generalize (wr.alloc (.cells (nodeCs n A4 c4 A5 c5 A6 c6) 76)) = W1 at KX HB1 ⊢
      generalize hg : wr.heap.size = g at KX hgt ⊢
      clear x0 x1 x2 x3 x4 x5 x6 hg HB
      obtain ⟨wo, rfl⟩ : ∃ wo : World, wo = wr := ⟨_, rfl⟩
      go_loopw [28] (fun i W => ∃ j : Nat, j ≤ n.f5.length ∧ i = .int .i64 j ∧ Hid (HW w nx (some ad) l c (cntL l (kidsTo l k ++ n.f5.take j)) W) ∧ Hid (W.heap[g]? = some (.cells (nodeCs n A4 c4 A5 c5 A6 c6) 76 (0, 0))) ∧ Hid (∀ a : Nat, a < j → ∃ p : Nat, p < l.length ∧ (rd_T76 l p).f0 = rd n.f5 a ∧ (rd_T76 l p).f2 = n.f0)) (fun i _ => n.f5.length - (intOf i).toNat)
      case atStart => exact ⟨0, Nat.zero_le _, rfl, by simpa using HB1, KX, fun a ha => by omega⟩
      case round =>
        obtain ⟨j, hj, rfl, HB2, KX2, HG⟩ := hrel
        have hmx := HN.out.r5.2.1
        by_cases hjt : j < n.f5.length
        · obtain ⟨bd, rfl, y0⟩ := kid_at HN.out.r5 j hjt
          replace y0 := pw_cell_below HB2.out.b y0
          have HKI : Hid (I64 (rd n.f5 j)) := by have := (HI.out k hlt).2 j (by rw [Hn.out]; exact hjt); rw [Hn.out] at this; exact this
          have NOK : Hid ((¬ ∃ p : Nat, p < l.length ∧ (rd_T76 l p).f0 = rd n.f5 j ∧ (rd_T76 l p).f2 = n.f0) → r = 29) := fun h => NO.out (fun hp => h (by
            have := hp.kids k hlt j (by rw [Hn.out]; exact hjt)
            rw [Hn.out] at this; exact this))
          have SN : Hid (n.f5.take (j + 1) = n.f5.take j ++ [rd n.f5 j]) := by
            have : n.f5.take (j + 1) = n.f5.take j ++ [n.f5[j]] := List.take_succ_eq_append_getElem hjt
            exact this.trans (by simp [rd, List.getD_eq_getElem?_getD, List.getElem?_eq_getElem hjt])
          have HG1 : Hid ((∃ p : Nat, p < l.length ∧ (rd_T76 l p).f0 = rd n.f5 j ∧ (rd_T76 l p).f2 = n.f0) → ∀ a : Nat, a < j + 1 → ∃ p : Nat, p < l.length ∧ (rd_T76 l p).f0 = rd n.f5 a ∧ (rd_T76 l p).f2 = n.f0) := fun h a ha => by
            rcases Nat.lt_or_ge a j with h2 | h2
            · exact HG.out a h2
            · obtain rfl : a = j := by omega
              exact h
          clear HG
          generalize rd n.f5 j = kid at *
          have q0 : wr.cell? ⟨w.heap.size, 0, none⟩ = some (.int .i64 nx) := blk_cell HB2.out.k1 0
          have q1 : wr.cell? ⟨w.heap.size, 1, none⟩ = some (.slice (some ad) l.length c) := blk_cell HB2.out.k1 1
          go_wp2_with fail
          clear q0 q1 y0
          refine (place_any nx (some ad) l c kid wr (Kd.C_below HR.out HB2.out.b) HS.out hl HKI.out).mono ?_
          rintro e w1 ⟨p, rfl, hp, hb⟩
          have HB3 : Hid (HW w nx (some ad) l c (cntL l (kidsTo l k ++ n.f5.take j)) w1) := HB2.out.below hb
          have KX3 : Hid (w1.heap[g]? = some (.cells (nodeCs n A4 c4 (some bd) c5 A6 c6) 76 (0, 0))) := blk_below KX2.out hb
          clear HB2 KX2 hb
          by_cases hp0 : p < 0
          · have hr : Hid (r = 29) := NOK.out (fun ⟨q, h1, h2, _⟩ => (hp.1 hp0).2 q h1 h2)
            have hp1 : decide (p < 0) = true := by simp [hp0]
            clear hp NOK
            go_wp2_with fail
            refine wp_region_bw (by kernel_rfl) (by kernel_rfl) ?_
            repeat (go_big_quiet_step (fail))
            refine wpQuiet_nil ?_
            rintro _ ⟨x, rfl⟩
            have HB4 : Hid (Below w.heap.size w x.1) := below_step HB3.out.b x.2
            go_wp2_with fail
            simp only [Exit.noGoto_ret]
            go_ret
            exact ⟨by rw [hr.out]; rfl, HB4.out⟩
          · obtain ⟨q, rfl, hq, hid⟩ := hp.2 (by omega)
            clear hp hp0
            have hp1 : decide ((q : Int) < 0) = false := by simp
            obtain ⟨qd, B4, d4, B5, d5, B6, d6, hqd, z0, z1, z2, z3, z4, z5, z6, _⟩ := node_atN (Kd.C_below HR.out HB3.out.b) q hq
            cases hqd
            have HID : Hid ((rd_T76 l q).f0 = kid) := hid
            clear z0 z1 z3 z4 z5 z6 hid
            have s1 : ∀ x : BW w1, x.1.cell? ⟨(ad.add (q * 7)).block, (ad.add (q * 7)).off + 2, none⟩ = some (.int .i64 (rd_T76 l q).f2) := bw_cell z2
            have s2 : ∀ x : BW w1, x.1.cell? ⟨w.heap.size, 1, none⟩ = some (.slice (some ad) l.length c) := bw_cell (blk_cell HB3.out.k1 1)
            have s3 : ∀ x : BW w1, x.1.cell? ⟨g, 0, none⟩ = some (.int .i64 n.f0) := bw_cell (blk_cell KX3.out 0)
            by_cases hpar : (rd_T76 l q).f2 = n.f0
            case neg =>
              have hr : Hid (r = 29) := NOK.out (fun ⟨q', h1, h2, h3⟩ => by
                have e : q' = q := by
                  rcases Nat.lt_trichotomy q' q with h | h | h
                  · have := HS.out.up q' q h hq; rw [h2, ← HID.out] at this; omega
                  · exact h
                  · have := HS.out.up q q' h h1; rw [h2, ← HID.out] at this; omega
                rw [e] at h3; exact hpar h3)
              have hpar' : ((rd_T76 l q).f2 != n.f0) = true := by simp [hpar]
              clear NOK hpar
              go_wp2_with fail
              refine wp_region_bw (by kernel_rfl) (by kernel_rfl) ?_
              repeat (go_big_quiet_step (fail))
              refine wpQuiet_nil ?_
              rintro _ ⟨x, rfl⟩
              have HB4 : Hid (Below w.heap.size w x.1) := below_step HB3.out.b x.2
              clear s1 s2 s3
              go_wp2_with fail
              simp only [Exit.noGoto_ret]
              go_ret
              exact ⟨by rw [hr.out]; rfl, HB4.out⟩
            have hpar' : ((rd_T76 l q).f2 != n.f0) = false := by simp [hpar]
            have HPAR : Hid ((rd_T76 l q).f2 = n.f0) := hpar
            clear hpar
            go_wp2_with fail
            refine wp_region_bw (by kernel_rfl) (by kernel_rfl) ?_
            repeat (go_big_quiet_step (fail))
            refine wpQuiet_nil ?_
            rintro _ ⟨x, rfl⟩
            have HB4 : Hid (HW w nx (some ad) l c (cntL l (kidsTo l k ++ n.f5.take j)) x.1) := HB3.out.below x.2
            have KX4 : Hid (x.1.heap[g]? = some (.cells (nodeCs n A4 c4 (some bd) c5 A6 c6) 76 (0, 0))) := blk_below KX3.out x.2
            clear s1 s2 s3 z2
            obtain ⟨w4, hw4⟩ := x
            dsimp only at HB4 KX4 ⊢
            clear hw4 HB3 KX3
            have hcl : q < (cntL l (kidsTo l k ++ n.f5.take j)).length := by rw [cntL_len]; exact hq
            have hv : 0 ≤ (cntL l (kidsTo l k ++ n.f5.take j)).getD q 0 ∧ (cntL l (kidsTo l k ++ n.f5.take j)).getD q 0 ≤ 33554432 := by
              rw [cntL_get l _ q hq]
              have h1 := count_le_len (kidsTo l k ++ n.f5.take j) (rd_T76 l q).f0
              rw [List.length_append] at h1
              have h2 := kidsTo_len l HK.out k (by omega)
              have h3 : (n.f5.take j).length ≤ 4096 := by
                have := HK.out k hlt
                rw [Hn.out] at this
                rw [List.length_take]; omega
              omega
            have CS : Hid ((cntL l (kidsTo l k ++ n.f5.take j)).set q ((cntL l (kidsTo l k ++ n.f5.take j)).getD q 0 + 1) = cntL l (kidsTo l k ++ n.f5.take (j + 1))) := by
              have := cntL_snoc HS.out (kidsTo l k ++ n.f5.take j) q hq
              rw [HID.out, List.append_assoc, ← SN.out] at this
              exact this.symm
            have HM : Hid (HW w nx (some ad) l c (cntL l (kidsTo l k ++ n.f5.take (j + 1))) (w4.setCell ⟨w.heap.size + 1, q, none⟩ (.int .i64 ((cntL l (kidsTo l k ++ n.f5.take j)).getD q 0 + 1)))) := by
              have := HB4.out.put q ((cntL l (kidsTo l k ++ n.f5.take j)).getD q 0 + 1)
              rw [CS.out] at this
              exact this
            have t1 : w4.cell? ⟨w.heap.size + 1, q, none⟩ = some (.int .i64 ((cntL l (kidsTo l k ++ n.f5.take j)).getD q 0)) := HB4.out.m.cell q hcl
            have t2 : w4.frozen? ⟨w.heap.size + 1, q, none⟩ = false := blk_frozen HB4.out.m q
            have HOK : Hid (∀ a : Nat, a < j + 1 → ∃ p : Nat, p < l.length ∧ (rd_T76 l p).f0 = rd n.f5 a ∧ (rd_T76 l p).f2 = n.f0) := HG1.out ⟨q, hq, HID.out, HPAR.out⟩
            clear CS HB4 hcl HG1 NOK
            generalize (cntL l (kidsTo l k ++ n.f5.take j)).getD q 0 = v at hv t1 HM
            obtain ⟨hv0, hv1⟩ := hv
            have KX5 : Hid ((w4.setCell ⟨w.heap.size + 1, q, none⟩ (.int .i64 (v + 1))).heap[g]? = some (.cells (nodeCs n A4 c4 (some bd) c5 A6 c6) 76 (0, 0))) := blk_far KX4.out (by show g ≠ w.heap.size + 1; omega) _
            clear KX4
            go_wp2_with fail
            go_roundw
            case rel => exact ⟨j + 1, by omega, by go_num, HM, KX5, HOK⟩
            case measure => simp [intOf]; omega
        · have HKO : Hid (∀ a : Nat, a < k + 1 → KidsOk l (rd_T76 l a)) := fun a ha => by
            rcases Nat.lt_or_ge a k with h2 | h2
            · exact HF.out a h2
            · obtain rfl : a = k := by omega
              rw [Hn.out]
              exact fun b hb => HG.out b (by omega)
          have HB5 : Hid (HW w nx (some ad) l c (cntL l (kidsTo l (k + 1))) wr) := by
            have := HB2.out
            rw [List.take_of_length_le (by omega), ← Hn.out, ← kidsTo_succ l k hlt] at this
            exact this
          clear HB2 KX2 HG
          go_wp2_with fail
          go_roundw
          case rel => exact ⟨k + 1, by omega, by go_num, HB5, HKO⟩
          case measure => simp [intOf]; omega
    · have hkl : k = l.length := by omega
      have HKIDS : Hid (∀ a : Nat, a < l.length → KidsOk l (rd_T76 l a)) := fun a ha => HF.out a (by omega)
      have HB1 : Hid (HW w nx A l c (cntL l (kidsTo l l.length)) wr) := by have := HB.out; rw [hkl] at this; exact this
      have q1 : wr.cell? ⟨w.heap.size, 1, none⟩ = some (.slice A l.length c) := blk_cell HB1.out.k1 1
      clear HF HB hkl hk
      go_wp2_with fail
      clear q1
      obtain ⟨wo, rfl⟩ : ∃ wo : World, wo = wr := ⟨_, rfl⟩
      go_loopw [59] (fun i W => ∃ k : Nat, k ≤ l.length ∧ i = .int .i64 k ∧ Hid (HW w nx A l c (cntL l (kidsTo l l.length)) W) ∧ Hid (∀ a : Nat, a < k → ((rd_T76 l a).f2 = 0 → (kidsTo l l.length).count (rd_T76 l a).f0 = 0) ∧ ((rd_T76 l a).f2 ≠ 0 → (kidsTo l l.length).count (rd_T76 l a).f0 = 1))) (fun i _ => l.length - (intOf i).toNat)
      case atStart => exact ⟨0, Nat.zero_le _, rfl, HB1, fun a ha => by omega⟩
      case round =>
        obtain ⟨i, hi, rfl, HB, HF⟩ := hrel
        by_cases hlt2 : i < l.length
        · obtain ⟨ad, A4, c4, A5, c5, A6, c6, rfl, x0, x1, x2, x3, x4, x5, x6, _⟩ := node_atN (Kd.C_below HR.out HB.out.b) i (by omega)
          have hcl : i < (cntL l (kidsTo l l.length)).length := by rw [cntL_len]; exact hlt2
          have HV : Hid ((cntL l (kidsTo l l.length)).getD i 0 = ((kidsTo l l.length).count (rd_T76 l i).f0 : Int)) := cntL_get l _ i hlt2
          have NO0 : Hid ((rd_T76 l i).f2 = 0 → (kidsTo l l.length).count (rd_T76 l i).f0 ≠ 0 → r = 29) := fun h1 h2 => NO.out (fun hp => h2 (hp.met0 i hlt2 h1))
          have NO1 : Hid ((rd_T76 l i).f2 ≠ 0 → (kidsTo l l.length).count (rd_T76 l i).f0 ≠ 1 → r = 29) := fun h1 h2 => NO.out (fun hp => h2 (hp.met1 i hlt2 h1))
          have ST : Hid (((rd_T76 l i).f2 = 0 → (kidsTo l l.length).count (rd_T76 l i).f0 = 0) ∧ ((rd_T76 l i).f2 ≠ 0 → (kidsTo l l.length).count (rd_T76 l i).f0 = 1) → ∀ a : Nat, a < i + 1 → ((rd_T76 l a).f2 = 0 → (kidsTo l l.length).count (rd_T76 l a).f0 = 0) ∧ ((rd_T76 l a).f2 ≠ 0 → (kidsTo l l.length).count (rd_T76 l a).f0 = 1)) := fun h a ha => by
            rcases Nat.lt_or_ge a i with h2 | h2
            · exact HF.out a h2
            · obtain rfl : a = i := by omega
              exact h
          clear HF
          generalize (kidsTo l l.length).count (rd_T76 l i).f0 = cn at *
          generalize rd_T76 l i = n at *
          have HB2 : Hid (HW w nx (some ad) l c (cntL l (kidsTo l l.length)) (wr.alloc (.cells (nodeCs n A4 c4 A5 c5 A6 c6) 76))) := HB.out.below (below_alloc (Below.refl _ _) _)
          have t1 : (wr.alloc (.cells (nodeCs n A4 c4 A5 c5 A6 c6) 76)).cell? ⟨w.heap.size + 1, i, none⟩ = some (.int .i64 ((cntL l (kidsTo l l.length)).getD i 0)) := HB2.out.m.cell i hcl
          rw [HV.out] at t1
          clear HV hcl HB
          by_cases hp : n.f2 = 0
          · have hp1 : (n.f2 == 0) = true := by simp [hp]
            have hp2 : (n.f2 != 0) = false := by simp [hp]
            have HPX : Hid (n.f2 = 0) := hp
            clear hp
            by_cases hc : cn = 0
            · have hc1 : ((cn : Int) != 0) = false := by simp [hc]
              have HO := ST.out ⟨fun _ => hc, fun h => absurd HPX.out h⟩
              have HO' : Hid (∀ a : Nat, a < i + 1 → ((rd_T76 l a).f2 = 0 → (kidsTo l l.length).count (rd_T76 l a).f0 = 0) ∧ ((rd_T76 l a).f2 ≠ 0 → (kidsTo l l.length).count (rd_T76 l a).f0 = 1)) := HO
              clear HO hc NO0 NO1 ST
              go_wp2_with fail
              go_roundw
              case rel => exact ⟨i + 1, by omega, by go_num, HB2, HO'⟩
              case measure => simp [intOf]; omega
            · have hc1 : ((cn : Int) != 0) = true := by simp [hc]
              have hr : Hid (r = 29) := NO0.out HPX.out hc
              clear hc NO0 NO1 ST
              go_wp2_with fail
              simp only [Exit.noGoto_ret]
              go_ret
              exact ⟨by rw [hr.out]; rfl, HB2.out.b⟩
          · have hp1 : (n.f2 == 0) = false := by simp [hp]
            have hp2 : (n.f2 != 0) = true := by simp [hp]
            have HPX : Hid (n.f2 ≠ 0) := hp
            clear hp
            by_cases hc : cn = 1
            · have hc1 : ((cn : Int) != 1) = false := by simp [hc]
              have HO := ST.out ⟨fun h => absurd h HPX.out, fun _ => hc⟩
              have HO' : Hid (∀ a : Nat, a < i + 1 → ((rd_T76 l a).f2 = 0 → (kidsTo l l.length).count (rd_T76 l a).f0 = 0) ∧ ((rd_T76 l a).f2 ≠ 0 → (kidsTo l l.length).count (rd_T76 l a).f0 = 1)) := HO
              clear HO hc NO0 NO1 ST
              go_wp2_with fail
              go_roundw
              case rel => exact ⟨i + 1, by omega, by go_num, HB2, HO'⟩
              case measure => simp [intOf]; omega
            · have hc1 : ((cn : Int) != 1) = true := by rw [bne_iff_ne]; omega
              have hr : Hid (r = 29) := NO1.out HPX.out hc
              clear hc NO0 NO1 ST
              go_wp2_with fail
              simp only [Exit.noGoto_ret]
              go_ret
              exact ⟨by rw [hr.out]; rfl, HB2.out.b⟩
        · have HMET : Hid (∀ a : Nat, a < l.length → ((rd_T76 l a).f2 = 0 → (kidsTo l l.length).count (rd_T76 l a).f0 = 0) ∧ ((rd_T76 l a).f2 ≠ 0 → (kidsTo l l.length).count (rd_T76 l a).f0 = 1)) := fun a ha => HF.out a (by omega)
          have HB2 : Hid (HW w nx A l c (cntL l (kidsTo l l.length)) wr) := HB
          have q1 : wr.cell? ⟨w.heap.size, 1, none⟩ = some (.slice A l.length c) := blk_cell HB2.out.k1 1
          clear HF HB
          go_wp2_with fail
          go_step3
          go_wp2_with fail
          clear q1
          obtain ⟨wo, rfl⟩ : ∃ wo : World, wo = wr := ⟨_, rfl⟩
          go_loopw [90] (fun i W => ∃ k : Nat, k ≤ l.length ∧ i = .int .i64 k ∧ Hid (HW w nx A l c (cntL l (kidsTo l l.length)) W) ∧ Hid (∀ a : Nat, a < k → DeepOk l 64 (rd_T76 l a))) (fun i _ => l.length - (intOf i).toNat)
          case atStart => exact ⟨0, Nat.zero_le _, rfl, HB2, fun a ha => by omega⟩
          case round =>
            obtain ⟨i, hi, rfl, HB, HF⟩ := hrel
            by_cases hlt3 : i < l.length
            · obtain ⟨ad, A4, c4, A5, c5, A6, c6, hade, x0, x1, x2, x3, x4, x5, x6, hn⟩ := node_atN (Kd.C_below HR.out HB.out.b) i (by omega)
              subst hade
              have NOD : Hid (¬ DeepOk l 64 (rd_T76 l i) → r = 29) := fun h => NO.out (fun hp => h (hp.deep i hlt3))
              have ST : Hid (DeepOk l 64 (rd_T76 l i) → ∀ a : Nat, a < i + 1 → DeepOk l 64 (rd_T76 l a)) := fun h a ha => by
                rcases Nat.lt_or_ge a i with h2 | h2
                · exact HF.out a h2
                · obtain rfl : a = i := by omega
                  exact h
              clear HF hn
              have hgt : w.heap.size + 1 < wr.heap.size := blk_lt HB.out.m
              have HB3 : Hid (HW w nx (some ad) l c (cntL l (kidsTo l l.length)) (wr.alloc (.cells (nodeCs (rd_T76 l i) A4 c4 A5 c5 A6 c6) 76))) := HB.out.below (below_alloc (Below.refl _ _) _)
              have KX : Hid ((wr.alloc (.cells (nodeCs (rd_T76 l i) A4 c4 A5 c5 A6 c6) 76)).heap[wr.heap.size]? = some (.cells (nodeCs (rd_T76 l i) A4 c4 A5 c5 A6 c6) 76 (0, 0))) := blk_new wr _
              go_wp2_with fail
              generalize (wr.alloc (.cells (nodeCs (rd_T76 l i) A4 c4 A5 c5 A6 c6) 76)) = W1 at KX HB3 ⊢
              generalize hg : wr.heap.size = g at KX hgt ⊢
              clear x0 x1 x2 x3 x4 x5 x6 hg HB
              obtain ⟨wo, rfl⟩ : ∃ wo : World, wo = wr := ⟨_, rfl⟩
              go_loopw [13] (fun v W => ∃ d a : Nat, 1 ≤ d ∧ d ≤ 65 ∧ a < l.length ∧ v = .int .i64 d ∧ Hid (HW w nx (some ad) l c (cntL l (kidsTo l l.length)) W) ∧ Hid (DeepOk l 64 (rd_T76 l i) ↔ DeepOk l (65 - d) (rd_T76 l a)) ∧ Hid (∃ A4 c4 A5 c5 A6 c6, W.heap[g]? = some (.cells (nodeCs (rd_T76 l a) A4 c4 A5 c5 A6 c6) 76 (0, 0)))) (fun v _ => 65 - (intOf v).toNat)
              case atStart => exact ⟨1, i, Nat.le_refl _, by omega, hlt3, rfl, HB3, Iff.rfl, ⟨_, _, _, _, _, _, KX.out⟩⟩
              case round =>
                obtain ⟨d, a, hd1, hd2, ha, rfl, HB4, HD, HX⟩ := hrel
                by_cases hd : d ≤ 64
                · obtain ⟨B4, d4, B5, d5, B6, d6, kx⟩ := HX.out
                  have KX4 : Hid (wr.heap[g]? = some (.cells (nodeCs (rd_T76 l a) B4 d4 B5 d5 B6 d6) 76 (0, 0))) := kx
                  clear kx HX
                  have q2 : wr.cell? ⟨g, 2, none⟩ = some (.int .i64 (rd_T76 l a).f2) := blk_cell KX4.out 2
                  by_cases hp : (rd_T76 l a).f2 = 0
                  · have hp1 : ((rd_T76 l a).f2 == 0) = true := by simp [hp]
                    have HO : Hid (∀ a : Nat, a < i + 1 → DeepOk l 64 (rd_T76 l a)) := ST.out (HD.out.2 (by
                      rw [show 65 - d = (64 - d) + 1 by omega]; exact .inl hp))
                    clear NOD ST HD hp
                    go_wp2_with fail
                    go_roundw
                    case rel => exact ⟨i + 1, by omega, by go_num, HB4, HO⟩
                    case measure => simp [intOf]; omega
                  · have hp1 : ((rd_T76 l a).f2 == 0) = false := by simp [hp]
                    obtain ⟨b, hb, hbe⟩ := parent_there HS.out HKIDS.out ha ((HMET.out a ha).2 hp)
                    have HD2 : Hid (DeepOk l 64 (rd_T76 l i) ↔ DeepOk l (65 - (d + 1)) (rd_T76 l b)) := by
                      have := HD.out
                      rw [show 65 - d = (65 - (d + 1)) + 1 by omega, deep_step HS.out hp hb hbe] at this
                      exact this
                    have HBE : Hid ((rd_T76 l b).f0 = (rd_T76 l a).f2) := hbe
                    have HIA : Hid (I64 (rd_T76 l a).f2) := (HI.out a ha).1
                    clear hbe HD hp
                    go_wp2_with fail
                    obtain ⟨bd, E4, e4, E5, e5, E6, e6, hbd, z0, z1, z2, z3, z4, z5, z6, _⟩ := node_atN (Kd.C_below HR.out HB4.out.b) b hb
                    cases hbd
                    have s0 : ∀ x : BW wr, x.1.cell? ⟨w.heap.size, 0, none⟩ = some (.int .i64 nx) := bw_cell (blk_cell HB4.out.k1 0)
                    have s1 : ∀ x : BW wr, x.1.cell? ⟨w.heap.size, 1, none⟩ = some (.slice (some ad) l.length c) := bw_cell (blk_cell HB4.out.k1 1)
                    have s2 : ∀ x : BW wr, x.1.cell? ⟨g, 2, none⟩ = some (.int .i64 (rd_T76 l a).f2) := bw_cell (blk_cell KX4.out 2)
                    have y0 : ∀ x : BW wr, x.1.cell? (ad.add (b * 7)) = some (.int .i64 (rd_T76 l b).f0) := bw_cell z0
                    have y1 : ∀ x : BW wr, x.1.cell? ⟨(ad.add (b * 7)).block, (ad.add (b * 7)).off + 1, none⟩ = some (.string (rd_T76 l b).f1) := bw_cell z1
                    have y2 : ∀ x : BW wr, x.1.cell? ⟨(ad.add (b * 7)).block, (ad.add (b * 7)).off + 2, none⟩ = some (.int .i64 (rd_T76 l b).f2) := bw_cell z2
                    have y3 : ∀ x : BW wr, x.1.cell? ⟨(ad.add (b * 7)).block, (ad.add (b * 7)).off + 3, none⟩ = some (.string (rd_T76 l b).f3) := bw_cell z3
                    have y4 : ∀ x : BW wr, x.1.cell? ⟨(ad.add (b * 7)).block, (ad.add (b * 7)).off + 4, none⟩ = some (.slice E4 (rd_T76 l b).f4.length e4) := bw_cell z4
                    have y5 : ∀ x : BW wr, x.1.cell? ⟨(ad.add (b * 7)).block, (ad.add (b * 7)).off + 5, none⟩ = some (.slice E5 (rd_T76 l b).f5.length e5) := bw_cell z5
                    have y6 : ∀ x : BW wr, x.1.cell? ⟨(ad.add (b * 7)).block, (ad.add (b * 7)).off + 6, none⟩ = some (.slice E6 (rd_T76 l b).f6.length e6) := bw_cell z6
                    have hb0 : (0 : Int) ≤ (b : Int) := by omega
                    have hb1 : (b : Int) < (l.length : Int) := by omega
                    clear z0 z1 z2 z3 z4 z5 z6 q2
                    refine wp_region_bwt 8 (by kernel_rfl) (by kernel_rfl) ?_
                    simp only [List.take_succ_cons, List.take_zero, List.drop_succ_cons, List.drop_zero]
                    repeat (go_big_quiet_step ((go_at_call 54; exact calls_bw (place_at nx (some ad) l c _ _ (Kd.C_below HR.out (below_step HB4.out.b (Subtype.property _))) HS.out hl HIA.out b hb HBE.out))))
                    refine wpQuiet_nil ?_
                    rintro _ ⟨x, rfl⟩
                    have HB5 : Hid (HW w nx (some ad) l c (cntL l (kidsTo l l.length)) x.1) := HB4.out.below x.2
                    have KX5 : Hid (x.1.heap[g]? = some (.cells (nodeCs (rd_T76 l a) B4 d4 B5 d5 B6 d6) 76 (0, 0))) := blk_below KX4.out x.2
                    clear s0 s1 s2 y0 y1 y2 y3 y4 y5 y6 HB4 KX4
                    obtain ⟨w5, hw5⟩ := x
                    dsimp only at HB5 KX5 ⊢
                    clear hw5
                    have t0 : w5.cell? ⟨g, 0, none⟩ = some (.int .i64 (rd_T76 l a).f0) := blk_cell KX5.out 0
                    have t1 : w5.cell? ⟨g, 1, none⟩ = some (.string (rd_T76 l a).f1) := blk_cell KX5.out 1
                    have t2 : w5.cell? ⟨g, 2, none⟩ = some (.int .i64 (rd_T76 l a).f2) := blk_cell KX5.out 2
                    have t3 : w5.cell? ⟨g, 3, none⟩ = some (.string (rd_T76 l a).f3) := blk_cell KX5.out 3
                    have t4 : w5.cell? ⟨g, 4, none⟩ = some (.slice B4 (rd_T76 l a).f4.length d4) := blk_cell KX5.out 4
                    have t5 : w5.cell? ⟨g, 5, none⟩ = some (.slice B5 (rd_T76 l a).f5.length d5) := blk_cell KX5.out 5
                    have t6 : w5.cell? ⟨g, 6, none⟩ = some (.slice B6 (rd_T76 l a).f6.length d6) := blk_cell KX5.out 6
                    have ff : ∀ i, w5.frozen? ⟨g, i, none⟩ = false := blk_frozen KX5.out
                    have HB6 : Hid (HW w nx (some ad) l c (cntL l (kidsTo l l.length)) (putNode w5 g [.int .i64 (rd_T76 l b).f0, .string (rd_T76 l b).f1, .int .i64 (rd_T76 l b).f2, .string (rd_T76 l b).f3, .slice E4 (rd_T76 l b).f4.length e4, .slice E5 (rd_T76 l b).f5.length e5, .slice E6 (rd_T76 l b).f6.length e6])) := HB5.out.putNode hgt _
                    have KX6 : Hid ((putNode w5 g [.int .i64 (rd_T76 l b).f0, .string (rd_T76 l b).f1, .int .i64 (rd_T76 l b).f2, .string (rd_T76 l b).f3, .slice E4 (rd_T76 l b).f4.length e4, .slice E5 (rd_T76 l b).f5.length e5, .slice E6 (rd_T76 l b).f6.length e6]).heap[g]? = some (.cells (nodeCs (rd_T76 l b) E4 e4 E5 e5 E6 e6) 76 (0, 0))) := putNode_blk _ _ _ _ _ _ _ _ _ _ _ _ _ _ KX5.out
                    clear HB5 KX5
                    go_wp2_with fail
                    go_roundw
                    case rel => exact ⟨d + 1, b, by omega, by omega, hb, by go_num, HB6, HD2, ⟨_, _, _, _, _, _, KX6.out⟩⟩
                    case measure => simp [intOf]; omega
                · have hr : Hid (r = 29) := NOD.out (fun h => by
                    have := HD.out.1 h
                    rw [show 65 - d = 0 by omega] at this
                    exact this)
                  clear NOD ST HD HX
                  go_wp2_with fail
                  simp only [Exit.noGoto_ret]
                  go_ret
                  exact ⟨by rw [hr.out]; rfl, HB4.out.b⟩
            · have hr : Hid (r = 0) := by
                rw [← HT.out]
                exact errI_yes ⟨HKIDS.out, fun a ha => (HMET.out a ha).1, fun a ha => (HMET.out a ha).2, fun a ha => HF.out a (by omega)⟩
              clear HF HKIDS HMET
              go_wp2_with fail
              simp only [Exit.noGoto_ret]
              go_ret
              exact ⟨by rw [hr.out]; rfl, HB.out.b⟩
end Go.Proofs.Ytlopfkkegjajlaa
namespace Go.Proofs.Ytlopfkkegjajlaa
open Go.RowKit Go.Proofs.YtlopfkkegjajlaaW.PrintWords PHistoryTouched
def prevId (l : List S76) (i : Nat) : Int := if i = 0 then 0 else (rd_T76 l (i - 1 : Nat)).f0
theorem prevId_zero (l : List S76) : prevId l 0 = 0 := rfl
theorem prevId_succ (l : List S76) (k : Nat) : prevId l (k + 1) = (rd_T76 l k).f0 := by simp [prevId]
structure CheckP (nx : Int) (l : List S76) : Prop where
  lo : 1 ≤ nx
  hi : nx ≤ 1048577
  len : l.length ≤ 4096
  ids : ∀ i : Nat, i < l.length → prevId l i < (rd_T76 l i).f0 ∧ (rd_T76 l i).f0 < nx
  alone : ∀ i : Nat, i < l.length → AloneP nx l.length (rd_T76 l i)
  hangs : HangsP l
def WfL (l : List S76) : Prop := ∀ i : Nat, i < l.length → I64 (rd_T76 l i).f2 ∧ ∀ j : Nat, j < (rd_T76 l i).f5.length → I64 (rd (rd_T76 l i).f5 j)
theorem ids_up {nx : Int} {l : List S76} (hi : nx ≤ 1048577) (h : ∀ i : Nat, i < l.length → prevId l i < (rd_T76 l i).f0 ∧ (rd_T76 l i).f0 < nx) : IdsUp l := by
  have lo : ∀ i : Nat, i < l.length → 1 ≤ (rd_T76 l i).f0 := by
    intro i
    induction i with
    | zero => intro h0; have h2 := (h 0 h0).1; rw [prevId_zero] at h2; omega
    | succ i ih =>
      intro h0
      have h1 := ih (by omega)
      have h2 := (h (i + 1) h0).1
      rw [prevId_succ] at h2
      omega
  refine ⟨?_, lo, fun i hi' => by have := (h i hi').2; omega⟩
  intro i j hij
  induction j with
  | zero => omega
  | succ j ih =>
    intro hj
    have h2 := (h (j + 1) hj).1
    rw [prevId_succ] at h2
    rcases Nat.lt_or_ge i j with h3 | h3
    · have := ih h3 (by omega); omega
    · obtain rfl : i = j := by omega
      exact h2
set_option maxRecDepth 100000 in
set_option maxHeartbeats 8000000 in
theorem check_any (nx : Int) (l : List S76) (A : Option Addr) (c : Nat) (w : World) (hr : Kd.C k76 w A l.length l) (hw : WfL l) :
    Calls Try.prog 29 #[.agg #[.int .i64 nx, .slice A l.length c]] w fun e w' => e = .returned (.int .i64 (errI (CheckP nx l))) ∧ Below w.heap.size w w' := by
  have HR : Hid (Kd.C k76 w A l.length l) := hr
  have HWF : Hid (WfL l) := hw
  have hmx := hr.2.1
  have HB0 : Hid (Below w.heap.size w (w.alloc (.cells #[.int .i64 nx, .slice A l.length c] 27))) := below_alloc (Below.refl _ _) _
  have K0 : Hid ((w.alloc (.cells #[.int .i64 nx, .slice A l.length c] 27)).heap[w.heap.size]? = some (.cells #[.int .i64 nx, .slice A l.length c] 27 (0, 0))) := blk_new w _
  generalize htv : errI (CheckP nx l) = r
  have HT : Hid (errI (CheckP nx l) = r) := htv
  have NO : Hid (¬ CheckP nx l → r = 29) := fun h => by rw [← HT.out]; exact errI_no h
  clear hr hw htv
  by_cases h1 : nx < 1
  · have hr : Hid (r = 29) := NO.out (fun h => by have := h.lo; omega)
    clear NO
    go_enter Try.func29, Try.ntmps29
    go_wp2_with fail
    go_ret
    exact ⟨by rw [hr.out]; rfl, HB0.out⟩
  by_cases h2 : 1048577 < nx
  · have hr : Hid (r = 29) := NO.out (fun h => by have := h.hi; omega)
    clear NO
    go_enter Try.func29, Try.ntmps29
    go_wp2_with fail
    go_ret
    exact ⟨by rw [hr.out]; rfl, HB0.out⟩
  by_cases h3 : 4096 < l.length
  · have hr : Hid (r = 29) := NO.out (fun h => by have := h.len; omega)
    clear NO
    go_enter Try.func29, Try.ntmps29
    go_wp2_with fail
    go_ret
    exact ⟨by rw [hr.out]; rfl, HB0.out⟩
  go_enter Try.func29, Try.ntmps29
  go_wp2_with fail
  generalize (World.alloc _ _) = W at HB0 K0 ⊢
  go_loopw [3, 23] (fun v i W => ∃ k : Nat, k ≤ l.length ∧ i = .int .i64 k ∧ v = .int .i64 (prevId l k) ∧ Hid (Below w.heap.size w W) ∧ Hid (W.heap[w.heap.size]? = some (.cells #[.int .i64 nx, .slice A l.length c] 27 (0, 0))) ∧ Hid (∀ a : Nat, a < k → (prevId l a < (rd_T76 l a).f0 ∧ (rd_T76 l a).f0 < nx) ∧ AloneP nx l.length (rd_T76 l a))) (fun _ i _ => l.length - (intOf i).toNat)
  case atStart => exact ⟨0, Nat.zero_le _, rfl, rfl, HB0, K0, fun a ha => by omega⟩
  case round =>
    obtain ⟨k, hk, rfl, rfl, HB, K1, HF⟩ := hrel
    by_cases hlt : k < l.length
    · obtain ⟨ad, A4, c4, A5, c5, A6, c6, rfl, x0, x1, x2, x3, x4, x5, x6, hn⟩ := node_atN (Kd.C_below HR.out HB.out) k (by omega)
      have NOA : Hid (¬ AloneP nx l.length (rd_T76 l k) → r = 29) := fun h => NO.out (fun hp => h (hp.alone k hlt))
      have NOI : Hid (¬ (prevId l k < (rd_T76 l k).f0 ∧ (rd_T76 l k).f0 < nx) → r = 29) := fun h => NO.out (fun hp => h (hp.ids k hlt))
      have ST : Hid ((prevId l k < (rd_T76 l k).f0 ∧ (rd_T76 l k).f0 < nx) ∧ AloneP nx l.length (rd_T76 l k) → ∀ a : Nat, a < k + 1 → (prevId l a < (rd_T76 l a).f0 ∧ (rd_T76 l a).f0 < nx) ∧ AloneP nx l.length (rd_T76 l a)) := fun h a ha => by
        rcases Nat.lt_or_ge a k with h2 | h2
        · exact HF.out a h2
        · obtain rfl : a = k := by omega
          exact h
      have HP : Hid (prevId l (k + 1) = (rd_T76 l k).f0) := prevId_succ l k
      have HN : Hid (NodeR (wr.alloc (.cells (nodeCs (rd_T76 l k) A4 c4 A5 c5 A6 c6) 76)) (rd_T76 l k) A4 c4 A5 c5 A6 c6) := hn.below (below_alloc (Below.refl _ _) _)
      clear HF hn
      generalize rd_T76 l k = n at *
      generalize prevId l k = pv at *
      have HB1 : Hid (Below w.heap.size w (wr.alloc (.cells (nodeCs n A4 c4 A5 c5 A6 c6) 76))) := below_alloc HB.out _
      have K2 : Hid ((wr.alloc (.cells (nodeCs n A4 c4 A5 c5 A6 c6) 76)).heap[w.heap.size]? = some (.cells #[.int .i64 nx, .slice (some ad) l.length c] 27 (0, 0))) := blk_alloc K1.out _
      have KX : Hid ((wr.alloc (.cells (nodeCs n A4 c4 A5 c5 A6 c6) 76)).heap[wr.heap.size]? = some (.cells (nodeCs n A4 c4 A5 c5 A6 c6) 76 (0, 0))) := blk_new wr _
      have q0 : (wr.alloc (.cells (nodeCs n A4 c4 A5 c5 A6 c6) 76)).cell? ⟨w.heap.size, 0, none⟩ = some (.int .i64 nx) := blk_cell K2.out 0
      have q1 : (wr.alloc (.cells (nodeCs n A4 c4 A5 c5 A6 c6) 76)).cell? ⟨w.heap.size, 1, none⟩ = some (.slice (some ad) l.length c) := blk_cell K2.out 1
      by_cases e1 : n.f0 ≤ pv
      · have hr : Hid (r = 29) := NOI.out (fun h => by omega)
        have e1' : decide (n.f0 ≤ pv) = true := by simp [e1]
        clear NOA NOI ST
        go_wp2_with fail
        go_ret
        exact ⟨by rw [hr.out]; rfl, HB1.out⟩
      have e1' : decide (n.f0 ≤ pv) = false := by simp; omega
      by_cases e2 : nx ≤ n.f0
      · have hr : Hid (r = 29) := NOI.out (fun h => by omega)
        have e2' : decide (nx ≤ n.f0) = true := by simp [e2]
        clear NOA NOI ST
        go_wp2_with fail
        go_ret
        exact ⟨by rw [hr.out]; rfl, HB1.out⟩
      have e2' : decide (nx ≤ n.f0) = false := by simp; omega
      go_wp2_with fail
      generalize (wr.alloc (.cells (nodeCs n A4 c4 A5 c5 A6 c6) 76)) = W1 at HN HB1 K2 KX q0 q1 ⊢
      generalize wr.heap.size = g at KX ⊢
      clear x0 x1 x2 x3 x4 x5 x6 q0 q1
      refine (alone_any nx l (some ad) c n A4 A5 A6 c4 c5 c6 W1 HN.out).mono ?_
      rintro e w2 ⟨rfl, hb⟩
      have HB2 : Hid (Below w.heap.size w w2) := below_step HB1.out hb
      have K3 : Hid (w2.heap[w.heap.size]? = some (.cells #[.int .i64 nx, .slice (some ad) l.length c] 27 (0, 0))) := blk_below K2.out hb
      have y0 : w2.cell? ⟨g, 0, none⟩ = some (.int .i64 n.f0) := blk_cell (blk_below KX.out hb) 0
      clear HB1 K2 KX HN hb HB K1
      by_cases e3 : AloneP nx l.length n
      · rw [tv_yes e3]
        have HO := ST.out ⟨⟨by omega, by omega⟩, e3⟩
        have HO' : Hid (∀ a : Nat, a < k + 1 → (prevId l a < (rd_T76 l a).f0 ∧ (rd_T76 l a).f0 < nx) ∧ AloneP nx l.length (rd_T76 l a)) := HO
        clear e3 HO NOA NOI ST
        go_wp2_with fail
        go_roundw
        case rel => exact ⟨k + 1, by omega, by go_num, by rw [HP.out], HB2, K3, HO'⟩
        case measure => simp [intOf]; omega
      · have hr : Hid (r = 29) := NOA.out e3
        rw [tv_no e3]
        clear e3 NOA NOI ST
        go_wp2_with fail
        go_ret
        exact ⟨by rw [hr.out]; rfl, HB2.out⟩
    · have HI : Hid (IdsUp l) := ids_up (nx := nx) (by omega) (fun i hi => (HF.out i (by omega)).1)
      have q0 : wr.cell? ⟨w.heap.size, 0, none⟩ = some (.int .i64 nx) := blk_cell K1.out 0
      have q1 : wr.cell? ⟨w.heap.size, 1, none⟩ = some (.slice A l.length c) := blk_cell K1.out 1
      have hr : Hid (r = errI (HangsP l)) := by
        rw [← HT.out]
        exact errI_congr ⟨fun h => h.hangs, fun h => ⟨by omega, by omega, by omega, fun i hi => (HF.out i (by omega)).1, fun i hi => (HF.out i (by omega)).2, h⟩⟩
      have HKL : Hid (∀ i : Nat, i < l.length → (rd_T76 l i).f5.length ≤ 4096) := fun i hi => by
        have := ((HF.out i (by omega)).2).kids; omega
      clear HF
      go_wp2_with fail
      refine (hangs_any nx l A c wr (Kd.C_below HR.out HB.out) HI.out (by omega) HKL.out HWF.out).mono ?_
      rintro e w2 ⟨rfl, hb⟩
      have HB2 : Hid (Below w.heap.size w w2) := below_step HB.out hb
      rw [← hr.out]
      clear hb HB q0 q1
      go_wp2_with fail
      go_ret
      exact ⟨rfl, HB2.out⟩
end Go.Proofs.Ytlopfkkegjajlaa
namespace Go.Proofs.Ytlopfkkegjajlaa
open Go.RowKit Go.Proofs.YtlopfkkegjajlaaW.PrintWords PHistoryTouched
def ClonePost {α : Type} (d : Kd α) (e : Nat) (l : List α) (w : World) (en : Ending) (w' : World) : Prop := ∃ v, en = .returned v ∧ d.R e w' w.heap.size (fun _ => True) v l ∧ Below w.heap.size w w'
theorem own_empty (w : World) (e sz : Nat) : (w.alloc (.cells #[] e)).ownsRow w.heap.size e sz (.slice (some ⟨w.heap.size, 0, none⟩) 0 0) 0 [] :=
  ⟨by simp, .inr ⟨w.heap.size, 0, #[], rfl, Nat.le_refl _, blk_new w _, Nat.le_refl _, by simp [maxLen], by simp, by simp⟩⟩
theorem R_empty {α : Type} (d : Kd α) (w : World) (e : Nat) : d.R e (w.alloc (.cells #[] e)) w.heap.size (fun _ => True) (.slice (some ⟨w.heap.size, 0, none⟩) 0 0) [] :=
  ⟨fun _ _ => trivial, [], own_empty w e d.sz, ⟨by simp, fun j p hj => by simp at hj⟩⟩
def raw7 : Kd (List Value) := Kd.raw 7
theorem info76r : (Try.prog.info? 76).map (fun i => (i.zero, i.size, i.bytes)) = some (some (.agg #[(.int .i64 0), (.string ⟨#[]⟩), (.int .i64 0), (.string ⟨#[]⟩), (.slice none 0 0), (.slice none 0 0), (.slice none 0 0)]), raw7.sz, 120) := info76
set_option maxRecDepth 100000 in
set_option maxHeartbeats 1000000 in
theorem cloneProps (A : Option Addr) (l : List S82) (c : Nat) (w : World) (hr : Kd.C k82 w A l.length l) (hs : l.length * 32 ≤ 140737488355328) :
    Calls Try.prog 65 #[.slice A l.length c] w (ClonePost k82 82 l w) := by
  have HR : Hid (Kd.C k82 w A l.length l) := hr
  have hmx := hr.2.1
  have HS : Hid (l.length * 32 ≤ 140737488355328) := hs
  clear hr hs
  cases A with
  | none =>
    have hl : l.length = 0 := by
      rcases Nat.eq_zero_or_pos l.length with h | h
      · exact h
      · obtain ⟨ad, h2, _⟩ := HR.out.2.2 h
        cases h2
    obtain rfl : l = [] := List.eq_nil_of_length_eq_zero hl
    clear hl
    have hnil := Lib.run_eql_slice_nil (P := Try.prog) w 73 82 none 0 c 0 0 Try.underlying73
    have HP : Hid (ClonePost k82 82 ([] : List S82) w (.returned (.slice none 0 0)) w) := ⟨_, rfl, Kd.R_nil _ _ _ _ _, Below.refl _ _⟩
    go_enter Try.func65, Try.ntmps65
    go_wp2_with fail
    go_ret
    exact HP.out
  | some ad =>
    have hnil := Lib.run_eql_slice_nil (P := Try.prog) w 73 82 (some ad) l.length c 0 0 Try.underlying73
    have HO : Hid (k82.R 82 (w.alloc (.cells #[] 82)) w.heap.size (fun _ => True) (.slice (some ⟨w.heap.size, 0, none⟩) 0 0) []) := R_empty _ _ _
    have HB : Hid (Below w.heap.size w (w.alloc (.cells #[] 82))) := below_alloc (Below.refl _ _) _
    have HR' : Hid (Kd.C k82 (w.alloc (.cells #[] 82)) (some ad) l.length l) := Kd.C_below HR.out HB.out
    go_enter Try.func65, Try.ntmps65
    go_wp2_with (at_builtin; refine Kd.R_append_rows k82 (Rr := k82.K (w.alloc (.cells #[] 82))) (w0 := w) w.heap.size rfl (.tmp 5) (.tmp 6) 73 82 (.agg #[.string ⟨#[]⟩, .string ⟨#[]⟩]) 32 rfl Try.underlying73 info82 rfl (by decide) (by decide) (.slice (some ⟨w.heap.size, 0, none⟩) 0 0) [] l (some ad) l.length c (fun _ => True) (fun _ => False) rfl rfl HO.out HR'.out (fun x cs h => by obtain rfl := k82_open h; exact k82_mkM _ _ _ x) (fun _ h => h.elim) (fun _ _ => trivial) HB.out (by simp) (by have := HS.out; simpa using this) ?_; intro v1 w1 hown hb hg hat; have HR1 := Lib.hid hown; have HB1 := Lib.hid hb; clear hown hb hg hat)
    have HP : Hid (ClonePost k82 82 l w (.returned v1) w1) := ⟨_, rfl, HR1.out, HB1.out⟩
    go_ret
    exact HP.out
set_option maxRecDepth 100000 in
set_option maxHeartbeats 1000000 in
theorem cloneInts (A : Option Addr) (l : List Int) (c : Nat) (w : World) (hr : Kd.C (Kd.int .i64) w A l.length l) (hs : l.length * 8 ≤ 140737488355328) :
    Calls Try.prog 66 #[.slice A l.length c] w (ClonePost (Kd.int .i64) 3 l w) := by
  have HR : Hid (Kd.C (Kd.int .i64) w A l.length l) := hr
  have hmx := hr.2.1
  have HS : Hid (l.length * 8 ≤ 140737488355328) := hs
  clear hr hs
  cases A with
  | none =>
    have hl : l.length = 0 := by
      rcases Nat.eq_zero_or_pos l.length with h | h
      · exact h
      · obtain ⟨ad, h2, _⟩ := HR.out.2.2 h
        cases h2
    obtain rfl : l = [] := List.eq_nil_of_length_eq_zero hl
    clear hl
    have hnil := Lib.run_eql_slice_nil (P := Try.prog) w 54 3 none 0 c 0 0 Try.underlying54
    have HP : Hid (ClonePost (Kd.int .i64) 3 ([] : List Int) w (.returned (.slice none 0 0)) w) := ⟨_, rfl, Kd.R_nil _ _ _ _ _, Below.refl _ _⟩
    go_enter Try.func66, Try.ntmps66
    go_wp2_with fail
    go_ret
    exact HP.out
  | some ad =>
    have hnil := Lib.run_eql_slice_nil (P := Try.prog) w 54 3 (some ad) l.length c 0 0 Try.underlying54
    have HO : Hid ((Kd.int .i64).R 3 (w.alloc (.cells #[] 3)) w.heap.size (fun _ => True) (.slice (some ⟨w.heap.size, 0, none⟩) 0 0) []) := R_empty _ _ _
    have HB : Hid (Below w.heap.size w (w.alloc (.cells #[] 3))) := below_alloc (Below.refl _ _) _
    have HR' : Hid (Kd.C (Kd.int .i64) (w.alloc (.cells #[] 3)) (some ad) l.length l) := Kd.C_below HR.out HB.out
    go_enter Try.func66, Try.ntmps66
    go_wp2_with (at_builtin; refine Kd.R_append_rows (Kd.int .i64) (Rr := (Kd.int .i64).K (w.alloc (.cells #[] 3))) (w0 := w) w.heap.size rfl (.tmp 5) (.tmp 6) 54 3 (.int .i64 0) 8 rfl Try.underlying54 info3 rfl (by decide) (by decide) (.slice (some ⟨w.heap.size, 0, none⟩) 0 0) [] l (some ad) l.length c (fun _ => True) (fun _ => False) rfl rfl HO.out HR'.out (fun x cs h => h) (fun _ h => h.elim) (fun _ _ => trivial) HB.out (by simp) (by have := HS.out; simpa using this) ?_; intro v1 w1 hown hb hg hat; have HR1 := Lib.hid hown; have HB1 := Lib.hid hb; clear hown hb hg hat)
    have HP : Hid (ClonePost (Kd.int .i64) 3 l w (.returned v1) w1) := ⟨_, rfl, HR1.out, HB1.out⟩
    go_ret
    exact HP.out
set_option maxRecDepth 100000 in
set_option maxHeartbeats 1000000 in
theorem cloneRefs (A : Option Addr) (l : List S84) (c : Nat) (w : World) (hr : Kd.C k84 w A l.length l) (hs : l.length * 24 ≤ 140737488355328) :
    Calls Try.prog 67 #[.slice A l.length c] w (ClonePost k84 84 l w) := by
  have HR : Hid (Kd.C k84 w A l.length l) := hr
  have hmx := hr.2.1
  have HS : Hid (l.length * 24 ≤ 140737488355328) := hs
  clear hr hs
  cases A with
  | none =>
    have hl : l.length = 0 := by
      rcases Nat.eq_zero_or_pos l.length with h | h
      · exact h
      · obtain ⟨ad, h2, _⟩ := HR.out.2.2 h
        cases h2
    obtain rfl : l = [] := List.eq_nil_of_length_eq_zero hl
    clear hl
    have hnil := Lib.run_eql_slice_nil (P := Try.prog) w 74 84 none 0 c 0 0 Try.underlying74
    have HP : Hid (ClonePost k84 84 ([] : List S84) w (.returned (.slice none 0 0)) w) := ⟨_, rfl, Kd.R_nil _ _ _ _ _, Below.refl _ _⟩
    go_enter Try.func67, Try.ntmps67
    go_wp2_with fail
    go_ret
    exact HP.out
  | some ad =>
    have hnil := Lib.run_eql_slice_nil (P := Try.prog) w 74 84 (some ad) l.length c 0 0 Try.underlying74
    have HO : Hid (k84.R 84 (w.alloc (.cells #[] 84)) w.heap.size (fun _ => True) (.slice (some ⟨w.heap.size, 0, none⟩) 0 0) []) := R_empty _ _ _
    have HB : Hid (Below w.heap.size w (w.alloc (.cells #[] 84))) := below_alloc (Below.refl _ _) _
    have HR' : Hid (Kd.C k84 (w.alloc (.cells #[] 84)) (some ad) l.length l) := Kd.C_below HR.out HB.out
    go_enter Try.func67, Try.ntmps67
    go_wp2_with (at_builtin; refine Kd.R_append_rows k84 (Rr := k84.K (w.alloc (.cells #[] 84))) (w0 := w) w.heap.size rfl (.tmp 5) (.tmp 6) 74 84 (.agg #[.string ⟨#[]⟩, .int .i64 0]) 24 rfl Try.underlying74 info84 rfl (by decide) (by decide) (.slice (some ⟨w.heap.size, 0, none⟩) 0 0) [] l (some ad) l.length c (fun _ => True) (fun _ => False) rfl rfl HO.out HR'.out (fun x cs h => by obtain rfl := k84_open h; exact k84_mkM _ _ _ x) (fun _ h => h.elim) (fun _ _ => trivial) HB.out (by simp) (by have := HS.out; simpa using this) ?_; intro v1 w1 hown hb hg hat; have HR1 := Lib.hid hown; have HB1 := Lib.hid hb; clear hown hb hg hat)
    have HP : Hid (ClonePost k84 84 l w (.returned v1) w1) := ⟨_, rfl, HR1.out, HB1.out⟩
    go_ret
    exact HP.out
set_option maxRecDepth 100000 in
set_option maxHeartbeats 1000000 in
theorem cloneNodes (A : Option Addr) (l : List (List Value)) (c : Nat) (w : World) (hr : ReadsRow (fun x cs => cs = x ∧ cs.length = 7 ∧ ∀ u ∈ cs, u.oneCell' = true) 7 w A l.length l) (hs : l.length * 120 ≤ 140737488355328) :
    Calls Try.prog 64 #[.slice A l.length c] w (ClonePost raw7 76 l w) := by
  have HR : Hid (ReadsRow (fun x cs => cs = x ∧ cs.length = 7 ∧ ∀ u ∈ cs, u.oneCell' = true) 7 w A l.length l) := hr
  have hmx := hr.2.1
  have HS : Hid (l.length * 120 ≤ 140737488355328) := hs
  clear hr hs
  cases A with
  | none =>
    have hl : l.length = 0 := by
      rcases Nat.eq_zero_or_pos l.length with h | h
      · exact h
      · obtain ⟨ad, h2, _⟩ := HR.out.2.2 h
        cases h2
    obtain rfl : l = [] := List.eq_nil_of_length_eq_zero hl
    clear hl
    have hnil := Lib.run_eql_slice_nil (P := Try.prog) w 25 76 none 0 c 0 0 Try.underlying25
    have HP : Hid (ClonePost raw7 76 ([] : List (List Value)) w (.returned (.slice none 0 0)) w) := ⟨_, rfl, Kd.R_nil _ _ _ _ _, Below.refl _ _⟩
    go_enter Try.func64, Try.ntmps64
    go_wp2_with fail
    go_ret
    exact HP.out
  | some ad =>
    have hnil := Lib.run_eql_slice_nil (P := Try.prog) w 25 76 (some ad) l.length c 0 0 Try.underlying25
    have HO : Hid (raw7.R 76 (w.alloc (.cells #[] 76)) w.heap.size (fun _ => True) (.slice (some ⟨w.heap.size, 0, none⟩) 0 0) []) := R_empty _ _ _
    have HB : Hid (Below w.heap.size w (w.alloc (.cells #[] 76))) := below_alloc (Below.refl _ _) _
    have HR' : Hid (ReadsRow (fun x cs => cs = x ∧ cs.length = 7 ∧ ∀ u ∈ cs, u.oneCell' = true) 7 (w.alloc (.cells #[] 76)) (some ad) l.length l) := ReadsRow.imp_ HR.out HB.out (fun _ _ h => h)
    go_enter Try.func64, Try.ntmps64
    go_wp2_with (at_builtin; refine Kd.R_append_rows raw7 (Rr := fun x cs => cs = x ∧ cs.length = 7 ∧ ∀ u ∈ cs, u.oneCell' = true) (w0 := w) w.heap.size rfl (.tmp 5) (.tmp 6) 25 76 (.agg #[.int .i64 0, .string ⟨#[]⟩, .int .i64 0, .string ⟨#[]⟩, .slice none 0 0, .slice none 0 0, .slice none 0 0]) 120 rfl Try.underlying25 info76r rfl (by decide) (by decide) (.slice (some ⟨w.heap.size, 0, none⟩) 0 0) [] l (some ad) l.length c (fun _ => True) (fun _ => False) rfl rfl HO.out HR'.out (fun x cs h => h) (fun _ h => h.elim) (fun _ _ => trivial) HB.out (by simp) (by have := HS.out; simpa using this) ?_; intro v1 w1 hown hb hg hat; have HR1 := Lib.hid hown; have HB1 := Lib.hid hb; clear hown hb hg hat)
    have HP : Hid (ClonePost raw7 76 l w (.returned v1) w1) := ⟨_, rfl, HR1.out, HB1.out⟩
    go_ret
    exact HP.out
end Go.Proofs.Ytlopfkkegjajlaa
namespace Go.Proofs.Ytlopfkkegjajlaa
open Go.RowKit Go.Proofs.YtlopfkkegjajlaaW.PrintWords PHistoryTouched
structure Wr (S : Nat → Prop) (w w' : World) : Prop where
  os : w'.os = w.os
  tape : w'.tape = w.tape
  output : w'.output = w.output
  size : w.heap.size ≤ w'.heap.size
  block : ∀ k, k < w.heap.size → ¬ S k → w'.heap[k]? = w.heap[k]?
theorem Wr.refl (S : Nat → Prop) (w : World) : Wr S w w := ⟨rfl, rfl, rfl, Nat.le_refl _, fun _ _ _ => rfl⟩
theorem Wr.of_below {S : Nat → Prop} {w w' : World} (h : Below w.heap.size w w') : Wr S w w' := ⟨h.os, h.tape, h.output, h.size, fun k hk _ => h.block k hk⟩
theorem Wr.mono {S S' : Nat → Prop} {w w' : World} (h : Wr S w w') (hs : ∀ k, k < w.heap.size → S k → S' k) : Wr S' w w' := ⟨h.os, h.tape, h.output, h.size, fun k hk hn => h.block k hk (fun hk' => hn (hs k hk hk'))⟩
theorem Wr.trans {S S2 : Nat → Prop} {w w1 w2 : World} (h : Wr S w w1) (k : Wr S2 w1 w2) (hs : ∀ i, i < w.heap.size → S2 i → S i) : Wr S w w2 :=
  ⟨k.os.trans h.os, k.tape.trans h.tape, k.output.trans h.output, Nat.le_trans h.size k.size, fun i hi hn => (k.block i (Nat.lt_of_lt_of_le hi h.size) (fun h' => hn (hs i hi h'))).trans (h.block i hi hn)⟩
theorem Wr.below {S : Nat → Prop} {w w' : World} {B : Nat} (h : Wr S w w') (hB : B ≤ w.heap.size) (hs : ∀ k, S k → B ≤ k) : Below B w w' :=
  ⟨h.os, h.tape, h.output, h.size, fun k hk => h.block k (Nat.lt_of_lt_of_le hk hB) (fun h' => by have := hs k h'; omega)⟩
theorem Wr.step {S : Nat → Prop} {w w1 w2 : World} (h : Wr S w w1) (k : Below w1.heap.size w1 w2) : Wr S w w2 := h.trans (Wr.of_below (S := S) k) (fun _ _ h => h)
theorem Wr.set {S : Nat → Prop} {w w1 : World} (h : Wr S w w1) (g i : Nat) (u : Value) (hg : S g ∨ w.heap.size ≤ g) : Wr S w (w1.setCell ⟨g, i, none⟩ u) :=
  h.trans (S2 := (· = g)) ⟨rfl, rfl, rfl, by simp, fun k _ hn => Below.heap_setCell w1 ⟨g, i, none⟩ u k hn⟩ (fun k hk e => by subst e; rcases hg with h | h; exact h; omega)
theorem Wr.kept {S : Nat → Prop} {w w' : World} (h : Wr S w w') : Kept w w' S := ⟨h.size, h.block⟩
def row7 (cur : Array Value) (j : Nat) : List Value := (cur.toList.drop (j * 7)).take 7
theorem row7_get {cur : Array Value} {j k : Nat} {cs : List Value} (h : row7 cur j = cs) (hk : k < 7) : cs[k]? = cur[j * 7 + k]? := by
  rw [← h]
  unfold row7
  rw [List.getElem?_take, if_pos hk, List.getElem?_drop]
  simp
theorem row7_ext {cur : Array Value} {j : Nat} {cs : List Value} (hl : cs.length = 7) (h : ∀ k, k < 7 → cur[j * 7 + k]? = cs[k]?) : row7 cur j = cs := by
  apply List.ext_getElem?
  intro k
  unfold row7
  rw [List.getElem?_take]
  by_cases hk : k < 7
  · rw [if_pos hk, List.getElem?_drop, ← h k hk]; simp
  · rw [if_neg hk, List.getElem?_eq_none (by omega)]
theorem row7_len {cur : Array Value} {j : Nat} (hs : j * 7 + 7 ≤ cur.size) : (row7 cur j).length = 7 := by
  unfold row7
  simp
  omega
theorem row7_far {cur : Array Value} {i j k : Nat} (u : Value) (hk : k < 7) (hij : i ≠ j) (hs : j * 7 + 7 ≤ cur.size) : row7 (cur.setIfInBounds (i * 7 + k) u) j = row7 cur j := by
  refine row7_ext (row7_len hs) (fun m hm => ?_)
  rw [row7_get rfl hm, Array.getElem?_setIfInBounds_ne (by omega)]
theorem row7_set {cur : Array Value} {i k : Nat} {cs : List Value} (u : Value) (hk : k < 7) (h : row7 cur i = cs) (hs : i * 7 + 7 ≤ cur.size) : row7 (cur.setIfInBounds (i * 7 + k) u) i = cs.set k u := by
  have hl : cs.length = 7 := by rw [← h]; exact row7_len hs
  refine row7_ext (by simpa using hl) (fun m hm => ?_)
  by_cases e : k = m
  · subst e
    rw [Array.getElem?_setIfInBounds_self_of_lt (by omega), List.getElem?_set_self (by omega)]
  · rw [Array.getElem?_setIfInBounds_ne (by omega), List.getElem?_set_ne e, row7_get h hm]
theorem raws_of {w : World} {A : Option Addr} {l : List S76} (h : Kd.C k76 w A l.length l) : ∃ raws : List (List Value), raws.length = l.length ∧ (∀ j : Nat, j < l.length → k76.K w (rd_T76 l j) (raws.getD j [])) ∧
    ReadsRow (fun x cs => cs = x ∧ cs.length = 7 ∧ ∀ u ∈ cs, u.oneCell' = true) 7 w A raws.length raws := by
  have hx : ∀ j : Nat, ∃ cs : List Value, j < l.length → cs.length = 7 ∧ k76.K w (rd_T76 l j) cs ∧ ∃ ad, A = some ad ∧ ∀ i u, cs[i]? = some u → w.cell? (ad.add (j * 7 + i)) = some u := by
    intro j
    by_cases hj : j < l.length
    · obtain ⟨ad, hA, hc⟩ := h.2.2 (by omega)
      obtain ⟨c, hl, hK, hcell⟩ := hc j _ (List.getElem?_eq_getElem hj)
      refine ⟨c, fun _ => ⟨hl, ?_, ad, hA, hcell⟩⟩
      have e : rd_T76 l j = l[j] := by simp [rd_T76, List.getD_eq_getElem?_getD, List.getElem?_eq_getElem hj]
      rw [e]; exact hK
    · exact ⟨[], fun h' => absurd h' hj⟩
  refine ⟨(List.range l.length).map fun j => Classical.choose (hx j), by simp, fun j hj => ?_, ?_⟩
  · have := (Classical.choose_spec (hx j) hj).2.1
    simpa [List.getD_eq_getElem?_getD, hj] using this
  · refine ⟨rfl, by simpa using h.2.1, fun h0 => ?_⟩
    have h0' : 0 < l.length := by simpa using h0
    obtain ⟨ad, hA, _⟩ := h.2.2 h0'
    refine ⟨ad, hA, fun j p hj => ?_⟩
    have hjl : j < l.length := by
      rcases Nat.lt_or_ge j l.length with h1 | h1
      · exact h1
      · rw [List.getElem?_eq_none (by simpa using h1)] at hj; cases hj
    have hp : p = Classical.choose (hx j) := by simpa [hjl] using hj.symm
    obtain ⟨hl, hK, ad', hA', hcell⟩ := Classical.choose_spec (hx j) hjl
    rw [hA] at hA'
    cases hA'
    rw [hp]
    exact ⟨_, hl, ⟨rfl, hl, fun u hu => k76.K_one hK u hu⟩, hcell⟩
structure TwR (W : World) (B g : Nat) (l : List S76) (raws : List (List Value)) (cap i : Nat) (cur : Array Value) : Prop where
  blk : W.heap[g]? = some (.cells cur 76 (0, 0))
  size : cur.size = cap * 7
  cap : l.length ≤ cap
  done : ∀ j : Nat, j < i → k76.M W B (fun k => k ≠ g) (rd_T76 l j) (row7 cur j)
  todo : ∀ j : Nat, i ≤ j → j < l.length → row7 cur j = raws.getD j []
theorem TwR.below {W W' : World} {B g : Nat} {l : List S76} {raws : List (List Value)} {cap i : Nat} {cur : Array Value} (h : TwR W B g l raws cap i cur) (hb : Below W.heap.size W W') : TwR W' B g l raws cap i cur :=
  ⟨blk_below h.blk hb, h.size, h.cap, fun j hj => Kd.M_below (h.done j hj) hb, h.todo⟩
theorem tw_start {W : World} {B : Nat} {l : List S76} {raws : List (List Value)} {v : Value} (hl : raws.length = l.length) (h : raw7.R 76 W B (fun _ => True) v raws) :
    (v = .slice none 0 0 ∧ l = []) ∨ ∃ g cap cur, v = .slice (some ⟨g, 0, none⟩) l.length cap ∧ B ≤ g ∧ cap ≤ maxLen ∧ TwR W B g l raws cap 0 cur := by
  obtain ⟨_, inner, ho, hr⟩ := h
  obtain ⟨h1, h2⟩ := ho
  rcases h2 with ⟨rfl, h0⟩ | ⟨g, cap, cur, rfl, hg, hh, hc, hm, hsz, htk⟩
  · exact .inl ⟨rfl, List.eq_nil_of_length_eq_zero (by omega)⟩
  · refine .inr ⟨g, cap, cur, by rw [hl], hg, hm, hh, hsz, by omega, fun j hj => by omega, fun j _ hj => ?_⟩
    have hj' : j < raws.length := by omega
    have := hr.2 j _ (List.getElem?_eq_getElem hj')
    have e := this.1
    rw [List.getD_eq_getElem?_getD, List.getElem?_eq_getElem hj', Option.getD_some, ← e, ← htk]
    unfold row7
    rw [List.drop_take, List.take_take]
    congr 1
    show 7 = min 7 (raws.length * 7 - j * 7)
    omega
theorem tw_end {W : World} {B g : Nat} {l : List S76} {raws : List (List Value)} {cap : Nat} {cur : Array Value} (hm : cap ≤ maxLen) (hg : B ≤ g) (h : TwR W B g l raws cap l.length cur) : k76.R 76 W B (fun _ => True) (.slice (some ⟨g, 0, none⟩) l.length cap) l := by
  have hsz := h.size
  have hcap := h.cap
  refine ⟨fun _ _ => trivial, cur.toList.take (l.length * 7), ⟨?_, .inr ⟨g, cap, cur, rfl, hg, h.blk, h.cap, hm, h.size, rfl⟩⟩, ?_, fun j p hj => ?_⟩
  · show _ = l.length * 7
    simp; omega
  · show _ = l.length * 7
    simp; omega
  · have hjl : j < l.length := (List.getElem?_eq_some_iff.1 hj).1
    have e : rd_T76 l j = p := by simp [rd_T76, List.getD_eq_getElem?_getD, hj]
    have h1 := h.done j hjl
    rw [e] at h1
    have h2 : ((cur.toList.take (l.length * 7)).drop (j * k76.sz)).take k76.sz = row7 cur j := by
      show ((cur.toList.take (l.length * 7)).drop (j * 7)).take 7 = _
      unfold row7
      rw [List.drop_take, List.take_take]
      congr 1
      omega
    rw [h2]
    exact k76.M_mono (fun k hk => ⟨trivial, by simpa [Value.ownBlock] using hk⟩) h1
theorem TwR.put {W : World} {B g : Nat} {l : List S76} {raws : List (List Value)} {cap i : Nat} {cur : Array Value} (h : TwR W B g l raws cap i cur) (hi : i < l.length) {v4 v5 v6 : Value}
    {A4 A5 A6 : Value} (hraw : raws.getD i [] = [.int .i64 (rd_T76 l i).f0, .string (rd_T76 l i).f1, .int .i64 (rd_T76 l i).f2, .string (rd_T76 l i).f3, A4, A5, A6])
    (h4 : k82.R 82 W B (fun k => k ≠ g) v4 (rd_T76 l i).f4) (h5 : (Kd.int .i64).R 3 W B (fun k => k ≠ g) v5 (rd_T76 l i).f5) (h6 : k84.R 84 W B (fun k => k ≠ g) v6 (rd_T76 l i).f6) :
    ∃ cur', TwR (((W.setCell ⟨g, i * 7 + 4, none⟩ v4).setCell ⟨g, i * 7 + 5, none⟩ v5).setCell ⟨g, i * 7 + 6, none⟩ v6) B g l raws cap (i + 1) cur' := by
  have hsz := h.size
  have hcap := h.cap
  have hs : i * 7 + 7 ≤ cur.size := by rw [hsz]; omega
  have hfar : ∀ k, k ≠ g → (((W.setCell ⟨g, i * 7 + 4, none⟩ v4).setCell ⟨g, i * 7 + 5, none⟩ v5).setCell ⟨g, i * 7 + 6, none⟩ v6).heap[k]? = W.heap[k]? := fun k hk => by
    rw [Below.heap_setCell _ ⟨g, i * 7 + 6, none⟩ v6 k hk, Below.heap_setCell _ ⟨g, i * 7 + 5, none⟩ v5 k hk, Below.heap_setCell _ ⟨g, i * 7 + 4, none⟩ v4 k hk]
  refine ⟨((cur.setIfInBounds (i * 7 + 4) v4).setIfInBounds (i * 7 + 5) v5).setIfInBounds (i * 7 + 6) v6, blk_put (blk_put (blk_put h.blk _ _ rfl) _ _ rfl) _ _ rfl, by simpa using hsz, hcap, fun j hj => ?_, fun j hj hjl => ?_⟩
  · rcases Nat.lt_or_ge j i with h1 | h1
    · rw [row7_far _ (by omega) (by omega) (by simp; omega), row7_far _ (by omega) (by omega) (by simp; omega), row7_far _ (by omega) (by omega) (by omega)]
      exact k76.M_move hfar (h.done j h1)
    · obtain rfl : j = i := by omega
      have e0 := h.todo j (Nat.le_refl _) hi
      rw [row7_set v6 (by omega) (row7_set v5 (by omega) (row7_set v4 (by omega) (e0.trans hraw) hs) (by simpa using hs)) (by simpa using hs)]
      exact k76_mkM _ B _ _ (Kd.R_move h4 hfar) (Kd.R_move h5 hfar) (Kd.R_move h6 hfar)
  · rw [row7_far _ (by omega) (by omega) (by simp; omega), row7_far _ (by omega) (by omega) (by simp; omega), row7_far _ (by omega) (by omega) (by omega)]
    exact h.todo j (by omega) hjl
end Go.Proofs.Ytlopfkkegjajlaa
namespace Go.Proofs.Ytlopfkkegjajlaa
open Go
section
variable {P : Program} {ops : Array Oper} {C : World → Prop}
def sinkPre (ops : Array Oper) (n : Nat) (pre : List Nat) : Bool :=
  (List.range n).all fun i => pre.contains i || (List.range (n + 1)).any fun j => decide (i < j) && Region.waitsFor .any ops j i
theorem getD_set_true' {listed : Array Bool} {i j : Nat} (h : listed.getD i true = true) : (listed.setIfInBounds j true).getD i true = true := by
  by_cases hij : j = i
  · subst hij
    by_cases hs : j < listed.size
    · simp [hs]
    · simp [hs]
  · rw [getD_set_ne true hij]; exact h
theorem tail_waits_pre {n : Nat} {listed : Array Bool} {pre : List Nat} (hpl : ∀ i ∈ pre, listed.getD i true = true) (hs : sinkPre ops n pre = true) (hc : Region.chainB .any ops n = true) (hn : n < ops.size) (inv : HeadInv .any ops n listed) :
    ∀ (d i : Nat), n - i = d → i < n → listed.getD i true = false → ∀ t, n ≤ t → t ∉ Region.ready .any ops listed := by
  intro d
  induction d using Nat.strongRecOn with
  | _ d ih =>
    intro i hd hi hun t ht hr
    obtain ⟨_, ot, hot, hall⟩ := mem_ready.1 hr
    have htlt : t < ops.size := (Array.getElem?_eq_some_iff.1 hot).1
    by_cases htn : t = n
    · subst htn
      have h1 := List.all_eq_true.1 hs i (List.mem_range.2 hi)
      rw [Bool.or_eq_true] at h1
      rcases h1 with h1 | h1
      · have := hpl i (by simpa using h1)
        rw [hun] at this; cases this
      obtain ⟨j, hj, hj2⟩ := List.any_eq_true.1 h1
      simp only [Bool.and_eq_true, decide_eq_true_eq] at hj2
      obtain ⟨oj, hoj, e, he, hb, hon⟩ := Region.waitsFor_spec hj2.2
      have hjle : j ≤ t := by have := List.mem_range.1 hj; omega
      by_cases hjt : j = t
      · subst hjt
        have : oj = ot := Option.some.inj (hoj.symm.trans hot)
        subst this
        have h2 := hall e he hb
        rw [hon, getD_both hun] at h2
        cases h2
      · cases hl : listed.getD j false with
        | true =>
          have h2 := inv.closed j oj hoj hl e he hb
          rw [hon, getD_both hun] at h2
          cases h2
        | false =>
          have hjs : j < listed.size := by rw [inv.size]; omega
          exact ih (t - j) (by omega) j rfl (by omega) (getD_in hjs hl) t (Nat.le_refl _) hr
    · have h1 := List.all_eq_true.1 hc t (List.mem_range.2 htlt)
      simp only [Bool.or_eq_true, decide_eq_true_eq] at h1
      rcases h1 with h1 | h1
      · omega
      · obtain ⟨o', ho', e, he, hb, hon⟩ := Region.waitsFor_spec h1
        have : o' = ot := Option.some.inj (ho'.symm.trans hot)
        subst this
        have h2 := hall e he hb
        rw [hon, getD_both (inv.tail (t - 1) (by omega) (by omega))] at h2
        cases h2
def isMove (o : Oper) : Bool := match o.op with | .move _ => true | _ => false
theorem isMove_spec {o : Oper} (h : isMove o = true) : ∃ x, o.op = .move x := by
  unfold isMove at h
  split at h
  · exact ⟨_, by assumption⟩
  · cases h
theorem yields_of_in {o : Oper} {v : Value} {a : Act} {w : World} (hm : isMove o = true) (hC : C w) (hy : YieldsIn P ops C o v a) : Yields P ops o v a := by
  obtain ⟨x, hx⟩ := isMove_spec hm
  rcases hy with ⟨hw, hv⟩ | ⟨hw, hv⟩
  · refine .inl ⟨hw, fun w' => ?_⟩
    have h1 := hv w hC
    unfold Oper.quietAt at h1
    rw [BigFrame.run_move x hx] at h1 ⊢
    obtain ⟨_, rfl⟩ := h1
    rfl
  · exact .inr ⟨hw, hv⟩
def preB (ops : Array Oper) : List Nat → Array Bool → Bool
  | [], _ => true
  | i :: pre, listed => (match ops[i]? with | some o => isMove o | none => false) && Region.free .any ops listed i && (Region.ready .any ops listed).contains i && preB ops pre (listed.setIfInBounds i true)
def preL : List Nat → Array Bool → Array Bool
  | [], listed => listed
  | i :: pre, listed => preL pre (listed.setIfInBounds i true)
theorem take_pre {Q' : Exit → Act → World → Prop} {fuel : Nat} {w : World} (hs : Region.noSelect ops = true) (hQ : ∀ (o : Oper) (v : Value) c a w, isMove o = true → Q' (.panic c) (a.put o.dst v) w → Q' (.panic c) a w) (hC : C w) : ∀ (pre : List Nat) (listed : Array Bool) (a : Act), preB ops pre listed = true →
    RunQ P ops C (fun a' => wpAny P .any ops Q' fuel (preL pre listed) a' w) pre a → wpAny P .any ops Q' (pre.length + fuel) listed a w
  | [], listed, a, _, h => by simpa [RunQ, preL] using h
  | i :: pre, listed, a, hB, h => by
    simp only [preB, Bool.and_eq_true] at hB
    obtain ⟨⟨⟨hm, hf⟩, hr⟩, hB⟩ := hB
    cases ho : ops[i]? with
    | none => simp [ho] at hm
    | some o =>
      simp only [ho] at hm
      have h1 : qOp P ops C i (RunQ P ops C (fun a' => wpAny P .any ops Q' fuel (preL pre (listed.setIfInBounds i true)) a' w) pre) a := h
      obtain ⟨v, hy, hK⟩ := yieldsIn_of_qOp ho h1
      have := take_pre hs hQ hC pre (listed.setIfInBounds i true) _ hB hK
      rw [List.length_cons, show pre.length + 1 + fuel = (pre.length + fuel) + 1 by omega]
      exact wpAny_take ho hs hf hr (fun c a w h => hQ o v c a w hm h) (yields_of_in hm hC hy) this
theorem runQ_append {F : Act → Prop} : ∀ (l1 l2 : List Nat) (a : Act), RunQ P ops C F (l1 ++ l2) a → RunQ P ops C (RunQ P ops C F l2) l1 a
  | [], _, _, h => h
  | _ :: l1, l2, _, h => qOp_mono (K := RunQ P ops C F (l1 ++ l2)) (fun a' h' => runQ_append l1 l2 a' h') h
theorem runQ_mono {F F' : Act → Prop} (hF : ∀ a, F a → F' a) : ∀ (l : List Nat) (a : Act), RunQ P ops C F l a → RunQ P ops C F' l a
  | [], a, h => hF a h
  | _ :: l, _, h => qOp_mono (K := RunQ P ops C F l) (fun a' h' => runQ_mono hF l a' h') h
theorem runQ_of_quiet {F : Act → Prop} : ∀ (is : List Nat) (a : Act), (∀ i ∈ is, i < ops.size) → wpQuiet P ops C F (is.filterMap (ops[·]?)) a → RunQ P ops C F is a
  | [], _, _, h => h
  | i :: is, a, hi, h => by
    have h0 : i < ops.size := hi i List.mem_cons_self
    have h1 : ops[i]? = some ops[i] := by simp [h0]
    rw [List.filterMap_cons_some h1] at h
    have h2 : qOp P ops C i (wpQuiet P ops C F (is.filterMap (ops[·]?))) a := by unfold qOp; simp only [h1]; exact h
    exact qOp_mono (fun a' h' => runQ_of_quiet is a' (fun k hk => hi k (List.mem_cons_of_mem _ hk)) h') h2
end
theorem preL_false : ∀ (pre : List Nat) (listed : Array Bool) (i : Nat), i < listed.size → ((preL pre listed).getD i true = false ↔ listed.getD i true = false ∧ i ∉ pre)
  | [], _, i, _ => by simp [preL]
  | k :: pre, listed, i, hi => by
    rw [preL, preL_false pre _ i (by simpa using hi)]
    by_cases hk : k = i
    · subst hk; simp [hi]
    · rw [getD_set_ne true hk]; simp [Ne.symm hk]
theorem preL_inv {ops : Array Oper} {n : Nat} : ∀ (pre : List Nat) (listed : Array Bool), preB ops pre listed = true → (∀ i ∈ pre, i < n) → HeadInv .any ops n listed → HeadInv .any ops n (preL pre listed)
  | [], _, _, _, h => h
  | i :: pre, listed, hB, hi, h => by
    simp only [preB, Bool.and_eq_true] at hB
    exact preL_inv pre _ hB.2 (fun k hk => hi k (List.mem_cons_of_mem _ hk)) (h.set (by simpa using hB.1.2) (hi i List.mem_cons_self))
end Go.Proofs.Ytlopfkkegjajlaa
namespace Go.Proofs.Ytlopfkkegjajlaa
open Go
section
variable {P : Program} {ops : Array Oper} {C : World → Prop}
def plainB (o : Oper) : Bool := match o.op with | .move _ => true | .assign _ => true | .load .. => true | .fieldAddr .. => true | .indexAddr .. => true | .binOp .. => true | .slice .. => true | .build .. => true | .nilCheck _ => true | _ => false
theorem value_of_bind {s : Sem Value} {w w' : World} {n : Next} (h : (do pure (Next.value (← s)) : Sem Next).run P w = .ok n w') : ∃ u, n = .value u := by
  rw [Sem.run_bind] at h
  cases hs : s.run P w with
  | ok u w1 => rw [hs] at h; simp [Result.andThen] at h; exact ⟨u, h.1.symm⟩
  | halt x w1 => rw [hs] at h; simp [Result.andThen] at h
theorem plain_value {ρ : Operand → Value} {o : Oper} {w w' : World} {n : Next} (h : plainB o = true) (hr : (execOp ρ o).run P w = .ok n w') : ∃ u, n = .value u := by
  unfold plainB at h
  split at h <;> first | cases h | skip
  all_goals (rename_i ho; unfold execOp at hr; rw [ho] at hr; dsimp only at hr)
  · simp at hr; exact ⟨_, hr.1.symm⟩
  · simp at hr; exact ⟨_, hr.1.symm⟩
  · exact value_of_bind hr
  · exact value_of_bind hr
  · exact value_of_bind hr
  · exact value_of_bind hr
  · exact value_of_bind hr
  · exact value_of_bind hr
  · rename_i x
    split at hr
    all_goals first
      | (simp [runtimePanic, goPanic, go_sem] at hr; done)
      | (simp at hr; exact ⟨_, hr.1.symm⟩)
      | skip
    split at hr
    · simp [runtimePanic, goPanic, go_sem] at hr
    · rw [Sem.run_bind] at hr
      cases hp : (program : Sem Program).run P w with
      | halt y w1 => rw [hp] at hr; simp [Result.andThen] at hr
      | ok p w1 =>
        rw [hp] at hr
        simp only [Result.andThen] at hr
        rw [Sem.run_bind] at hr
        generalize hq : Sem.run P (nilAhead _ _ _ _) w1 = q at hr
        cases q with
        | halt y w2 => simp [Result.andThen] at hr
        | ok b w2 =>
          simp only [Result.andThen] at hr
          split at hr
          · rw [Sem.run_bind] at hr
            simp [unsupported, Result.andThen] at hr
          · simp at hr; exact ⟨_, hr.1.symm⟩
    · simp at hr; exact ⟨_, hr.1.symm⟩
theorem yieldsIf_of_qOp {i : Nat} {o : Oper} {a : Act} {K : Act → Prop} (hi : ops[i]? = some o) (hpl : plainB o = true) (h : qOp P ops C i K a) : ∃ v, YieldsIf P ops C o v a ∧ K (a.put o.dst v) := by
  obtain ⟨v, hy, hK⟩ := yieldsIn_of_qOp hi h
  refine ⟨v, ?_, hK⟩
  rcases hy with ⟨hw, hv⟩ | hy
  · refine .inl ⟨hw, fun w hC => ?_⟩
    have h1 := hv w hC
    unfold Oper.quietAt at h1
    cases hr : (execOp a.eval o).run P w with
    | halt x w1 => rw [hr] at h1; exact h1.elim
    | ok n w1 =>
      obtain ⟨u, rfl⟩ := plain_value hpl hr
      rw [hr] at h1
      obtain ⟨rfl, rfl⟩ := h1
      rfl
  · exact .inr hy
theorem qOp_of_yieldsIf {i : Nat} {o : Oper} {v : Value} {a : Act} {K : Act → Prop} (hi : ops[i]? = some o) (h : YieldsIf P ops C o v a) (hK : K (a.put o.dst v)) : qOp P ops C i K a := by
  unfold qOp
  simp only [hi]
  rcases h with ⟨hw, hv⟩ | ⟨hw, rfl⟩
  · rw [if_pos hw]
    exact ⟨v, fun w hC => by unfold Oper.quietAt; rw [hv w hC]; exact ⟨rfl, rfl⟩, hK⟩
  · rw [if_neg (by rw [hw]; exact Bool.false_ne_true)]; exact hK
def plainAt (ops : Array Oper) (i : Nat) : Bool := match ops[i]? with | some o => plainB o | none => false
theorem pull {Q : Exit → Act → World → Prop} {j : Nat} {K : Act → World → Prop} {w : World} (hsel : ∀ (j : Nat) (o : Oper) cs b, ops[j]? = some o → o.op ≠ .select cs b)
    (hQ : ∀ (o : Oper) (v : Value) c a w, Q (.panic c) (a.put o.dst v) w → Q (.panic c) a w) : ∀ (rem : List Nat) (a : Act), (∀ i ∈ rem, plainAt ops i = true ∧ apartAt ops i j = true) →
    RunQ P ops C (fun a' => wpOp P ops Q j K a' w) rem a → wpOp P ops Q j (fun a' w' => RunQ P ops C (fun a'' => K a'' w') rem a') a w
  | [], _, _, h => h
  | i :: rem, a, hap, h => by
    obtain ⟨hp, ha⟩ := hap i List.mem_cons_self
    unfold plainAt at hp
    unfold apartAt at ha
    cases hi : ops[i]? with
    | none => simp [hi] at hp
    | some oi =>
      cases hj : ops[j]? with
      | none => simp [hi, hj] at ha
      | some oj =>
        simp only [hi, hj] at hp ha
        obtain ⟨v, hy, hK⟩ := yieldsIf_of_qOp hi hp h
        have h1 := pull hsel hQ rem _ (fun k hk => hap k (List.mem_cons_of_mem _ hk)) hK
        have h2 := wpOp_putIf hj ha (fun cs b => hsel i oi cs b hi) (fun cs b => hsel j oj cs b hj) (hQ oi v) hy h1
        exact wpOp_mono (fun a' w' h' => qOp_of_yieldsIf hi h'.1 h'.2) h2
theorem qOp_out {p : Prop} {i : Nat} {a : Act} {K : Act → Prop} (hK : ∀ a, K a → p) (h : qOp P ops C i K a) : p := by
  unfold qOp at h
  split at h
  · exact hK _ h
  · split at h
    · obtain ⟨v, _, h⟩ := h; exact hK _ h
    · exact hK _ h
theorem runQ_out {p : Prop} {F : Act → Prop} (hF : ∀ a, F a → p) : ∀ (l : List Nat) (a : Act), RunQ P ops C F l a → p
  | [], a, h => hF a h
  | _ :: l, _, h => qOp_out (K := RunQ P ops C F l) (fun a' h' => runQ_out hF l a' h') h
def runH (P : Program) (ops : Array Oper) (C : World → Prop) (F : Act → World → Prop) : List Nat → Act → World → Prop
  | [], a, w => F a w
  | j :: js, a, w => ∃ o, ops[j]? = some o ∧ Region.wanted o (yielded ops a.tmps) = true ∧
      ((∃ f args, (execOp a.eval o).run P w = .ok (.enter f args) w ∧ Calls P f args w fun e w' => ∃ v, e = .returned v ∧ C w' ∧ runH P ops C F js (a.put o.dst v) w') ∨
        ∃ v w', (execOp a.eval o).run P w = .ok (.value v) w' ∧ C w' ∧ runH P ops C F js (a.put o.dst v) w')
theorem runH_op {Q : Exit → Act → World → Prop} {F : Act → World → Prop} {j : Nat} {js : List Nat} {a : Act} {w : World} (h : runH P ops C F (j :: js) a w) : wpOp P ops Q j (fun a' w' => C w' ∧ runH P ops C F js a' w') a w := by
  obtain ⟨o, ho, hw, h⟩ := h
  unfold wpOp
  simp only [ho]
  rw [if_pos hw]
  refine .inl ?_
  unfold Oper.wp
  rcases h with ⟨f, args, hr, hc⟩ | ⟨v, w', hr, hc⟩
  · rw [hr]
    refine Calls.mono hc ?_
    rintro e w' ⟨v, rfl, h1, h2⟩
    exact ⟨h1, h2⟩
  · rw [hr]
    exact hc
def chainL (ops : Array Oper) : List Nat → Bool
  | a :: b :: l => Region.waitsFor .any ops b a && chainL ops (b :: l)
  | _ => true
def lowB (ops : Array Oper) (n : Nat) : Bool := (List.range n).all fun j => match ops[j]? with | some o => o.after.all (fun e => !Region.binds .any e || decide (e.on < j)) | none => false
structure RemH (ops : Array Oper) (n : Nat) (listed : Array Bool) (rem crem : List Nat) : Prop where
  inv : HeadInv .any ops n listed
  mem : ∀ i, (i ∈ rem ∨ i ∈ crem) ↔ i < n ∧ listed.getD i true = false
  up : rem.Pairwise (· < ·)
  plain : ∀ i ∈ rem, plainAt ops i = true
  call : ∀ i ∈ crem, plainAt ops i = false
  nd : crem.Nodup
  chain : chainL ops crem = true
  two : ∀ i ∈ rem, ∀ j ∈ rem, i < j → Region.waitsFor .any ops j i = true ∨ apartAt ops i j = true
  mix : ∀ i ∈ rem, ∀ j ∈ crem, Region.waitsFor .any ops j i = true ∨ apartAt ops i j = true
theorem ready_min {n : Nat} {listed : Array Bool} (hlow : lowB ops n = true) (inv : HeadInv .any ops n listed) (hn : n ≤ ops.size) : ∀ (i : Nat), i < n → listed.getD i true = false → Region.ready .any ops listed ≠ [] := by
  intro i
  induction i using Nat.strongRecOn with
  | _ i ih =>
    intro hi hun
    have h1 := List.all_eq_true.1 hlow i (List.mem_range.2 hi)
    cases ho : ops[i]? with
    | none => simp [ho] at h1
    | some o =>
      simp only [ho] at h1
      by_cases hall : ∀ e ∈ o.after, Region.binds .any e = true → listed.getD e.on false = true
      · intro h0
        have : i ∈ Region.ready .any ops listed := mem_ready.2 ⟨hun, o, ho, hall⟩
        rw [h0] at this; cases this
      · simp only [Classical.not_forall] at hall
        obtain ⟨e, he, hb, hne⟩ := hall
        have h2 := Array.all_eq_true_iff_forall_mem.1 h1 e he
        simp only [hb, Bool.not_true, Bool.false_or, decide_eq_true_eq] at h2
        exact ih e.on h2 (by omega) (getD_in (by rw [inv.size]; omega) (by simpa using hne))
theorem waits_not_ready {listed : Array Bool} {i j : Nat} (h : Region.waitsFor .any ops j i = true) (hun : listed.getD i true = false) : j ∉ Region.ready .any ops listed := by
  intro hj
  obtain ⟨o', ho', e, he, hb, hon⟩ := Region.waitsFor_spec h
  obtain ⟨_, o2, ho2, hall⟩ := mem_ready.1 hj
  have : o' = o2 := Option.some.inj (ho'.symm.trans ho2)
  subst this
  have h2 := hall e he hb
  rw [hon, getD_both hun] at h2
  cases h2
theorem chain_later : ∀ (l : List Nat) (c : Nat), chainL ops (c :: l) = true → ∀ j ∈ l, ∃ i ∈ c :: l, Region.waitsFor .any ops j i = true
  | [], _, _, _, h => by cases h
  | b :: l, c, hc, j, hj => by
    simp only [chainL, Bool.and_eq_true] at hc
    rcases List.mem_cons.1 hj with rfl | h1
    · exact ⟨c, List.mem_cons_self, hc.1⟩
    · obtain ⟨i, hi, h2⟩ := chain_later l b hc.2 j h1
      exact ⟨i, List.mem_cons_of_mem _ hi, h2⟩
theorem any_of_hold {n g : Nat} {F : Act → World → Prop} {Q : Exit → Act → World → Prop} (hsel : ∀ (j : Nat) (o : Oper) cs b, ops[j]? = some o → o.op ≠ .select cs b)
    (hQ : ∀ (o : Oper) (v : Value) c a w, Q (.panic c) (a.put o.dst v) w → Q (.panic c) a w)
    {pre : List Nat} (hs : sinkPre ops n pre = true) (hc : Region.chainB .any ops n = true) (hn : n < ops.size) (hlow : lowB ops n = true)
    (hend : ∀ a w, C w → F a w → wpAny P .any ops Q g (headed ops.size n) a w) :
    ∀ (m : Nat) (rem crem : List Nat) (listed : Array Bool) (a : Act) (w : World), rem.length + crem.length = m → RemH ops n listed rem crem → (∀ i ∈ pre, listed.getD i true = true) → C w →
      RunQ P ops C (fun a' => runH P ops C F crem a' w) rem a → wpAny P .any ops Q (m + g) listed a w
  | 0, rem, crem, listed, a, w, hm, hr, _, hw, h => by
    obtain rfl : rem = [] := List.eq_nil_of_length_eq_zero (by omega)
    obtain rfl : crem = [] := List.eq_nil_of_length_eq_zero (by omega)
    have hl : listed = headed ops.size n := rem_done ⟨hr.inv, fun i => by simpa using hr.mem i, List.Pairwise.nil⟩
    rw [Nat.zero_add, hl]
    exact hend a w hw h
  | m + 1, rem, crem, listed, a, w, hm, hr, hpl, hw, h => by
    have hex : ∃ i0, i0 < n ∧ listed.getD i0 true = false := by
      cases rem with
      | cons i r => exact ⟨i, (hr.mem i).1 (.inl List.mem_cons_self)⟩
      | nil =>
        cases crem with
        | cons i r => exact ⟨i, (hr.mem i).1 (.inr List.mem_cons_self)⟩
        | nil => simp at hm
    obtain ⟨i0, hi0, hu0⟩ := hex
    have hsucc : m + 1 + g = (m + g) + 1 := by omega
    rw [hsucc]
    refine ⟨fun h0 => absurd h0 (ready_min hlow hr.inv (by omega) i0 hi0 hu0), fun j hj => ?_⟩
    have hjun := (mem_ready.1 hj).1
    have hjn : j < n := by
      rcases Nat.lt_or_ge j n with h1 | h1
      · exact h1
      · exact absurd hj (tail_waits_pre hpl hs hc hn hr.inv _ i0 rfl hi0 hu0 j h1)
    have hsz : j < listed.size := by rw [hr.inv.size]; omega
    have hun : ∀ i, i ∈ rem ∨ i ∈ crem → listed.getD i true = false := fun i hi => ((hr.mem i).1 hi).2
    rcases (hr.mem j).2 ⟨hjn, hjun⟩ with hjm | hjm
    · obtain ⟨l1, l2, hl⟩ := List.append_of_mem hjm
      have hup := hr.up
      rw [hl] at h hup
      have hap : ∀ i ∈ l1, apartAt ops i j = true := by
        intro i hi
        have hij : i < j := (List.pairwise_append.1 hup).2.2 i hi j List.mem_cons_self
        have him : i ∈ rem := by rw [hl]; exact List.mem_append_left _ hi
        rcases hr.two i him j hjm hij with h1 | h1
        · exact absurd hj (waits_not_ready h1 (hun i (.inl him)))
        · exact h1
      have h2 := run_front hsel l1 j l2 a hap h
      have hlen : (l1 ++ l2).length + crem.length = m := by rw [hl] at hm; simp at hm ⊢; omega
      have hnd : ∀ i, i ∈ l1 ++ l2 → i ≠ j := by
        intro i hi
        rcases List.mem_append.1 hi with h3 | h3
        · have := (List.pairwise_append.1 hup).2.2 i h3 j List.mem_cons_self; omega
        · have := (List.pairwise_cons.1 (List.pairwise_append.1 hup).2.1).1 i h3; omega
      have hsub : ∀ i, i ∈ l1 ++ l2 → i ∈ rem := fun i hi => by
        rw [hl]
        rcases List.mem_append.1 hi with h3 | h3
        · exact List.mem_append_left _ h3
        · exact List.mem_append_right _ (List.mem_cons_of_mem _ h3)
      have hjp := hr.plain j hjm
      have hcj : ∀ i, i ∈ crem → i ≠ j := fun i hi e => by subst e; have := hr.call i hi; rw [hjp] at this; cases this
      have hr2 : RemH ops n (listed.setIfInBounds j true) (l1 ++ l2) crem := by
        refine ⟨hr.inv.set hj hjn, fun i => ?_, ?_, fun i hi => hr.plain i (hsub i hi), hr.call, hr.nd, hr.chain, fun i hi k hk => hr.two i (hsub i hi) k (hsub k hk), fun i hi k hk => hr.mix i (hsub i hi) k hk⟩
        · by_cases hij : i = j
          · subst hij
            constructor
            · rintro (h3 | h3)
              · exact absurd rfl (hnd i h3)
              · exact absurd rfl (hcj i h3)
            · rintro ⟨_, h3⟩; simp [hsz] at h3
          · rw [getD_set_ne true (Ne.symm hij), ← hr.mem i, hl]
            simp only [List.mem_append, List.mem_cons]
            constructor
            · rintro ((h3 | h3) | h3)
              · exact .inl (.inl h3)
              · exact .inl (.inr (.inr h3))
              · exact .inr h3
            · rintro ((h3 | h3 | h3) | h3)
              · exact .inl (.inl h3)
              · exact absurd h3 hij
              · exact .inl (.inr h3)
              · exact .inr h3
        · rw [List.pairwise_append] at hup ⊢
          exact ⟨hup.1, (List.pairwise_cons.1 hup.2.1).2, fun x hx y hy => hup.2.2 x hx y (List.mem_cons_of_mem _ hy)⟩
      unfold plainAt at hjp
      cases ho : ops[j]? with
      | none => simp [ho] at hjp
      | some oj =>
        simp only [ho] at hjp
        have h3 : qOp P ops C j (RunQ P ops C (fun a' => runH P ops C F crem a' w) (l1 ++ l2)) a := h2
        obtain ⟨v, hy, hK⟩ := yieldsIf_of_qOp ho hjp h3
        exact hy.wpOp ho hw (any_of_hold hsel hQ hs hc hn hlow hend m (l1 ++ l2) crem _ _ w hlen hr2 (fun i hi => getD_set_true' (hpl i hi)) hw hK)
    · obtain ⟨c, cs, rfl⟩ : ∃ c cs, crem = c :: cs := by
        cases crem with
        | nil => cases hjm
        | cons c cs => exact ⟨c, cs, rfl⟩
      have hjc : j = c := by
        rcases List.mem_cons.1 hjm with h1 | h1
        · exact h1
        · obtain ⟨i, hi, h2⟩ := chain_later cs c hr.chain j h1
          exact absurd hj (waits_not_ready h2 (hun i (.inr hi)))
      subst hjc
      have hap : ∀ i ∈ rem, plainAt ops i = true ∧ apartAt ops i j = true := fun i hi => ⟨hr.plain i hi, by
        rcases hr.mix i hi j List.mem_cons_self with h1 | h1
        · exact absurd hj (waits_not_ready h1 (hun i (.inl hi)))
        · exact h1⟩
      have h2 : RunQ P ops C (fun a' => wpOp P ops Q j (fun a' w' => C w' ∧ runH P ops C F cs a' w') a' w) rem a := runQ_mono (fun a' h' => runH_op h') rem a h
      have h3 := pull hsel hQ rem a hap h2
      have hnd := List.nodup_cons.1 hr.nd
      have hrj : ∀ i, i ∈ rem → i ≠ j := fun i hi e => by subst e; have := hr.call i hjm; rw [hr.plain i hi] at this; cases this
      have hr2 : RemH ops n (listed.setIfInBounds j true) rem cs := by
        refine ⟨hr.inv.set hj hjn, fun i => ?_, hr.up, hr.plain, fun i hi => hr.call i (List.mem_cons_of_mem _ hi), hnd.2, ?_, hr.two, fun i hi k hk => hr.mix i hi k (List.mem_cons_of_mem _ hk)⟩
        · by_cases hij : i = j
          · subst hij
            constructor
            · rintro (h3 | h3)
              · exact absurd rfl (hrj i h3)
              · exact absurd h3 hnd.1
            · rintro ⟨_, h3⟩; simp [hsz] at h3
          · rw [getD_set_ne true (Ne.symm hij), ← hr.mem i]
            simp [hij]
        · have := hr.chain
          cases cs with
          | nil => rfl
          | cons b l => simp only [chainL, Bool.and_eq_true] at this; exact this.2
      refine wpOp_mono (fun a' w' h' => ?_) h3
      exact any_of_hold hsel hQ hs hc hn hlow hend m rem cs _ _ w' (by simp at hm; omega) hr2 (fun i hi => getD_set_true' (hpl i hi)) (runQ_out (fun _ h => h.1) rem a' h') (runQ_mono (fun _ h => h.2) rem a' h')
end
def quietOf (ops : Array Oper) (n : Nat) (pre : List Nat) : List Nat := (List.range n).filter fun i => plainAt ops i && !pre.contains i
def callsOf (ops : Array Oper) (n : Nat) (pre : List Nat) : List Nat := (List.range n).filter fun i => !plainAt ops i && !pre.contains i
def holdB (ops : Array Oper) (n : Nat) (pre : List Nat) : Bool :=
  Region.noSelect ops && decide (n < ops.size) && sinkPre ops n pre && Region.chainB .any ops n && lowB ops n && Region.seqB .any ops (ops.size - n) n (headed ops.size n) && preB ops pre (Array.replicate ops.size false) && pre.all (fun i => decide (i < n)) && decide (pre.length + ((quietOf ops n pre).length + (callsOf ops n pre).length) = n) &&
  chainL ops (callsOf ops n pre) && (quietOf ops n pre).all (fun i => (quietOf ops n pre).all (fun j => decide (j ≤ i) || Region.waitsFor .any ops j i || apartAt ops i j) && (callsOf ops n pre).all (fun j => Region.waitsFor .any ops j i || apartAt ops i j))
def pickOps (l : List Oper) : List Nat → List Oper
  | [] => []
  | i :: is => (l[i]?).elim (pickOps l is) (fun o => o :: pickOps l is)
theorem pickOps_eq (l : List Oper) : ∀ is : List Nat, is.filterMap (l.toArray[·]?) = pickOps l is
  | [] => rfl
  | i :: is => by
    rw [pickOps, ← pickOps_eq l is]
    cases h : l[i]? with
    | none => rw [List.filterMap_cons_none (by simpa using h)]; rfl
    | some o => rw [List.filterMap_cons_some (by simpa using h)]; rfl
theorem wp_region_hold {P : Program} {C : World → Prop} {id : Nat} {Q : Exit → Act → World → Prop} {a : Act} {w : World} {l : List Oper} (n : Nat) (pre is cs : List Nat) (hm : P.follows .mixedOrders = true) (hB : holdB l.toArray n pre = true) (his : pre ++ quietOf l.toArray n pre = is) (hcs : callsOf l.toArray n pre = cs)
    (hQ : ∀ (o : Oper) (v : Value) c a w, Q (.panic c) (a.put o.dst v) w → Q (.panic c) a w) (hC : C { w with drawn := w.drawn + 1 })
    (h : wpQuiet P l.toArray C (fun a' => ∀ w', C w' → runH P l.toArray C (fun a w => wpList P l.toArray Q (l.drop n) a w) cs a' w') (pickOps l is) a) : (Code.region id l.toArray true).wp P Q a w := by
  rw [← pickOps_eq] at h
  subst his hcs
  simp only [holdB, Bool.and_eq_true, decide_eq_true_eq] at hB
  obtain ⟨⟨⟨⟨⟨⟨⟨⟨⟨⟨hsel, hn⟩, hs⟩, hc⟩, hlow⟩, hq⟩, hpB⟩, hpn⟩, hlen⟩, hch⟩, hmx⟩ := hB
  have hn' : n < l.length := by simpa using hn
  have hpn' : ∀ i ∈ pre, i < n := fun i hi => by simpa using List.all_eq_true.1 hpn i hi
  have hdl : (l.drop n).length = l.toArray.size - n := by simp
  have hqm : ∀ i, i ∈ quietOf l.toArray n pre ↔ i < n ∧ plainAt l.toArray i = true ∧ i ∉ pre := fun i => by
    unfold quietOf; rw [List.mem_filter, List.mem_range]; simp
  have hcm : ∀ i, i ∈ callsOf l.toArray n pre ↔ i < n ∧ plainAt l.toArray i = false ∧ i ∉ pre := fun i => by
    unfold callsOf; rw [List.mem_filter, List.mem_range]; simp
  have hrun := runQ_of_quiet (ops := l.toArray) (pre ++ quietOf l.toArray n pre) a (fun i hi => by
    rcases List.mem_append.1 hi with h1 | h1
    · have := hpn' i h1; omega
    · have := ((hqm i).1 h1).1; omega) h
  have hrun2 := runQ_append _ _ _ hrun
  have hinv0 : HeadInv .any l.toArray n (Array.replicate l.toArray.size false) :=
    ⟨by simp, fun j oj _ hl => (by rw [getD_replicate_false] at hl; cases hl), fun t _ ht => getD_in (by simpa using ht) (getD_replicate_false _ _)⟩
  have hmem : ∀ i, i < n → ((preL pre (Array.replicate l.toArray.size false)).getD i true = false ↔ i ∉ pre) := fun i hi => by
    rw [preL_false pre _ i (by simp; omega)]
    have : (Array.replicate l.toArray.size false).getD i true = false := getD_in (by simp; omega) (getD_replicate_false _ _)
    simp only [this, true_and]
  have hrem : RemH l.toArray n (preL pre (Array.replicate l.toArray.size false)) (quietOf l.toArray n pre) (callsOf l.toArray n pre) := by
    refine ⟨preL_inv pre _ hpB hpn' hinv0, fun i => ?_, ?_, fun i hi => ((hqm i).1 hi).2.1, fun i hi => ((hcm i).1 hi).2.1, ?_, hch, fun i hi j hj hij => ?_, fun i hi j hj => ?_⟩
    · rw [hqm, hcm]
      constructor
      · rintro (⟨h1, _, h2⟩ | ⟨h1, _, h2⟩) <;> exact ⟨h1, (hmem i h1).2 h2⟩
      · rintro ⟨h1, h2⟩
        cases hp : plainAt l.toArray i with
        | true => exact .inl ⟨h1, rfl, (hmem i h1).1 h2⟩
        | false => exact .inr ⟨h1, rfl, (hmem i h1).1 h2⟩
    · exact List.Pairwise.filter _ List.pairwise_lt_range
    · exact (List.nodup_range).filter _
    · have h1 := List.all_eq_true.1 hmx i hi
      rw [Bool.and_eq_true] at h1
      have h2 := List.all_eq_true.1 h1.1 j hj
      simp only [Bool.or_eq_true, decide_eq_true_eq] at h2
      rcases h2 with (h2 | h2) | h2
      · omega
      · exact .inl h2
      · exact .inr h2
    · have h1 := List.all_eq_true.1 hmx i hi
      rw [Bool.and_eq_true] at h1
      have h2 := List.all_eq_true.1 h1.2 j hj
      rwa [Bool.or_eq_true] at h2
  have hpl : ∀ i ∈ pre, (preL pre (Array.replicate l.toArray.size false)).getD i true = true := fun i hi => by
    have := hmem i (hpn' i hi)
    cases hx : (preL pre (Array.replicate l.toArray.size false)).getD i true with
    | true => rfl
    | false => exact absurd hi (this.1 hx)
  refine wp_region_any hm ?_
  have hall : ∀ a', RunQ P l.toArray C (fun a' => ∀ w', C w' → runH P l.toArray C (fun a w => wpList P l.toArray Q (l.drop n) a w) (callsOf l.toArray n pre) a' w') (quietOf l.toArray n pre) a' → wpAny P .any l.toArray Q (((quietOf l.toArray n pre).length + (callsOf l.toArray n pre).length) + (l.toArray.size - n)) (preL pre (Array.replicate l.toArray.size false)) a' { w with drawn := w.drawn + 1 } := fun a' ha' =>
    any_of_hold (pre := pre) (P := P) (C := C) (g := l.toArray.size - n) (Q := Q) (Region.noSelect_spec hsel) hQ hs hc hn hlow (fun a' w' hw' hF => by
      have := wpAny_of_seq (md := .any) (Q' := Q) (l.drop n) n _ a' w' (fun j => by simp [List.getElem?_drop]) (by rw [hdl]; exact hq) hF
      rwa [hdl] at this) _ (quietOf l.toArray n pre) (callsOf l.toArray n pre) _ a' _ rfl hrem hpl hC (runQ_mono (fun a'' h'' => h'' _ hC) _ _ ha')
  have := take_pre (C := C) hsel (fun o v c a w _ h => hQ o v c a w h) hC pre (Array.replicate l.toArray.size false) a hpB (runQ_mono hall pre a hrun2)
  rw [show pre.length + (((quietOf l.toArray n pre).length + (callsOf l.toArray n pre).length) + (l.toArray.size - n)) = l.toArray.size by omega] at this
  exact this
end Go.Proofs.Ytlopfkkegjajlaa
namespace Go.Proofs.Ytlopfkkegjajlaa
open Go.RowKit Go.Proofs.YtlopfkkegjajlaaW.PrintWords PHistoryTouched
structure SmallL (l : List S76) : Prop where
  n : l.length ≤ 1048576
  p : ∀ j : Nat, j < l.length → (rd_T76 l j).f4.length ≤ 1048576
  k : ∀ j : Nat, j < l.length → (rd_T76 l j).f5.length ≤ 1048576
  r : ∀ j : Nat, j < l.length → (rd_T76 l j).f6.length ≤ 1048576
def TwinPost (nx : Int) (l : List S76) (w : World) (e : Ending) (w' : World) : Prop := ∃ v, e = .returned (.agg #[.int .i64 nx, v]) ∧ k76.R 76 w' w.heap.size (fun _ => True) v l ∧ Below w.heap.size w w'
def TwI (B : Nat) (A' : Option Addr) (l : List S76) (raws : List (List Value)) (cap i : Nat) (W : World) : Prop :=
  (A' = none ∧ l = [] ∧ cap = 0) ∨ ∃ g cur, A' = some ⟨g, 0, none⟩ ∧ B + 1 < g ∧ cap ≤ maxLen ∧ TwR W B g l raws cap i cur
theorem twI_start {W : World} {B : Nat} {l : List S76} {raws : List (List Value)} {v : Value} (hl : raws.length = l.length) (h : raw7.R 76 W (B + 2) (fun _ => True) v raws) : ∃ A' cap, v = .slice A' l.length cap ∧ l.length ≤ cap ∧ TwI B A' l raws cap 0 W := by
  rcases tw_start hl h with ⟨rfl, rfl⟩ | ⟨g, cap, cur, rfl, hg, hm, ht⟩
  · exact ⟨none, 0, rfl, Nat.le_refl _, .inl ⟨rfl, rfl, rfl⟩⟩
  · refine ⟨_, cap, rfl, ht.cap, .inr ⟨g, cur, rfl, by omega, hm, ⟨ht.blk, ht.size, ht.cap, fun j hj => by omega, ht.todo⟩⟩⟩
theorem twI_end {W : World} {B : Nat} {A' : Option Addr} {l : List S76} {raws : List (List Value)} {cap : Nat} (h : TwI B A' l raws cap l.length W) : k76.R 76 W B (fun _ => True) (.slice A' l.length cap) l := by
  rcases h with ⟨rfl, rfl, rfl⟩ | ⟨g, cur, rfl, hg, hm, ht⟩
  · exact Kd.R_nil _ _ _ _ _
  · exact tw_end hm (by omega) ht
theorem TwI.far {B : Nat} {A' : Option Addr} {l : List S76} {raws : List (List Value)} {cap i : Nat} {W : World} (h : TwI B A' l raws cap i W) {g0 : Nat} (hg0 : g0 ≤ B + 1) (hi : i = 0) (j : Nat) (u : Value) : TwI B A' l raws cap i (W.setCell ⟨g0, j, none⟩ u) := by
  subst hi
  rcases h with h | ⟨g, cur, rfl, hg, hm, ht⟩
  · exact .inl h
  · exact .inr ⟨g, cur, rfl, hg, hm, ⟨blk_far ht.blk (by show g ≠ g0; omega) _, ht.size, ht.cap, fun j hj => by omega, ht.todo⟩⟩
set_option maxRecDepth 100000 in
set_option maxHeartbeats 4000000 in
theorem twin_any (nx : Int) (A : Option Addr) (l : List S76) (c : Nat) (w : World) (hr : Kd.C k76 w A l.length l) (hs : SmallL l) :
    Calls Try.prog 38 #[.agg #[.int .i64 nx, .slice A l.length c]] w (TwinPost nx l w) := by
  obtain ⟨raws, hrl, hrk, hrr⟩ := raws_of hr
  have HR : Hid (Kd.C k76 w A l.length l) := hr
  have HS : Hid (SmallL l) := hs
  have HRR : Hid (ReadsRow (fun x cs => cs = x ∧ cs.length = 7 ∧ ∀ u ∈ cs, u.oneCell' = true) 7 w A raws.length raws) := hrr
  have HRK : Hid (∀ j : Nat, j < l.length → k76.K w (rd_T76 l j) (raws.getD j [])) := hrk
  have hln : l.length ≤ 1048576 := hs.n
  have HB0 : Hid (Below w.heap.size w ((w.alloc (.cells #[.int .i64 nx, .slice A l.length c] 27)).alloc (.cells #[.int .i64 0, .slice none 0 0] 27))) := below_alloc (below_alloc (Below.refl _ _) _) _
  have K1 : Hid (((w.alloc (.cells #[.int .i64 nx, .slice A l.length c] 27)).alloc (.cells #[.int .i64 0, .slice none 0 0] 27)).heap[w.heap.size]? = some (.cells #[.int .i64 nx, .slice A l.length c] 27 (0, 0))) := blk_alloc (blk_new _ _) _
  have k2 : (((w.alloc (.cells #[.int .i64 nx, .slice A l.length c] 27)).alloc (.cells #[.int .i64 0, .slice none 0 0] 27)).heap[w.heap.size + 1]? = some (.cells #[.int .i64 0, .slice none 0 0] 27 (0, 0))) := by
    have := blk_new (w.alloc (.cells #[.int .i64 nx, .slice A l.length c] 27)) (.cells #[.int .i64 0, .slice none 0 0] 27)
    simpa using this
  have K2 := Lib.hid k2
  clear k2
  have HRL : Hid (raws.length = l.length) := hrl
  clear hr hs hrr hrk hrl
  go_enter Try.func38, Try.ntmps38
  go_wp2_with fail
  generalize ((w.alloc (.cells #[.int .i64 nx, .slice A l.length c] 27)).alloc (.cells #[.int .i64 0, .slice none 0 0] 27)) = W at K1 K2 HB0 ⊢
  have hcl : Calls Try.prog 64 #[.slice A l.length c] W (ClonePost raw7 76 raws W) := by
    have := cloneNodes A raws c W (ReadsRow.imp_ HRR.out HB0.out (fun _ _ h => h)) (by rw [HRL.out]; omega)
    rwa [HRL.out] at this
  refine hcl.mono ?_
  clear hcl
  rintro e w1 ⟨v, rfl, hv, hb1⟩
  have hsz : w.heap.size + 2 ≤ W.heap.size := by have := blk_lt K2.out; omega
  obtain ⟨A', cap, rfl, hcap, hI⟩ := twI_start HRL.out (Kd.R_lower hv hsz)
  have HI : Hid (TwI w.heap.size A' l raws cap 0 w1) := hI
  have HB1 : Hid (Below w.heap.size w w1) := below_step HB0.out hb1
  have L1 : Hid (w1.heap[w.heap.size]? = some (.cells #[.int .i64 nx, .slice A l.length c] 27 (0, 0))) := blk_below K1.out hb1
  have L2 : Hid (w1.heap[w.heap.size + 1]? = some (.cells #[.int .i64 0, .slice none 0 0] 27 (0, 0))) := blk_below K2.out hb1
  have M1 : Hid ((w1.setCell ⟨w.heap.size, 1, none⟩ (.slice A' l.length cap)).heap[w.heap.size]? = some (.cells #[.int .i64 nx, .slice A' l.length cap] 27 (0, 0))) := blk_put L1.out 1 _ rfl
  have M2 : Hid ((w1.setCell ⟨w.heap.size, 1, none⟩ (.slice A' l.length cap)).heap[w.heap.size + 1]? = some (.cells #[.int .i64 0, .slice none 0 0] 27 (0, 0))) := blk_far L2.out (by show w.heap.size + 1 ≠ w.heap.size; omega) _
  have HB2 : Hid (Below w.heap.size w (w1.setCell ⟨w.heap.size, 1, none⟩ (.slice A' l.length cap))) := HB1.out.setCell (Nat.le_refl _) _
  have HI2 : Hid (TwI w.heap.size A' l raws cap 0 (w1.setCell ⟨w.heap.size, 1, none⟩ (.slice A' l.length cap))) := HI.out.far (by omega) rfl 1 _
  have q1 : w1.cell? ⟨w.heap.size, 1, none⟩ = some (.slice A l.length c) := blk_cell L1.out 1
  have f1 : w1.frozen? ⟨w.heap.size, 1, none⟩ = false := blk_frozen L1.out 1
  have q2 : (w1.setCell ⟨w.heap.size, 1, none⟩ (.slice A' l.length cap)).cell? ⟨w.heap.size, 1, none⟩ = some (.slice A' l.length cap) := blk_cell M1.out 1
  clear hI hv hb1 HB1 HI K1 K2 HB0 L1 L2 hsz
  go_wp2_with fail
  clear q1 f1 q2
  generalize (w1.setCell ⟨w.heap.size, 1, none⟩ (.slice A' l.length cap)) = W2 at M1 M2 HB2 HI2 ⊢
  go_loopw [12] (fun i W => ∃ k : Nat, k ≤ l.length ∧ i = .int .i64 k ∧ Hid (Below w.heap.size w W) ∧ Hid (W.heap[w.heap.size]? = some (.cells #[.int .i64 nx, .slice A' l.length cap] 27 (0, 0))) ∧ Hid (W.heap[w.heap.size + 1]? = some (.cells #[.int .i64 0, .slice none 0 0] 27 (0, 0))) ∧ Hid (TwI w.heap.size A' l raws cap k W)) (fun i _ => l.length - (intOf i).toNat)
  case atStart => exact ⟨0, Nat.zero_le _, rfl, HB2, M1, M2, HI2⟩
  case round =>
    obtain ⟨k, hk, rfl, HB, M1, M2, HI⟩ := hrel
    by_cases hlt : k < l.length
    · have q2 : wr.cell? ⟨w.heap.size, 1, none⟩ = some (.slice A' l.length cap) := blk_cell M1.out 1
      have hk0 : (0 : Int) ≤ (k : Int) := by omega
      have hk1 : (k : Int) < (l.length : Int) := by omega
      rcases HI.out with ⟨rfl, rfl, rfl⟩ | ⟨g, cur, rfl, hg, hm, ht⟩
      · simp at hlt
      have HT : Hid (TwR wr w.heap.size g l raws cap k cur) := ht
      obtain ⟨A4, c4, A5, c5, A6, c6, hraw, l4, g4, l5, g5, l6, g6⟩ := k76_open (HRK.out k hlt)
      have hrow := ht.todo k (Nat.le_refl _) hlt
      rw [hraw] at hrow
      have x4 : wr.cell? ⟨g, k * 7 + 4, none⟩ = some (.slice A4 (rd_T76 l k).f4.length c4) := by
        rw [blk_cell ht.blk, ← row7_get hrow (by omega)]; rfl
      have x5 : wr.cell? ⟨g, k * 7 + 5, none⟩ = some (.slice A5 (rd_T76 l k).f5.length c5) := by
        rw [blk_cell ht.blk, ← row7_get hrow (by omega)]; rfl
      have x6 : wr.cell? ⟨g, k * 7 + 6, none⟩ = some (.slice A6 (rd_T76 l k).f6.length c6) := by
        rw [blk_cell ht.blk, ← row7_get hrow (by omega)]; rfl
      have HRAW : Hid (raws.getD k [] = [.int .i64 (rd_T76 l k).f0, .string (rd_T76 l k).f1, .int .i64 (rd_T76 l k).f2, .string (rd_T76 l k).f3, .slice A4 (rd_T76 l k).f4.length c4, .slice A5 (rd_T76 l k).f5.length c5, .slice A6 (rd_T76 l k).f6.length c6]) := hraw
      have HN : Hid (NodeR w (rd_T76 l k) A4 c4 A5 c5 A6 c6) := ⟨l4, g4, l5, g5, l6, g6⟩
      clear ht hraw hrow l4 g4 l5 g5 l6 g6 HI
      go_wp2_with fail
      have y4 : ∀ x : BW wr, x.1.cell? ⟨g, k * 7 + 4, none⟩ = some (.slice A4 (rd_T76 l k).f4.length c4) := bw_cell x4
      have y5 : ∀ x : BW wr, x.1.cell? ⟨g, k * 7 + 5, none⟩ = some (.slice A5 (rd_T76 l k).f5.length c5) := bw_cell x5
      have y6 : ∀ x : BW wr, x.1.cell? ⟨g, k * 7 + 6, none⟩ = some (.slice A6 (rd_T76 l k).f6.length c6) := bw_cell x6
      clear x4 x5 x6 q2
      refine wp_region_noPanic ?_
      refine wp_region_hold (C := fun w' => ∃ x : BW wr, w' = x.1) 18 [1, 2] [1, 2, 0, 3, 4, 5, 6, 8, 9, 10, 11, 13, 14, 15, 16] [7, 12, 17] (by kernel_rfl) (by kernel_rfl) (by kernel_rfl) (by kernel_rfl) (fun _ _ _ _ _ h => (h : False).elim) ⟨⟨{ wr with drawn := wr.drawn + 1 }, ⟨rfl, rfl, rfl, Nat.le_refl _, fun _ _ => rfl⟩⟩, rfl⟩ ?_
      simp only [pickOps, Option.elim_some, List.getElem?_cons_succ, List.getElem?_cons_zero, List.drop_succ_cons, List.drop_zero]
      repeat (go_big_quiet_step (fail))
      refine wpQuiet_nil ?_
      rintro _ ⟨x, rfl⟩
      have HB3 : Hid (Below w.heap.size w x.1) := below_step HB x.2
      have HT3 : Hid (TwR x.1 w.heap.size g l raws cap k cur) := HT.out.below x.2
      have N1 : Hid (x.1.heap[w.heap.size]? = some (.cells #[.int .i64 nx, .slice (some ⟨g, 0, none⟩) l.length cap] 27 (0, 0))) := blk_below M1.out x.2
      have N2 : Hid (x.1.heap[w.heap.size + 1]? = some (.cells #[.int .i64 0, .slice none 0 0] 27 (0, 0))) := blk_below M2.out x.2
      clear y4 y5 y6 M1 M2 HB HT
      refine ⟨_, rfl, rfl, .inl ⟨65, #[.slice A4 (rd_T76 l k).f4.length c4], ?_, ?_⟩⟩
      · go_simp
      refine (cloneProps A4 (rd_T76 l k).f4 c4 x.1 (Kd.C_below HN.out.r4 HB3.out) (by have := HS.out.p k hlt; omega)).mono ?_
      rintro e w3 ⟨v4, rfl, h4, hb3⟩
      refine ⟨_, rfl, ⟨⟨w3, below_step x.2 hb3⟩, rfl⟩, ?_⟩
      simp only [Act.put, List.getElem_toArray, List.getElem_cons_succ, List.getElem_cons_zero, List.setIfInBounds_toArray, List.set_cons_zero, List.set_cons_succ]
      have HB4 : Hid (Below w.heap.size w w3) := below_step HB3.out hb3
      have HT4 : Hid (TwR w3 w.heap.size g l raws cap k cur) := HT3.out.below hb3
      have HX4 : Hid (∃ y : BW wr, w3 = y.1) := ⟨⟨w3, below_step x.2 hb3⟩, rfl⟩
      have H4 : Hid (k82.R 82 w3 x.1.heap.size (fun _ => True) v4 (rd_T76 l k).f4) := h4
      have P1 : Hid (w3.heap[w.heap.size]? = some (.cells #[.int .i64 nx, .slice (some ⟨g, 0, none⟩) l.length cap] 27 (0, 0))) := blk_below N1.out hb3
      have P2 : Hid (w3.heap[w.heap.size + 1]? = some (.cells #[.int .i64 0, .slice none 0 0] 27 (0, 0))) := blk_below N2.out hb3
      have HSZ : Hid (w.heap.size ≤ x.1.heap.size ∧ g < x.1.heap.size) := ⟨HB3.out.size, blk_lt HT3.out.blk⟩
      generalize x.1.heap.size = s3 at H4 HSZ
      clear HB3 HT3 N1 N2 hb3 h4 x
      refine ⟨_, rfl, rfl, .inl ⟨66, #[.slice A5 (rd_T76 l k).f5.length c5], ?_, ?_⟩⟩
      · go_simp
      refine (cloneInts A5 (rd_T76 l k).f5 c5 w3 (Kd.C_below HN.out.r5 HB4.out) (by have := HS.out.k k hlt; omega)).mono ?_
      rintro e w5 ⟨v5, rfl, h5, hb5⟩
      have HX5 : Hid (∃ y : BW wr, w5 = y.1) := by
        obtain ⟨⟨y, hy⟩, rfl⟩ := HX4.out
        exact ⟨⟨w5, below_step hy hb5⟩, rfl⟩
      refine ⟨_, rfl, HX5.out, ?_⟩
      simp only [Act.put, List.getElem_toArray, List.getElem_cons_succ, List.getElem_cons_zero, List.setIfInBounds_toArray, List.set_cons_zero, List.set_cons_succ]
      have HB5 : Hid (Below w.heap.size w w5) := below_step HB4.out hb5
      have HT5 : Hid (TwR w5 w.heap.size g l raws cap k cur) := HT4.out.below hb5
      have G4 : Hid (k82.R 82 w5 s3 (fun _ => True) v4 (rd_T76 l k).f4) := Kd.R_below H4.out hb5
      have H5 : Hid ((Kd.int .i64).R 3 w5 w3.heap.size (fun _ => True) v5 (rd_T76 l k).f5) := h5
      have Q1 : Hid (w5.heap[w.heap.size]? = some (.cells #[.int .i64 nx, .slice (some ⟨g, 0, none⟩) l.length cap] 27 (0, 0))) := blk_below P1.out hb5
      have Q2 : Hid (w5.heap[w.heap.size + 1]? = some (.cells #[.int .i64 0, .slice none 0 0] 27 (0, 0))) := blk_below P2.out hb5
      have HSZ5 : Hid (w.heap.size ≤ w3.heap.size ∧ g < w3.heap.size) := ⟨HB4.out.size, blk_lt HT4.out.blk⟩
      generalize w3.heap.size = s5 at H5 HSZ5
      clear HB4 HT4 P1 P2 hb5 h5 H4 HX4 w3
      refine ⟨_, rfl, rfl, .inl ⟨67, #[.slice A6 (rd_T76 l k).f6.length c6], ?_, ?_⟩⟩
      · go_simp
      refine (cloneRefs A6 (rd_T76 l k).f6 c6 w5 (Kd.C_below HN.out.r6 HB5.out) (by have := HS.out.r k hlt; omega)).mono ?_
      rintro e w7 ⟨v6, rfl, h6, hb7⟩
      have HX7 : Hid (∃ y : BW wr, w7 = y.1) := by
        obtain ⟨⟨y, hy⟩, rfl⟩ := HX5.out
        exact ⟨⟨w7, below_step hy hb7⟩, rfl⟩
      refine ⟨_, rfl, HX7.out, ?_⟩
      simp only [Act.put, List.getElem_toArray, List.getElem_cons_succ, List.getElem_cons_zero, List.setIfInBounds_toArray, List.set_cons_zero, List.set_cons_succ]
      have HB7 : Hid (Below w.heap.size w w7) := below_step HB5.out hb7
      have HT7 : Hid (TwR w7 w.heap.size g l raws cap k cur) := HT5.out.below hb7
      have HSZ7 : w.heap.size ≤ w5.heap.size ∧ g < w5.heap.size := ⟨HB5.out.size, blk_lt HT5.out.blk⟩
      have E4 : Hid (k82.R 82 w7 w.heap.size (fun k => k ≠ g) v4 (rd_T76 l k).f4) := Kd.R_lower (Kd.R_mono (Kd.R_bound (Kd.R_below G4.out hb7)) (fun q hq => by have := hq.2.1; have := HSZ.out.2; omega)) HSZ.out.1
      have E5 : Hid ((Kd.int .i64).R 3 w7 w.heap.size (fun k => k ≠ g) v5 (rd_T76 l k).f5) := Kd.R_lower (Kd.R_mono (Kd.R_bound (Kd.R_below H5.out hb7)) (fun q hq => by have := hq.2.1; have := HSZ5.out.2; omega)) HSZ5.out.1
      have E6 : Hid (k84.R 84 w7 w.heap.size (fun k => k ≠ g) v6 (rd_T76 l k).f6) := Kd.R_lower (Kd.R_mono (Kd.R_bound h6) (fun q hq => by have := hq.2.1; omega)) HSZ7.1
      have U1 : Hid (w7.heap[w.heap.size]? = some (.cells #[.int .i64 nx, .slice (some ⟨g, 0, none⟩) l.length cap] 27 (0, 0))) := blk_below Q1.out hb7
      have U2 : Hid (w7.heap[w.heap.size + 1]? = some (.cells #[.int .i64 0, .slice none 0 0] 27 (0, 0))) := blk_below Q2.out hb7
      clear HB5 HT5 Q1 Q2 hb7 h6 H5 G4 HX5 HX7 HSZ7 HSZ HSZ5
      have hrow := HT7.out.todo k (Nat.le_refl _) hlt
      rw [HRAW.out] at hrow
      have t4 : w7.cell? ⟨g, k * 7 + 4, none⟩ = some (.slice A4 (rd_T76 l k).f4.length c4) := by
        rw [blk_cell HT7.out.blk, ← row7_get hrow (by omega)]; rfl
      have t5 : w7.cell? ⟨g, k * 7 + 5, none⟩ = some (.slice A5 (rd_T76 l k).f5.length c5) := by
        rw [blk_cell HT7.out.blk, ← row7_get hrow (by omega)]; rfl
      have t6 : w7.cell? ⟨g, k * 7 + 6, none⟩ = some (.slice A6 (rd_T76 l k).f6.length c6) := by
        rw [blk_cell HT7.out.blk, ← row7_get hrow (by omega)]; rfl
      have ff : ∀ i, w7.frozen? ⟨g, i, none⟩ = false := blk_frozen HT7.out.blk
      have HT8 : Hid (TwI w.heap.size (some ⟨g, 0, none⟩) l raws cap (k + 1) (((w7.setCell ⟨g, k * 7 + 4, none⟩ v4).setCell ⟨g, k * 7 + 5, none⟩ v5).setCell ⟨g, k * 7 + 6, none⟩ v6)) := by
        obtain ⟨cur', h⟩ := HT7.out.put hlt HRAW.out E4.out E5.out E6.out
        exact .inr ⟨g, cur', rfl, hg, hm, h⟩
      have HB8 : Hid (Below w.heap.size w (((w7.setCell ⟨g, k * 7 + 4, none⟩ v4).setCell ⟨g, k * 7 + 5, none⟩ v5).setCell ⟨g, k * 7 + 6, none⟩ v6)) := ((HB7.out.setCell (by show w.heap.size ≤ g; omega) _).setCell (by show w.heap.size ≤ g; omega) _).setCell (by show w.heap.size ≤ g; omega) _
      have Z1 : Hid ((((w7.setCell ⟨g, k * 7 + 4, none⟩ v4).setCell ⟨g, k * 7 + 5, none⟩ v5).setCell ⟨g, k * 7 + 6, none⟩ v6).heap[w.heap.size]? = some (.cells #[.int .i64 nx, .slice (some ⟨g, 0, none⟩) l.length cap] 27 (0, 0))) := blk_far (blk_far (blk_far U1.out (by show w.heap.size ≠ g; omega) _) (by show w.heap.size ≠ g; omega) _) (by show w.heap.size ≠ g; omega) _
      have Z2 : Hid ((((w7.setCell ⟨g, k * 7 + 4, none⟩ v4).setCell ⟨g, k * 7 + 5, none⟩ v5).setCell ⟨g, k * 7 + 6, none⟩ v6).heap[w.heap.size + 1]? = some (.cells #[.int .i64 0, .slice none 0 0] 27 (0, 0))) := blk_far (blk_far (blk_far U2.out (by show w.heap.size + 1 ≠ g; omega) _) (by show w.heap.size + 1 ≠ g; omega) _) (by show w.heap.size + 1 ≠ g; omega) _
      obtain ⟨A4', n4, e4⟩ := Kd.R_slice E4.out
      obtain ⟨A5', n5, e5⟩ := Kd.R_slice E5.out
      obtain ⟨A6', n6, e6⟩ := Kd.R_slice E6.out
      subst e4 e5 e6
      clear hrow HT7 HB7 E4 E5 E6 U1 U2
      show wpList _ _ _ _ _ _
      go_wp2_with fail
      refine NoPanic.normal ?_
      go_wp2_with fail
      go_roundw
      case rel => exact ⟨k + 1, by omega, by go_num, HB8, Z1, Z2, HT8⟩
      case measure => simp [intOf]; omega
    · obtain rfl : k = l.length := by omega
      have HE : Hid (k76.R 76 wr w.heap.size (fun _ => True) (.slice A' l.length cap) l) := twI_end HI.out
      have q0 : wr.cell? ⟨w.heap.size, 0, none⟩ = some (.int .i64 nx) := blk_cell M1.out 0
      have q1 : wr.cell? ⟨w.heap.size, 1, none⟩ = some (.slice A' l.length cap) := blk_cell M1.out 1
      have q2 : wr.cell? ⟨w.heap.size + 1, 0, none⟩ = some (.int .i64 0) := blk_cell M2.out 0
      have q3 : wr.cell? ⟨w.heap.size + 1, 1, none⟩ = some (.slice none 0 0) := blk_cell M2.out 1
      have ff : ∀ i, wr.frozen? ⟨w.heap.size + 1, i, none⟩ = false := blk_frozen M2.out
      have N2 : Hid (((wr.setCell ⟨w.heap.size + 1, 0, none⟩ (.int .i64 nx)).setCell ⟨w.heap.size + 1, 1, none⟩ (.slice A' l.length cap)).heap[w.heap.size + 1]? = some (.cells #[.int .i64 nx, .slice A' l.length cap] 27 (0, 0))) := blk_put (blk_put M2.out 0 _ rfl) 1 _ rfl
      have r0 : ((wr.setCell ⟨w.heap.size + 1, 0, none⟩ (.int .i64 nx)).setCell ⟨w.heap.size + 1, 1, none⟩ (.slice A' l.length cap)).cell? ⟨w.heap.size + 1, 0, none⟩ = some (.int .i64 nx) := blk_cell N2.out 0
      have r1 : ((wr.setCell ⟨w.heap.size + 1, 0, none⟩ (.int .i64 nx)).setCell ⟨w.heap.size + 1, 1, none⟩ (.slice A' l.length cap)).cell? ⟨w.heap.size + 1, 1, none⟩ = some (.slice A' l.length cap) := blk_cell N2.out 1
      have HB9 : Hid (Below w.heap.size w ((wr.setCell ⟨w.heap.size + 1, 0, none⟩ (.int .i64 nx)).setCell ⟨w.heap.size + 1, 1, none⟩ (.slice A' l.length cap))) := (HB.out.setCell (by show w.heap.size ≤ w.heap.size + 1; omega) _).setCell (by show w.heap.size ≤ w.heap.size + 1; omega) _
      have HP : Hid (TwinPost nx l w (.returned (.agg #[.int .i64 nx, .slice A' l.length cap])) ((wr.setCell ⟨w.heap.size + 1, 0, none⟩ (.int .i64 nx)).setCell ⟨w.heap.size + 1, 1, none⟩ (.slice A' l.length cap))) :=
        ⟨_, rfl, Kd.R_set (Kd.R_set HE.out M2.out (by decide) 0 _) (blk_put M2.out 0 _ rfl) (by decide) 1 _, HB9.out⟩
      clear HI HB M1 M2 HE N2 HB9
      go_wp2_with fail
      simp [bodyPost, results, Try.results38, go_sem, r0, r1]
      exact HP.out
end Go.Proofs.Ytlopfkkegjajlaa
namespace Go.Proofs.Ytlopfkkegjajlaa
open Go.RowKit Go.Proofs.YtlopfkkegjajlaaW.PrintWords PHistoryTouched
abbrev pastO (A : Option Addr) (n c now : Nat) : Obj := .cells #[.slice A n c, .int .i64 (now : Int)] 79 (0, 0)
set_option maxRecDepth 100000 in
set_option maxHeartbeats 1000000 in
theorem none_any (pb : Nat) (A : Option Addr) (n c now : Nat) (w : World) (hp : w.heap[pb]? = some (pastO A n c now)) (hn : 0 < n) :
    Calls Try.prog 40 #[.pointer (some ⟨pb, 0, none⟩)] w fun e w' => e = .returned (.bool false) ∧ Below w.heap.size w w' := by
  have q0 : w.cell? ⟨pb, 0, none⟩ = some (.slice A n c) := blk_cell hp 0
  have hn0 : ((n : Int) == 0) = false := by rw [beq_eq_false_iff_ne]; omega
  have HB : Hid (Below w.heap.size w w) := Below.refl _ _
  clear hp
  go_enter Try.func40, Try.ntmps40
  go_wp2_with fail
  go_ret
  exact ⟨rfl, HB.out⟩
set_option maxRecDepth 100000 in
set_option maxHeartbeats 1000000 in
theorem depth_any (pb : Nat) (A : Option Addr) (n c now : Nat) (w : World) (hp : w.heap[pb]? = some (pastO A n c now)) (hn : now < n) (hm : n ≤ 1048576) :
    Calls Try.prog 32 #[.pointer (some ⟨pb, 0, none⟩)] w fun e w' => e = .returned (.tuple #[.int .i64 (now : Int), .int .i64 ((n : Int) - 1 - now)]) ∧ Below w.heap.size w w' := by
  have HP : Hid (w.heap[pb]? = some (pastO A n c now)) := hp
  clear hp
  go_enter Try.func32, Try.ntmps32
  go_wp2_with fail
  refine (none_any pb A n c now w HP.out (by omega)).mono ?_
  rintro e w1 ⟨rfl, hb⟩
  have HB : Hid (Below w.heap.size w w1) := hb
  have HP1 : Hid (w1.heap[pb]? = some (pastO A n c now)) := blk_below HP.out hb
  clear hb HP
  go_wp2_with fail
  have q0 : ∀ x : BW w1, x.1.cell? ⟨pb, 0, none⟩ = some (.slice A n c) := bw_cell (blk_cell HP1.out 0)
  have q1 : ∀ x : BW w1, x.1.cell? ⟨pb, 1, none⟩ = some (.int .i64 (now : Int)) := bw_cell (blk_cell HP1.out 1)
  have hw1 : IntKind.i64.wrap ((n : Int) - 1) = (n : Int) - 1 := IntWalk.i64_in _ (by omega)
  have hw2 : IntKind.i64.wrap ((n : Int) - 1 - now) = (n : Int) - 1 - now := IntWalk.i64_in _ (by omega)
  refine wp_region_bw (by kernel_rfl) (by kernel_rfl) ?_
  repeat (go_big_quiet_step (fail))
  refine wpQuiet_nil ?_
  rintro _ ⟨x, rfl⟩
  have HB2 : Hid (Below w.heap.size w x.1) := below_step HB.out x.2
  clear q0 q1
  go_wp2_with fail
  simp [bodyPost, results, Try.results32, go_sem]
  exact HB2.out
set_option maxRecDepth 100000 in
set_option maxHeartbeats 1000000 in
theorem now_any (pb : Nat) (A : Option Addr) (ms : List S27) (c now : Nat) (w : World) (hp : w.heap[pb]? = some (pastO A ms.length c now)) (hr : Kd.C k27 w A ms.length ms) (hn : now < ms.length) (hm : ms.length ≤ 1048576) (hs : SmallL (rd_T27 ms now).f1) :
    Calls Try.prog 31 #[.pointer (some ⟨pb, 0, none⟩)] w (TwinPost (rd_T27 ms now).f0 (rd_T27 ms now).f1 w) := by
  have HP : Hid (w.heap[pb]? = some (pastO A ms.length c now)) := hp
  have HR : Hid (Kd.C k27 w A ms.length ms) := hr
  have HS : Hid (SmallL (rd_T27 ms now).f1) := hs
  clear hp hr hs
  have HB0 : Hid (Below w.heap.size w (w.alloc (.cells #[.int .i64 0, .slice none 0 0] 27))) := below_alloc (Below.refl _ _) _
  have K1 : Hid ((w.alloc (.cells #[.int .i64 0, .slice none 0 0] 27)).heap[w.heap.size]? = some (.cells #[.int .i64 0, .slice none 0 0] 27 (0, 0))) := blk_new _ _
  go_enter Try.func31, Try.ntmps31
  go_wp2_with fail
  generalize (w.alloc (.cells #[.int .i64 0, .slice none 0 0] 27)) = W at HB0 K1 ⊢
  refine (none_any pb A ms.length c now W (blk_below HP.out HB0.out) (by omega)).mono ?_
  rintro e w1 ⟨rfl, hb⟩
  have HB : Hid (Below w.heap.size w w1) := below_step HB0.out hb
  have L1 : Hid (w1.heap[w.heap.size]? = some (.cells #[.int .i64 0, .slice none 0 0] 27 (0, 0))) := blk_below K1.out hb
  have HP1 : Hid (w1.heap[pb]? = some (pastO A ms.length c now)) := blk_below HP.out HB.out
  clear hb K1 HB0
  go_wp2_with fail
  obtain ⟨ad, A1, c1, rfl, z0, z1, hl1, hk1⟩ := at_T27 (Kd.C_below HR.out HB.out) (now : Int) (by omega) (by omega)
  have HK : Hid (k76.C w1 A1 (rd_T27 ms now).f1.length (rd_T27 ms now).f1) := hk1
  have y0 : ∀ x : BW w1, x.1.cell? (ad.add (now * 2)) = some (.int .i64 (rd_T27 ms now).f0) := bw_cell (by simpa using z0)
  have y1 : ∀ x : BW w1, x.1.cell? ⟨(ad.add (now * 2)).block, (ad.add (now * 2)).off + 1, none⟩ = some (.slice A1 (rd_T27 ms now).f1.length c1) := bw_cell (by simpa using z1)
  have q0 : ∀ x : BW w1, x.1.cell? ⟨pb, 0, none⟩ = some (.slice (some ad) ms.length c) := bw_cell (blk_cell HP1.out 0)
  have q1 : ∀ x : BW w1, x.1.cell? ⟨pb, 1, none⟩ = some (.int .i64 (now : Int)) := bw_cell (blk_cell HP1.out 1)
  have h0 : (0 : Int) ≤ (now : Int) := by omega
  have h1 : (now : Int) < (ms.length : Int) := by omega
  clear z0 z1 hk1
  refine wp_region_noPanic ?_
  refine wp_region_hold (C := fun w' => ∃ x : BW w1, w' = x.1) 11 [] [0, 1, 2, 3, 4, 5, 6, 7, 8, 9] [10] (by kernel_rfl) (by kernel_rfl) (by kernel_rfl) (by kernel_rfl) (fun _ _ _ _ _ h => (h : False).elim) ⟨⟨{ w1 with drawn := w1.drawn + 1 }, ⟨rfl, rfl, rfl, Nat.le_refl _, fun _ _ => rfl⟩⟩, rfl⟩ ?_
  simp only [pickOps, Option.elim_some, List.getElem?_cons_succ, List.getElem?_cons_zero, List.drop_succ_cons, List.drop_zero]
  repeat (go_big_quiet_step (fail))
  refine wpQuiet_nil ?_
  rintro _ ⟨x, rfl⟩
  clear y0 y1 q0 q1
  refine ⟨_, rfl, rfl, .inl ⟨38, #[.agg #[.int .i64 (rd_T27 ms now).f0, .slice A1 (rd_T27 ms now).f1.length c1]], ?_, ?_⟩⟩
  · go_simp
  refine (twin_any (rd_T27 ms now).f0 A1 (rd_T27 ms now).f1 c1 x.1 (Kd.C_below HK.out x.2) HS.out).mono ?_
  rintro e w3 ⟨v, rfl, hv, hb3⟩
  refine ⟨_, rfl, ⟨⟨w3, below_step x.2 hb3⟩, rfl⟩, ?_⟩
  simp only [Act.put, List.getElem_toArray, List.getElem_cons_succ, List.getElem_cons_zero, List.setIfInBounds_toArray, List.set_cons_zero, List.set_cons_succ]
  have hsz : w.heap.size ≤ x.1.heap.size := Nat.le_trans HB.out.size x.2.size
  have HV : Hid (k76.R 76 w3 w.heap.size (fun _ => True) v (rd_T27 ms now).f1) := Kd.R_lower hv hsz
  have HB3 : Hid (Below w.heap.size w w3) := below_step (below_step HB.out x.2) hb3
  have N1 : Hid (w3.heap[w.heap.size]? = some (.cells #[.int .i64 0, .slice none 0 0] 27 (0, 0))) := blk_below (blk_below L1.out x.2) hb3
  clear hv hb3 hsz L1 HB HP HP1 HR HK
  have q0 : w3.cell? ⟨w.heap.size, 0, none⟩ = some (.int .i64 0) := blk_cell N1.out 0
  have q1 : w3.cell? ⟨w.heap.size, 1, none⟩ = some (.slice none 0 0) := blk_cell N1.out 1
  have ff : ∀ i, w3.frozen? ⟨w.heap.size, i, none⟩ = false := blk_frozen N1.out
  obtain ⟨A', cap, rfl⟩ := Kd.R_slice HV.out
  have N2 : Hid (((w3.setCell ⟨w.heap.size, 0, none⟩ (.int .i64 (rd_T27 ms now).f0)).setCell ⟨w.heap.size, 1, none⟩ (.slice A' (rd_T27 ms now).f1.length cap)).heap[w.heap.size]? = some (.cells #[.int .i64 (rd_T27 ms now).f0, .slice A' (rd_T27 ms now).f1.length cap] 27 (0, 0))) := blk_put (blk_put N1.out 0 _ rfl) 1 _ rfl
  have r0 : ((w3.setCell ⟨w.heap.size, 0, none⟩ (.int .i64 (rd_T27 ms now).f0)).setCell ⟨w.heap.size, 1, none⟩ (.slice A' (rd_T27 ms now).f1.length cap)).cell? ⟨w.heap.size, 0, none⟩ = some (.int .i64 (rd_T27 ms now).f0) := blk_cell N2.out 0
  have r1 : ((w3.setCell ⟨w.heap.size, 0, none⟩ (.int .i64 (rd_T27 ms now).f0)).setCell ⟨w.heap.size, 1, none⟩ (.slice A' (rd_T27 ms now).f1.length cap)).cell? ⟨w.heap.size, 1, none⟩ = some (.slice A' (rd_T27 ms now).f1.length cap) := blk_cell N2.out 1
  have HF : Hid (TwinPost (rd_T27 ms now).f0 (rd_T27 ms now).f1 w (.returned (.agg #[.int .i64 (rd_T27 ms now).f0, .slice A' (rd_T27 ms now).f1.length cap])) ((w3.setCell ⟨w.heap.size, 0, none⟩ (.int .i64 (rd_T27 ms now).f0)).setCell ⟨w.heap.size, 1, none⟩ (.slice A' (rd_T27 ms now).f1.length cap))) :=
    ⟨_, rfl, Kd.R_set (Kd.R_set HV.out N1.out (by decide) 0 _) (blk_put N1.out 0 _ rfl) (by decide) 1 _, (HB3.out.setCell (Nat.le_refl _) _).setCell (Nat.le_refl _) _⟩
  clear HV N1 N2 HB3
  show wpList _ _ _ _ _ _
  go_wp2_with fail
  refine NoPanic.normal ?_
  go_wp2_with fail
  simp [bodyPost, results, Try.results31, go_sem, r0, r1]
  exact HF.out
end Go.Proofs.Ytlopfkkegjajlaa
namespace Go.Proofs.Ytlopfkkegjajlaa
open Go.RowKit Go.Proofs.YtlopfkkegjajlaaW.PrintWords PHistoryTouched
def StepPost (pb : Nat) (A : Option Addr) (n c nw : Nat) (m : S27) (er : Int) (w : World) (e : Ending) (w' : World) : Prop :=
  ∃ v, e = .returned (.tuple #[.agg #[.int .i64 m.f0, v], .int .i64 er]) ∧ k76.R 76 w' w.heap.size (fun _ => True) v m.f1 ∧ Wr (· = pb) w w' ∧ w'.heap[pb]? = some (pastO A n c nw)
set_option maxRecDepth 100000 in
set_option maxHeartbeats 1000000 in
theorem to_yes (more : Int) (pb : Nat) (D : Nat → Prop) (A : Option Addr) (ms : List S27) (c now nw : Nat) (w : World) (hp : w.heap[pb]? = some (pastO A ms.length c now)) (hr : Kd.F k27 w D A ms.length ms) (hD : ¬ D pb) (hm : ms.length ≤ 1048576)
    (hs : SmallL (rd_T27 ms nw).f1) (hnw : (nw : Int) = now + more) (hlt : nw < ms.length) :
    Calls Try.prog 41 #[.pointer (some ⟨pb, 0, none⟩), .int .i64 more] w (StepPost pb A ms.length c nw (rd_T27 ms nw) 0 w) := by
  have HP : Hid (w.heap[pb]? = some (pastO A ms.length c now)) := hp
  have HR : Hid (Kd.F k27 w D A ms.length ms) := hr
  have HS : Hid (SmallL (rd_T27 ms nw).f1) := hs
  have HD : Hid (¬ D pb) := hD
  have HNW : Hid ((nw : Int) = now + more) := hnw
  clear hp hr hs hD hnw
  have HB0 : Hid (Below w.heap.size w (w.alloc (.cells #[.int .i64 0, .slice none 0 0] 27))) := below_alloc (Below.refl _ _) _
  have K1 : Hid ((w.alloc (.cells #[.int .i64 0, .slice none 0 0] 27)).heap[w.heap.size]? = some (.cells #[.int .i64 0, .slice none 0 0] 27 (0, 0))) := blk_new _ _
  have hpb : pb < w.heap.size := blk_lt HP.out
  go_enter Try.func41, Try.ntmps41
  go_wp2_with fail
  generalize (w.alloc (.cells #[.int .i64 0, .slice none 0 0] 27)) = W at HB0 K1 ⊢
  refine (none_any pb A ms.length c now W (blk_below HP.out HB0.out) (by omega)).mono ?_
  rintro e w1 ⟨rfl, hb⟩
  have HB : Hid (Below w.heap.size w w1) := below_step HB0.out hb
  have L1 : Hid (w1.heap[w.heap.size]? = some (.cells #[.int .i64 0, .slice none 0 0] 27 (0, 0))) := blk_below K1.out hb
  have HP1 : Hid (w1.heap[pb]? = some (pastO A ms.length c now)) := blk_below HP.out HB.out
  clear hb K1 HB0
  go_wp2_with fail
  have q0 : ∀ x : BW w1, x.1.cell? ⟨pb, 0, none⟩ = some (.slice A ms.length c) := bw_cell (blk_cell HP1.out 0)
  have q1 : ∀ x : BW w1, x.1.cell? ⟨pb, 1, none⟩ = some (.int .i64 (now : Int)) := bw_cell (blk_cell HP1.out 1)
  have hw : IntKind.i64.wrap ((now : Int) + more) = (now : Int) + more := IntWalk.i64_in _ (by have := HNW.out; omega)
  have hd1 : decide ((now : Int) + more < 0) = false := decide_eq_false (by have := HNW.out; omega)
  have hd2 : decide ((ms.length : Int) ≤ (now : Int) + more) = false := decide_eq_false (by have := HNW.out; omega)
  refine wp_region_bw (by kernel_rfl) (by kernel_rfl) ?_
  repeat (go_big_quiet_step (fail))
  refine wpQuiet_nil ?_
  rintro _ ⟨x, rfl⟩
  have HB2 : Hid (Below w.heap.size w x.1) := below_step HB.out x.2
  have HP2 : Hid (x.1.heap[pb]? = some (pastO A ms.length c now)) := blk_below HP1.out x.2
  have L2 : Hid (x.1.heap[w.heap.size]? = some (.cells #[.int .i64 0, .slice none 0 0] 27 (0, 0))) := blk_below L1.out x.2
  clear q0 q1 HB HP1 L1
  obtain ⟨w2, hw2⟩ := x
  dsimp only at HB2 HP2 L2 ⊢
  clear hw2
  have q1 : w2.cell? ⟨pb, 1, none⟩ = some (.int .i64 (now : Int)) := blk_cell HP2.out 1
  have ff : ∀ i, w2.frozen? ⟨pb, i, none⟩ = false := blk_frozen HP2.out
  have HP3 : Hid ((w2.setCell ⟨pb, 1, none⟩ (.int .i64 ((now : Int) + more))).heap[pb]? = some (pastO A ms.length c nw)) := blk_put HP2.out 1 _ (by rw [HNW.out]; rfl)
  have L3 : Hid ((w2.setCell ⟨pb, 1, none⟩ (.int .i64 ((now : Int) + more))).heap[w.heap.size]? = some (.cells #[.int .i64 0, .slice none 0 0] 27 (0, 0))) := blk_far L2.out (by show w.heap.size ≠ pb; omega) _
  have HF3 : Hid (Kd.F k27 (w2.setCell ⟨pb, 1, none⟩ (.int .i64 ((now : Int) + more))) D A ms.length ms) := Kd.F_far (Kd.F_below HR.out HB2.out) (fun k hk e => HD.out (by rw [e] at hk; exact hk)) _
  have HW3 : Hid (Wr (· = pb) w (w2.setCell ⟨pb, 1, none⟩ (.int .i64 ((now : Int) + more)))) := (Wr.of_below HB2.out).set pb 1 _ (.inl rfl)
  clear HB2 HP2 L2 HR HP
  go_wp2_with fail
  generalize (w2.setCell ⟨pb, 1, none⟩ (.int .i64 ((now : Int) + more))) = w3 at HP3 L3 HF3 HW3 ⊢
  refine (now_any pb A ms c nw w3 HP3.out (Kd.F_now HF3.out) hlt hm HS.out).mono ?_
  rintro e w4 ⟨v, rfl, hv, hb4⟩
  have HV : Hid (k76.R 76 w4 w.heap.size (fun _ => True) v (rd_T27 ms nw).f1) := Kd.R_lower hv HW3.out.size
  have HW4 : Hid (Wr (· = pb) w w4) := HW3.out.step hb4
  have L4 : Hid (w4.heap[w.heap.size]? = some (.cells #[.int .i64 0, .slice none 0 0] 27 (0, 0))) := blk_below L3.out hb4
  have HP4 : Hid (w4.heap[pb]? = some (pastO A ms.length c nw)) := blk_below HP3.out hb4
  clear hv hb4 HW3 L3 HP3 HF3
  have q0 : w4.cell? ⟨w.heap.size, 0, none⟩ = some (.int .i64 0) := blk_cell L4.out 0
  have q1 : w4.cell? ⟨w.heap.size, 1, none⟩ = some (.slice none 0 0) := blk_cell L4.out 1
  have ff : ∀ i, w4.frozen? ⟨w.heap.size, i, none⟩ = false := blk_frozen L4.out
  obtain ⟨A', cap, rfl⟩ := Kd.R_slice HV.out
  have N2 : Hid (((w4.setCell ⟨w.heap.size, 0, none⟩ (.int .i64 (rd_T27 ms nw).f0)).setCell ⟨w.heap.size, 1, none⟩ (.slice A' (rd_T27 ms nw).f1.length cap)).heap[w.heap.size]? = some (.cells #[.int .i64 (rd_T27 ms nw).f0, .slice A' (rd_T27 ms nw).f1.length cap] 27 (0, 0))) := blk_put (blk_put L4.out 0 _ rfl) 1 _ rfl
  have r0 : ((w4.setCell ⟨w.heap.size, 0, none⟩ (.int .i64 (rd_T27 ms nw).f0)).setCell ⟨w.heap.size, 1, none⟩ (.slice A' (rd_T27 ms nw).f1.length cap)).cell? ⟨w.heap.size, 0, none⟩ = some (.int .i64 (rd_T27 ms nw).f0) := blk_cell N2.out 0
  have r1 : ((w4.setCell ⟨w.heap.size, 0, none⟩ (.int .i64 (rd_T27 ms nw).f0)).setCell ⟨w.heap.size, 1, none⟩ (.slice A' (rd_T27 ms nw).f1.length cap)).cell? ⟨w.heap.size, 1, none⟩ = some (.slice A' (rd_T27 ms nw).f1.length cap) := blk_cell N2.out 1
  have HF : Hid (StepPost pb A ms.length c nw (rd_T27 ms nw) 0 w (.returned (.tuple #[.agg #[.int .i64 (rd_T27 ms nw).f0, .slice A' (rd_T27 ms nw).f1.length cap], .int .i64 0])) ((w4.setCell ⟨w.heap.size, 0, none⟩ (.int .i64 (rd_T27 ms nw).f0)).setCell ⟨w.heap.size, 1, none⟩ (.slice A' (rd_T27 ms nw).f1.length cap))) :=
    ⟨_, rfl, Kd.R_set (Kd.R_set HV.out L4.out (by decide) 0 _) (blk_put L4.out 0 _ rfl) (by decide) 1 _, (HW4.out.set _ 0 _ (.inr (Nat.le_refl _))).set _ 1 _ (.inr (Nat.le_refl _)),
      blk_far (blk_far HP4.out (by show pb ≠ w.heap.size; omega) _) (by show pb ≠ w.heap.size; omega) _⟩
  clear HV N2 HW4 L4 HP4
  go_wp2_with fail
  simp [bodyPost, results, Try.results41, go_sem, r0, r1]
  exact HF.out
set_option maxRecDepth 100000 in
set_option maxHeartbeats 1000000 in
theorem to_no (more : Int) (pb : Nat) (A : Option Addr) (n c now : Nat) (w : World) (hp : w.heap[pb]? = some (pastO A n c now)) (hn : now < n) (hm : n ≤ 1048576) (hmo : -65 ≤ more ∧ more ≤ 65) (hno : (now : Int) + more < 0 ∨ (n : Int) ≤ now + more) :
    Calls Try.prog 41 #[.pointer (some ⟨pb, 0, none⟩), .int .i64 more] w (StepPost pb A n c now ⟨0, []⟩ 270 w) := by
  have HP : Hid (w.heap[pb]? = some (pastO A n c now)) := hp
  have HNO : Hid ((now : Int) + more < 0 ∨ (n : Int) ≤ now + more) := hno
  have HMO : Hid (-65 ≤ more ∧ more ≤ 65) := hmo
  clear hp hno hmo
  have HB0 : Hid (Below w.heap.size w (w.alloc (.cells #[.int .i64 0, .slice none 0 0] 27))) := below_alloc (Below.refl _ _) _
  have K1 : Hid ((w.alloc (.cells #[.int .i64 0, .slice none 0 0] 27)).heap[w.heap.size]? = some (.cells #[.int .i64 0, .slice none 0 0] 27 (0, 0))) := blk_new _ _
  have hpb : pb < w.heap.size := blk_lt HP.out
  go_enter Try.func41, Try.ntmps41
  go_wp2_with fail
  generalize (w.alloc (.cells #[.int .i64 0, .slice none 0 0] 27)) = W at HB0 K1 ⊢
  refine (none_any pb A n c now W (blk_below HP.out HB0.out) (by omega)).mono ?_
  rintro e w1 ⟨rfl, hb⟩
  have HB : Hid (Below w.heap.size w w1) := below_step HB0.out hb
  have L1 : Hid (w1.heap[w.heap.size]? = some (.cells #[.int .i64 0, .slice none 0 0] 27 (0, 0))) := blk_below K1.out hb
  have HP1 : Hid (w1.heap[pb]? = some (pastO A n c now)) := blk_below HP.out HB.out
  clear hb K1 HB0
  go_wp2_with fail
  have q0 : ∀ x : BW w1, x.1.cell? ⟨pb, 0, none⟩ = some (.slice A n c) := bw_cell (blk_cell HP1.out 0)
  have q1 : ∀ x : BW w1, x.1.cell? ⟨pb, 1, none⟩ = some (.int .i64 (now : Int)) := bw_cell (blk_cell HP1.out 1)
  have hw : IntKind.i64.wrap ((now : Int) + more) = (now : Int) + more := IntWalk.i64_in _ (by have := HMO.out; omega)
  by_cases hneg : (now : Int) + more < 0
  · have hd1 : decide ((now : Int) + more < 0) = true := decide_eq_true hneg
    clear hneg
    refine wp_region_bw (by kernel_rfl) (by kernel_rfl) ?_
    repeat (go_big_quiet_step (fail))
    refine wpQuiet_nil ?_
    rintro _ ⟨x, rfl⟩
    have HB2 : Hid (Below w.heap.size w x.1) := below_step HB.out x.2
    have HP2 : Hid (x.1.heap[pb]? = some (pastO A n c now)) := blk_below HP1.out x.2
    have L2 : Hid (x.1.heap[w.heap.size]? = some (.cells #[.int .i64 0, .slice none 0 0] 27 (0, 0))) := blk_below L1.out x.2
    clear q0 q1 HB HP1 L1
    obtain ⟨w4, hw4⟩ := x
    dsimp only at HB2 HP2 L2 ⊢
    clear hw4
    have q0 : w4.cell? ⟨w.heap.size, 0, none⟩ = some (.int .i64 0) := blk_cell L2.out 0
    have q1 : w4.cell? ⟨w.heap.size, 1, none⟩ = some (.slice none 0 0) := blk_cell L2.out 1
    have ff : ∀ i, w4.frozen? ⟨w.heap.size, i, none⟩ = false := blk_frozen L2.out
    have N2 : Hid (((w4.setCell ⟨w.heap.size, 0, none⟩ (.int .i64 0)).setCell ⟨w.heap.size, 1, none⟩ (.slice none 0 0)).heap[w.heap.size]? = some (.cells #[.int .i64 0, .slice none 0 0] 27 (0, 0))) := blk_put (blk_put L2.out 0 _ rfl) 1 _ rfl
    have r0 : ((w4.setCell ⟨w.heap.size, 0, none⟩ (.int .i64 0)).setCell ⟨w.heap.size, 1, none⟩ (.slice none 0 0)).cell? ⟨w.heap.size, 0, none⟩ = some (.int .i64 0) := blk_cell N2.out 0
    have r1 : ((w4.setCell ⟨w.heap.size, 0, none⟩ (.int .i64 0)).setCell ⟨w.heap.size, 1, none⟩ (.slice none 0 0)).cell? ⟨w.heap.size, 1, none⟩ = some (.slice none 0 0) := blk_cell N2.out 1
    have HF : Hid (StepPost pb A n c now ⟨0, []⟩ 270 w (.returned (.tuple #[.agg #[.int .i64 0, .slice none 0 0], .int .i64 270])) ((w4.setCell ⟨w.heap.size, 0, none⟩ (.int .i64 0)).setCell ⟨w.heap.size, 1, none⟩ (.slice none 0 0))) :=
      ⟨_, rfl, Kd.R_nil _ _ _ _ _, ((Wr.of_below HB2.out).set _ 0 _ (.inr (Nat.le_refl _))).set _ 1 _ (.inr (Nat.le_refl _)),
        blk_far (blk_far HP2.out (by show pb ≠ w.heap.size; omega) _) (by show pb ≠ w.heap.size; omega) _⟩
    clear N2 HB2 HP2 L2
    go_wp2_with fail
    simp [bodyPost, results, Try.results41, go_sem, r0, r1]
    exact HF.out
  · have hd1 : decide ((now : Int) + more < 0) = false := decide_eq_false hneg
    have hd2 : decide ((n : Int) ≤ (now : Int) + more) = true := decide_eq_true (by have := HNO.out; omega)
    clear hneg
    refine wp_region_bw (by kernel_rfl) (by kernel_rfl) ?_
    repeat (go_big_quiet_step (fail))
    refine wpQuiet_nil ?_
    rintro _ ⟨x, rfl⟩
    have HB2 : Hid (Below w.heap.size w x.1) := below_step HB.out x.2
    have HP2 : Hid (x.1.heap[pb]? = some (pastO A n c now)) := blk_below HP1.out x.2
    have L2 : Hid (x.1.heap[w.heap.size]? = some (.cells #[.int .i64 0, .slice none 0 0] 27 (0, 0))) := blk_below L1.out x.2
    clear q0 q1 HB HP1 L1
    obtain ⟨w4, hw4⟩ := x
    dsimp only at HB2 HP2 L2 ⊢
    clear hw4
    have q0 : w4.cell? ⟨w.heap.size, 0, none⟩ = some (.int .i64 0) := blk_cell L2.out 0
    have q1 : w4.cell? ⟨w.heap.size, 1, none⟩ = some (.slice none 0 0) := blk_cell L2.out 1
    have ff : ∀ i, w4.frozen? ⟨w.heap.size, i, none⟩ = false := blk_frozen L2.out
    have N2 : Hid (((w4.setCell ⟨w.heap.size, 0, none⟩ (.int .i64 0)).setCell ⟨w.heap.size, 1, none⟩ (.slice none 0 0)).heap[w.heap.size]? = some (.cells #[.int .i64 0, .slice none 0 0] 27 (0, 0))) := blk_put (blk_put L2.out 0 _ rfl) 1 _ rfl
    have r0 : ((w4.setCell ⟨w.heap.size, 0, none⟩ (.int .i64 0)).setCell ⟨w.heap.size, 1, none⟩ (.slice none 0 0)).cell? ⟨w.heap.size, 0, none⟩ = some (.int .i64 0) := blk_cell N2.out 0
    have r1 : ((w4.setCell ⟨w.heap.size, 0, none⟩ (.int .i64 0)).setCell ⟨w.heap.size, 1, none⟩ (.slice none 0 0)).cell? ⟨w.heap.size, 1, none⟩ = some (.slice none 0 0) := blk_cell N2.out 1
    have HF : Hid (StepPost pb A n c now ⟨0, []⟩ 270 w (.returned (.tuple #[.agg #[.int .i64 0, .slice none 0 0], .int .i64 270])) ((w4.setCell ⟨w.heap.size, 0, none⟩ (.int .i64 0)).setCell ⟨w.heap.size, 1, none⟩ (.slice none 0 0))) :=
      ⟨_, rfl, Kd.R_nil _ _ _ _ _, ((Wr.of_below HB2.out).set _ 0 _ (.inr (Nat.le_refl _))).set _ 1 _ (.inr (Nat.le_refl _)),
        blk_far (blk_far HP2.out (by show pb ≠ w.heap.size; omega) _) (by show pb ≠ w.heap.size; omega) _⟩
    clear N2 HB2 HP2 L2
    go_wp2_with fail
    simp [bodyPost, results, Try.results41, go_sem, r0, r1]
    exact HF.out
set_option maxRecDepth 100000 in
set_option maxHeartbeats 1000000 in
theorem undo_any {pb : Nat} {A : Option Addr} {n c nw : Nat} {m : S27} {er : Int} {w : World} (hpb : pb < w.heap.size)
    (h : ∀ W, Below w.heap.size w W → Calls Try.prog 41 #[.pointer (some ⟨pb, 0, none⟩), .int .i64 (-1)] W (StepPost pb A n c nw m er W)) :
    Calls Try.prog 17 #[.pointer (some ⟨pb, 0, none⟩)] w (StepPost pb A n c nw m er w) := by
  have HC : Hid (∀ W, Below w.heap.size w W → Calls Try.prog 41 #[.pointer (some ⟨pb, 0, none⟩), .int .i64 (-1)] W (StepPost pb A n c nw m er W)) := h
  clear h
  have HB0 : Hid (Below w.heap.size w (w.alloc (.cells #[.int .i64 0, .slice none 0 0] 27))) := below_alloc (Below.refl _ _) _
  have K1 : Hid ((w.alloc (.cells #[.int .i64 0, .slice none 0 0] 27)).heap[w.heap.size]? = some (.cells #[.int .i64 0, .slice none 0 0] 27 (0, 0))) := blk_new _ _
  go_enter Try.func17, Try.ntmps17
  go_wp2_with fail
  generalize (w.alloc (.cells #[.int .i64 0, .slice none 0 0] 27)) = W at HB0 K1 ⊢
  refine (HC.out W HB0.out).mono ?_
  rintro e w4 ⟨v, rfl, hv, hw4, hp4⟩
  have HV : Hid (k76.R 76 w4 w.heap.size (fun _ => True) v m.f1) := Kd.R_lower hv HB0.out.size
  have HW4 : Hid (Wr (· = pb) w w4) := (Wr.of_below (S := (· = pb)) HB0.out).trans hw4 (fun _ _ h => h)
  have HP4 : Hid (w4.heap[pb]? = some (pastO A n c nw)) := hp4
  have hsz : w.heap.size < W.heap.size := blk_lt K1.out
  have L4 : Hid (w4.heap[w.heap.size]? = some (.cells #[.int .i64 0, .slice none 0 0] 27 (0, 0))) := (hw4.block _ hsz (by omega)).trans K1.out
  clear hv hw4 hp4 K1 HB0 HC hsz
  have q0 : w4.cell? ⟨w.heap.size, 0, none⟩ = some (.int .i64 0) := blk_cell L4.out 0
  have q1 : w4.cell? ⟨w.heap.size, 1, none⟩ = some (.slice none 0 0) := blk_cell L4.out 1
  have ff : ∀ i, w4.frozen? ⟨w.heap.size, i, none⟩ = false := blk_frozen L4.out
  obtain ⟨A', cap, rfl⟩ := Kd.R_slice HV.out
  have N2 : Hid (((w4.setCell ⟨w.heap.size, 0, none⟩ (.int .i64 m.f0)).setCell ⟨w.heap.size, 1, none⟩ (.slice A' m.f1.length cap)).heap[w.heap.size]? = some (.cells #[.int .i64 m.f0, .slice A' m.f1.length cap] 27 (0, 0))) := blk_put (blk_put L4.out 0 _ rfl) 1 _ rfl
  have r0 : ((w4.setCell ⟨w.heap.size, 0, none⟩ (.int .i64 m.f0)).setCell ⟨w.heap.size, 1, none⟩ (.slice A' m.f1.length cap)).cell? ⟨w.heap.size, 0, none⟩ = some (.int .i64 m.f0) := blk_cell N2.out 0
  have r1 : ((w4.setCell ⟨w.heap.size, 0, none⟩ (.int .i64 m.f0)).setCell ⟨w.heap.size, 1, none⟩ (.slice A' m.f1.length cap)).cell? ⟨w.heap.size, 1, none⟩ = some (.slice A' m.f1.length cap) := blk_cell N2.out 1
  have HF : Hid (StepPost pb A n c nw m er w (.returned (.tuple #[.agg #[.int .i64 m.f0, .slice A' m.f1.length cap], .int .i64 er])) ((w4.setCell ⟨w.heap.size, 0, none⟩ (.int .i64 m.f0)).setCell ⟨w.heap.size, 1, none⟩ (.slice A' m.f1.length cap))) :=
    ⟨_, rfl, Kd.R_set (Kd.R_set HV.out L4.out (by decide) 0 _) (blk_put L4.out 0 _ rfl) (by decide) 1 _, (HW4.out.set _ 0 _ (.inr (Nat.le_refl _))).set _ 1 _ (.inr (Nat.le_refl _)),
      blk_far (blk_far HP4.out (by show pb ≠ w.heap.size; omega) _) (by show pb ≠ w.heap.size; omega) _⟩
  clear HV N2 HW4 L4 HP4
  go_wp2_with fail
  simp [bodyPost, results, Try.results17, go_sem, r0, r1]
  exact HF.out
set_option maxRecDepth 100000 in
set_option maxHeartbeats 1000000 in
theorem redo_any {pb : Nat} {A : Option Addr} {n c nw : Nat} {m : S27} {er : Int} {w : World} (hpb : pb < w.heap.size)
    (h : ∀ W, Below w.heap.size w W → Calls Try.prog 41 #[.pointer (some ⟨pb, 0, none⟩), .int .i64 (1)] W (StepPost pb A n c nw m er W)) :
    Calls Try.prog 20 #[.pointer (some ⟨pb, 0, none⟩)] w (StepPost pb A n c nw m er w) := by
  have HC : Hid (∀ W, Below w.heap.size w W → Calls Try.prog 41 #[.pointer (some ⟨pb, 0, none⟩), .int .i64 (1)] W (StepPost pb A n c nw m er W)) := h
  clear h
  have HB0 : Hid (Below w.heap.size w (w.alloc (.cells #[.int .i64 0, .slice none 0 0] 27))) := below_alloc (Below.refl _ _) _
  have K1 : Hid ((w.alloc (.cells #[.int .i64 0, .slice none 0 0] 27)).heap[w.heap.size]? = some (.cells #[.int .i64 0, .slice none 0 0] 27 (0, 0))) := blk_new _ _
  go_enter Try.func20, Try.ntmps20
  go_wp2_with fail
  generalize (w.alloc (.cells #[.int .i64 0, .slice none 0 0] 27)) = W at HB0 K1 ⊢
  refine (HC.out W HB0.out).mono ?_
  rintro e w4 ⟨v, rfl, hv, hw4, hp4⟩
  have HV : Hid (k76.R 76 w4 w.heap.size (fun _ => True) v m.f1) := Kd.R_lower hv HB0.out.size
  have HW4 : Hid (Wr (· = pb) w w4) := (Wr.of_below (S := (· = pb)) HB0.out).trans hw4 (fun _ _ h => h)
  have HP4 : Hid (w4.heap[pb]? = some (pastO A n c nw)) := hp4
  have hsz : w.heap.size < W.heap.size := blk_lt K1.out
  have L4 : Hid (w4.heap[w.heap.size]? = some (.cells #[.int .i64 0, .slice none 0 0] 27 (0, 0))) := (hw4.block _ hsz (by omega)).trans K1.out
  clear hv hw4 hp4 K1 HB0 HC hsz
  have q0 : w4.cell? ⟨w.heap.size, 0, none⟩ = some (.int .i64 0) := blk_cell L4.out 0
  have q1 : w4.cell? ⟨w.heap.size, 1, none⟩ = some (.slice none 0 0) := blk_cell L4.out 1
  have ff : ∀ i, w4.frozen? ⟨w.heap.size, i, none⟩ = false := blk_frozen L4.out
  obtain ⟨A', cap, rfl⟩ := Kd.R_slice HV.out
  have N2 : Hid (((w4.setCell ⟨w.heap.size, 0, none⟩ (.int .i64 m.f0)).setCell ⟨w.heap.size, 1, none⟩ (.slice A' m.f1.length cap)).heap[w.heap.size]? = some (.cells #[.int .i64 m.f0, .slice A' m.f1.length cap] 27 (0, 0))) := blk_put (blk_put L4.out 0 _ rfl) 1 _ rfl
  have r0 : ((w4.setCell ⟨w.heap.size, 0, none⟩ (.int .i64 m.f0)).setCell ⟨w.heap.size, 1, none⟩ (.slice A' m.f1.length cap)).cell? ⟨w.heap.size, 0, none⟩ = some (.int .i64 m.f0) := blk_cell N2.out 0
  have r1 : ((w4.setCell ⟨w.heap.size, 0, none⟩ (.int .i64 m.f0)).setCell ⟨w.heap.size, 1, none⟩ (.slice A' m.f1.length cap)).cell? ⟨w.heap.size, 1, none⟩ = some (.slice A' m.f1.length cap) := blk_cell N2.out 1
  have HF : Hid (StepPost pb A n c nw m er w (.returned (.tuple #[.agg #[.int .i64 m.f0, .slice A' m.f1.length cap], .int .i64 er])) ((w4.setCell ⟨w.heap.size, 0, none⟩ (.int .i64 m.f0)).setCell ⟨w.heap.size, 1, none⟩ (.slice A' m.f1.length cap))) :=
    ⟨_, rfl, Kd.R_set (Kd.R_set HV.out L4.out (by decide) 0 _) (blk_put L4.out 0 _ rfl) (by decide) 1 _, (HW4.out.set _ 0 _ (.inr (Nat.le_refl _))).set _ 1 _ (.inr (Nat.le_refl _)),
      blk_far (blk_far HP4.out (by show pb ≠ w.heap.size; omega) _) (by show pb ≠ w.heap.size; omega) _⟩
  clear HV N2 HW4 L4 HP4
  go_wp2_with fail
  simp [bodyPost, results, Try.results20, go_sem, r0, r1]
  exact HF.out
end Go.Proofs.Ytlopfkkegjajlaa
namespace Go.Proofs.Ytlopfkkegjajlaa
open Go.RowKit Go.Proofs.YtlopfkkegjajlaaW.PrintWords PHistoryTouched
theorem F_own {α : Type} {d : Kd α} {w : World} {base : Nat} {e : TypeId} {ok : Nat → Prop} {v : Value} {xs : List α} {inner : List Value} (ho : w.ownsRow base e d.sz v xs.length inner)
    (hr : Reps (fun x c => Kd.FK d w ok x c) d.sz xs inner) (hv : ∀ k, v.ownBlock = some k → ok k) : ∃ A c, v = .slice A xs.length c ∧ xs.length ≤ c ∧ Kd.F d w ok A xs.length xs := by
  have key : ∀ W', (∀ k, ok k → k < w.heap.size → W'.heap[k]? = w.heap[k]?) → ∃ A c, v = .slice A xs.length c ∧ xs.length ≤ c ∧ d.C W' A xs.length xs := by
    intro W' hW
    have h1 : OwnRow (d.K W') e d.sz W' base v xs := ⟨inner, own_move ho (fun k hk => hW k (hv k hk) (own_lt ho k hk)), hr.imp_ (fun _ _ h => h W' hW)⟩
    exact OwnRow.reads h1
  obtain ⟨A, c, rfl, hl, _⟩ := key w (fun _ _ _ => rfl)
  refine ⟨A, c, rfl, hl, fun W' hW => ?_⟩
  obtain ⟨A', c', he, _, hC⟩ := key W' hW
  injection he with he _ _
  subst he
  exact hC
theorem info27 : (Try.prog.info? 27).map (fun i => (i.zero, i.size, i.bytes)) = some (some (.agg #[.int .i64 0, .slice none 0 0]), 2, 32) := by kernel_rfl
def NewPost (m : S27) (w : World) (e : Ending) (w' : World) : Prop := ∃ pb A c, e = .returned (.tuple #[.pointer (some ⟨pb, 0, none⟩), .int .i64 0]) ∧ w.heap.size ≤ pb ∧ 1 ≤ c ∧ w'.heap[pb]? = some (pastO A 1 c 0) ∧
  Kd.F k27 w' (fun k => w.heap.size ≤ k ∧ k < w'.heap.size ∧ k ≠ pb) A 1 [m] ∧ Below w.heap.size w w'
set_option maxRecDepth 100000 in
set_option maxHeartbeats 1000000 in
theorem new_yes (nx : Int) (A : Option Addr) (l : List S76) (c : Nat) (w : World) (hr : Kd.C k76 w A l.length l) (hwf : WfL l) (hs : SmallL l) (hk : CheckP nx l) :
    Calls Try.prog 11 #[.agg #[.int .i64 nx, .slice A l.length c]] w (NewPost ⟨nx, l⟩ w) := by
  have HR : Hid (Kd.C k76 w A l.length l) := hr
  have HWF : Hid (WfL l) := hwf
  have HS : Hid (SmallL l) := hs
  have HK : Hid (CheckP nx l) := hk
  clear hr hwf hs hk
  have HB0 : Hid (Below w.heap.size w (w.alloc (.cells #[.int .i64 nx, .slice A l.length c] 27))) := below_alloc (Below.refl _ _) _
  have K1 : Hid ((w.alloc (.cells #[.int .i64 nx, .slice A l.length c] 27)).heap[w.heap.size]? = some (.cells #[.int .i64 nx, .slice A l.length c] 27 (0, 0))) := blk_new _ _
  go_enter Try.func11, Try.ntmps11
  go_wp2_with fail
  generalize (w.alloc (.cells #[.int .i64 nx, .slice A l.length c] 27)) = W at HB0 K1 ⊢
  have q0 : W.cell? ⟨w.heap.size, 0, none⟩ = some (.int .i64 nx) := blk_cell K1.out 0
  have q1 : W.cell? ⟨w.heap.size, 1, none⟩ = some (.slice A l.length c) := blk_cell K1.out 1
  go_wp2_with fail
  refine (check_any nx l A c W (Kd.C_below HR.out HB0.out) HWF.out).mono ?_
  rintro e w1 ⟨rfl, hb⟩
  rw [errI_yes HK.out]
  have HB : Hid (Below w.heap.size w w1) := below_step HB0.out hb
  have L1 : Hid (w1.heap[w.heap.size]? = some (.cells #[.int .i64 nx, .slice A l.length c] 27 (0, 0))) := blk_below K1.out hb
  clear q0 q1 hb K1 HB0
  have q0 : w1.cell? ⟨w.heap.size, 0, none⟩ = some (.int .i64 nx) := blk_cell L1.out 0
  have q1 : w1.cell? ⟨w.heap.size, 1, none⟩ = some (.slice A l.length c) := blk_cell L1.out 1
  go_wp2_with fail
  refine (twin_any nx A l c w1 (Kd.C_below HR.out HB.out) HS.out).mono ?_
  rintro e w2 ⟨v, rfl, hv, hb2⟩
  have hsz : w.heap.size ≤ w1.heap.size := HB.out.size
  have HV : Hid (k76.R 76 w2 w1.heap.size (fun _ => True) v l) := hv
  have HB2 : Hid (Below w.heap.size w w2) := below_step HB.out hb2
  clear q0 q1 hv hb2 L1
  obtain ⟨A', cap, rfl⟩ := Kd.R_slice HV.out
  have HF : Hid (NewPost ⟨nx, l⟩ w (.returned (.tuple #[.pointer (some ⟨w2.heap.size + 1, 0, none⟩), .int .i64 0])) ((w2.alloc (.cells #[.int .i64 nx, .slice A' l.length cap] 27)).alloc (.cells #[.slice (some ⟨w2.heap.size, 0, none⟩) 1 1, .int .i64 0] 79))) := by
    have hsz2 := HB2.out.size
    have b1 : Below w2.heap.size w2 ((w2.alloc (.cells #[.int .i64 nx, .slice A' l.length cap] 27)).alloc (.cells #[.slice (some ⟨w2.heap.size, 0, none⟩) 1 1, .int .i64 0] 79)) := below_alloc (below_alloc (Below.refl _ _) _) _
    have k1 : ((w2.alloc (.cells #[.int .i64 nx, .slice A' l.length cap] 27)).alloc (.cells #[.slice (some ⟨w2.heap.size, 0, none⟩) 1 1, .int .i64 0] 79)).heap[w2.heap.size]? = some (.cells #[.int .i64 nx, .slice A' l.length cap] 27 (0, 0)) := blk_alloc (blk_new _ _) _
    have k2 : ((w2.alloc (.cells #[.int .i64 nx, .slice A' l.length cap] 27)).alloc (.cells #[.slice (some ⟨w2.heap.size, 0, none⟩) 1 1, .int .i64 0] 79)).heap[w2.heap.size + 1]? = some (.cells #[.slice (some ⟨w2.heap.size, 0, none⟩) 1 1, .int .i64 0] 79 (0, 0)) := by
      have := blk_new (w2.alloc (.cells #[.int .i64 nx, .slice A' l.length cap] 27)) (.cells #[.slice (some ⟨w2.heap.size, 0, none⟩) 1 1, .int .i64 0] 79)
      rwa [show (w2.alloc (.cells #[.int .i64 nx, .slice A' l.length cap] 27)).heap.size = w2.heap.size + 1 by simp] at this
    have hlt := blk_lt k2
    generalize ((w2.alloc (.cells #[.int .i64 nx, .slice A' l.length cap] 27)).alloc (.cells #[.slice (some ⟨w2.heap.size, 0, none⟩) 1 1, .int .i64 0] 79)) = w3 at b1 k1 k2 hlt ⊢
    have hM : k27.M w3 w1.heap.size (fun k => w.heap.size ≤ k ∧ k < w3.heap.size ∧ k ≠ w2.heap.size + 1) ⟨nx, l⟩ [.int .i64 nx, .slice A' l.length cap] :=
      Kd.M_below (k27.M_mono (fun k hk => ⟨by have := hk.2.1; omega, by have := hk.2.2.1; omega, by have := hk.2.2.1; omega⟩) (k27.M_bound (k27_mkM w2 w1.heap.size (fun _ => True) ⟨nx, l⟩ HV.out))) b1
    have hM' : Kd.FK k27 w3 (fun k => w.heap.size ≤ k ∧ k < w3.heap.size ∧ k ≠ w2.heap.size + 1) ⟨nx, l⟩ [.int .i64 nx, .slice A' l.length cap] := Kd.FK_of_M hM
    obtain ⟨A2, c2, he, hc2, hF⟩ := F_own (w := w3) (base := w2.heap.size) (e := 27) (d := k27) (xs := [⟨nx, l⟩]) (v := .slice (some ⟨w2.heap.size, 0, none⟩) 1 1) (inner := [.int .i64 nx, .slice A' l.length cap])
      (ok := fun k => w.heap.size ≤ k ∧ k < w3.heap.size ∧ k ≠ w2.heap.size + 1)
      ⟨rfl, .inr ⟨w2.heap.size, 1, _, rfl, Nat.le_refl _, k1, Nat.le_refl _, by simp [maxLen], rfl, rfl⟩⟩
      ⟨rfl, fun j p hj => by
        cases j with
        | zero => obtain rfl : _ = p := Option.some.inj hj; exact hM'
        | succ j => simp at hj⟩
      (fun k hk => by
        obtain rfl : w2.heap.size = k := by simpa [Value.ownBlock] using hk
        exact ⟨hsz2, by omega, by omega⟩)
    injection he with hA _ hc
    subst hA hc
    exact ⟨_, _, _, rfl, by omega, hc2, k2, hF, below_step HB2.out b1⟩
  clear HV HB2
  go_wp2_with fail
  simp [bodyPost, results, Try.results11, go_sem]
  exact HF.out
set_option maxRecDepth 100000 in
set_option maxHeartbeats 1000000 in
theorem new_no (nx : Int) (A : Option Addr) (l : List S76) (c : Nat) (w : World) (hr : Kd.C k76 w A l.length l) (hwf : WfL l) (hk : ¬ CheckP nx l) :
    Calls Try.prog 11 #[.agg #[.int .i64 nx, .slice A l.length c]] w fun e w' => e = .returned (.tuple #[.pointer none, .int .i64 29]) ∧ Below w.heap.size w w' := by
  have HR : Hid (Kd.C k76 w A l.length l) := hr
  have HWF : Hid (WfL l) := hwf
  have HK : Hid (¬ CheckP nx l) := hk
  clear hr hwf hk
  have HB0 : Hid (Below w.heap.size w (w.alloc (.cells #[.int .i64 nx, .slice A l.length c] 27))) := below_alloc (Below.refl _ _) _
  have K1 : Hid ((w.alloc (.cells #[.int .i64 nx, .slice A l.length c] 27)).heap[w.heap.size]? = some (.cells #[.int .i64 nx, .slice A l.length c] 27 (0, 0))) := blk_new _ _
  go_enter Try.func11, Try.ntmps11
  go_wp2_with fail
  generalize (w.alloc (.cells #[.int .i64 nx, .slice A l.length c] 27)) = W at HB0 K1 ⊢
  have q0 : W.cell? ⟨w.heap.size, 0, none⟩ = some (.int .i64 nx) := blk_cell K1.out 0
  have q1 : W.cell? ⟨w.heap.size, 1, none⟩ = some (.slice A l.length c) := blk_cell K1.out 1
  go_wp2_with fail
  refine (check_any nx l A c W (Kd.C_below HR.out HB0.out) HWF.out).mono ?_
  rintro e w1 ⟨rfl, hb⟩
  rw [errI_no HK.out]
  have HB : Hid (Below w.heap.size w w1) := below_step HB0.out hb
  clear q0 q1 hb K1 HB0
  go_wp2_with fail
  simp [bodyPost, results, Try.results11, go_sem]
  exact HB.out
end Go.Proofs.Ytlopfkkegjajlaa
namespace Go.Proofs.Ytlopfkkegjajlaa
open Go.RowKit Go.Proofs.YtlopfkkegjajlaaW.PrintWords PHistoryTouched
def pushed (ms : List S27) (now : Nat) (m : S27) : List S27 := if 65 < (ms.take (now + 1) ++ [m]).length then (ms.take (now + 1) ++ [m]).drop 1 else ms.take (now + 1) ++ [m]
def PushPost (pb : Nat) (D : Nat → Prop) (ms' : List S27) (w : World) (e : Ending) (w' : World) : Prop := ∃ A c, e = .returned (.int .i64 0) ∧ ms'.length ≤ c ∧ w'.heap[pb]? = some (pastO A ms'.length c (ms'.length - 1)) ∧
  Kd.F k27 w' (fun k => D k ∨ (w.heap.size ≤ k ∧ k < w'.heap.size)) A ms'.length ms' ∧ Wr (· = pb) w w'
theorem olds_of {W : World} {D : Nat → Prop} {ad : Addr} {ms : List S27} (h : Kd.F k27 W D (some ad) ms.length ms) (m : Nat) (hm : m ≤ ms.length) : ∃ olds : List Value, Reps (fun x c => Kd.FK k27 W D x c) 2 (ms.take m) olds ∧ olds.length = m * 2 ∧ ∀ j u, olds[j]? = some u → W.cell? (ad.add j) = some u := by
  obtain ⟨olds, h1, h2⟩ := (Kd.F_rows (Kd.F_take h hm)).inner_
  refine ⟨olds, h1, ?_, h2⟩
  have := h1.1
  rw [this, List.length_take, Nat.min_eq_left hm]; rfl
structure PuW (w : World) (nx : Int) (pb : Nat) (A0 : Option Addr) (n c now : Nat) (A : Option Addr) (l : List S76) (cl : Nat) (W : World) : Prop where
  b : Below w.heap.size w W
  k1 : W.heap[w.heap.size]? = some (.cells #[.int .i64 nx, .slice A l.length cl] 27 (0, 0))
  p : W.heap[pb]? = some (pastO A0 n c now)
theorem PuW.below {w : World} {nx : Int} {pb : Nat} {A0 : Option Addr} {n c now : Nat} {A : Option Addr} {l : List S76} {cl : Nat} {W W' : World} (h : PuW w nx pb A0 n c now A l cl W) (hb : Below W.heap.size W W') : PuW w nx pb A0 n c now A l cl W' :=
  ⟨below_step h.b hb, blk_below h.k1 hb, blk_below h.p hb⟩
theorem below_of_grown' {a b : World} (h : a.grownBy b none) : Below a.heap.size a b := ⟨h.os, h.tape, h.output, h.size, fun k hk => h.block k hk (by simp)⟩
theorem grown_row {w W6 w7 : World} {nx : Int} {l : List S76} {A' : Option Addr} {cap : Nat} {D : Nat → Prop} {ms : List S27} {now : Nat} {olds : List Value} {v' : Value} (hn : now < ms.length) (hw : w.heap.size ≤ W6.heap.size)
    (hV : k76.R 76 W6 w.heap.size (fun _ => True) (.slice A' l.length cap) l) (ho : Reps (fun x c => Kd.FK k27 W6 D x c) 2 (ms.take (now + 1)) olds) (hg : W6.grownBy w7 none)
    (hown : w7.ownsRow W6.heap.size 27 2 v' (now + 1 + 1) (olds ++ [.int .i64 nx, .slice A' l.length cap])) :
    ∃ g c2, v' = .slice (some ⟨g, 0, none⟩) (ms.take (now + 1) ++ [(⟨nx, l⟩ : S27)]).length c2 ∧ (ms.take (now + 1) ++ [(⟨nx, l⟩ : S27)]).length ≤ c2 ∧ Kd.F k27 w7 (fun k => D k ∨ (w.heap.size ≤ k ∧ k < w7.heap.size)) (some ⟨g, 0, none⟩) (ms.take (now + 1) ++ [(⟨nx, l⟩ : S27)]).length (ms.take (now + 1) ++ [(⟨nx, l⟩ : S27)]) := by
  have hb := below_of_grown' hg
  have hxl : (ms.take (now + 1) ++ [(⟨nx, l⟩ : S27)]).length = now + 1 + 1 := by rw [List.length_append, List.length_take, Nat.min_eq_left (by omega)]; rfl
  have hM : k27.M w7 w.heap.size (fun k => D k ∨ (w.heap.size ≤ k ∧ k < w7.heap.size)) (⟨nx, l⟩ : S27) [.int .i64 nx, .slice A' l.length cap] :=
    Kd.M_below (k27.M_mono (fun k hk => .inr ⟨hk.2.1, by have := hk.2.2.1; have := hb.size; omega⟩) (k27.M_bound (k27_mkM W6 w.heap.size (fun _ => True) (⟨nx, l⟩ : S27) hV))) hb
  rw [← hxl] at hown
  obtain ⟨A2, c2, rfl, hc2, hF⟩ := F_own (d := k27) (ok := fun k => D k ∨ (w.heap.size ≤ k ∧ k < w7.heap.size)) hown ((ho.imp_ (fun x c h => Kd.FK_mono (Kd.FK_below h hb) (fun k hk => .inl hk))).snoc (Kd.FK_of_M hM) rfl)
    (fun k hk => .inr ⟨by have := own_base hown k hk; omega, own_lt hown k hk⟩)
  rcases hown.2 with ⟨h1, h2⟩ | ⟨g, cap2, cur, h1, _⟩
  · rw [hxl] at h2; omega
  · injection h1 with h1 _ h3
    subst h1 h3
    exact ⟨g, _, rfl, hc2, hF⟩
def PushRes (m : S27) (pb : Nat) (D : Nat → Prop) (ms : List S27) (now : Nat) (w : World) (e : Ending) (w' : World) : Prop :=
  (m = rd_T27 ms now ∧ e = .returned (.int .i64 0) ∧ Below w.heap.size w w') ∨ (m ≠ rd_T27 ms now ∧ PushPost pb D (pushed ms now m) w e w')
set_option maxRecDepth 100000 in
set_option maxHeartbeats 4000000 in
theorem push_yes (nx : Int) (pb : Nat) (D : Nat → Prop) (ad : Addr) (ms : List S27) (c now : Nat) (A : Option Addr) (l : List S76) (cl : Nat) (w : World) (hp : w.heap[pb]? = some (pastO (some ad) ms.length c now)) (hn : now < ms.length) (hm : ms.length ≤ 65) (hc : ms.length ≤ c)
    (hF : Kd.F k27 w D (some ad) ms.length ms) (hD : ¬ D pb) (hr : Kd.C k76 w A l.length l) (hwf : WfL l) (hs : SmallL l) (hk : CheckP nx l) :
    Calls Try.prog 15 #[.pointer (some ⟨pb, 0, none⟩), .agg #[.int .i64 nx, .slice A l.length cl]] w (PushRes (⟨nx, l⟩ : S27) pb D ms now w) := by
  have HP : Hid (w.heap[pb]? = some (pastO (some ad) ms.length c now)) := hp
  have HR : Hid (Kd.C k76 w A l.length l) := hr
  have HWF : Hid (WfL l) := hwf
  have HK : Hid (CheckP nx l) := hk
  have HF : Hid (Kd.F k27 w D (some ad) ms.length ms) := hF
  have HD : Hid (¬ D pb) := hD
  have HS : Hid (SmallL l) := hs
  clear hp hr hwf hk hF hD hs
  have hpb : pb < w.heap.size := blk_lt HP.out
  have H0 : Hid (PuW w nx pb (some ad) ms.length c now A l cl (w.alloc (.cells #[.int .i64 nx, .slice A l.length cl] 27))) := ⟨below_alloc (Below.refl _ _) _, blk_new _ _, blk_alloc HP.out _⟩
  go_enter Try.func15, Try.ntmps15
  go_wp2_with fail
  generalize (w.alloc (.cells #[.int .i64 nx, .slice A l.length cl] 27)) = W at H0 ⊢
  refine (none_any pb (some ad) ms.length c now W H0.out.p (by omega)).mono ?_
  rintro e w1 ⟨rfl, hb⟩
  have H1 : Hid (PuW w nx pb (some ad) ms.length c now A l cl w1) := H0.out.below hb
  clear hb H0
  have q0 : w1.cell? ⟨w.heap.size, 0, none⟩ = some (.int .i64 nx) := blk_cell H1.out.k1 0
  have q1 : w1.cell? ⟨w.heap.size, 1, none⟩ = some (.slice A l.length cl) := blk_cell H1.out.k1 1
  go_wp2_with fail
  refine (check_any nx l A cl w1 (Kd.C_below HR.out H1.out.b) HWF.out).mono ?_
  rintro e w2 ⟨rfl, hb⟩
  rw [errI_yes HK.out]
  have H2 : Hid (PuW w nx pb (some ad) ms.length c now A l cl w2) := H1.out.below hb
  clear q0 q1 hb H1
  go_wp2_with fail
  obtain ⟨ad', A1, c1, hade, z0, z1, hl1, hk1⟩ := at_T27 (Kd.C_below (Kd.F_now HF.out) H2.out.b) (now : Int) (by omega) (by omega)
  obtain rfl : ad = ad' := by injection hade
  have HK1 : Hid (k76.C w2 A1 (rd_T27 ms now).f1.length (rd_T27 ms now).f1) := hk1
  have y0 : ∀ x : BW w2, x.1.cell? (ad.add (now * 2)) = some (.int .i64 (rd_T27 ms now).f0) := bw_cell (by simpa using z0)
  have y1 : ∀ x : BW w2, x.1.cell? ⟨(ad.add (now * 2)).block, (ad.add (now * 2)).off + 1, none⟩ = some (.slice A1 (rd_T27 ms now).f1.length c1) := bw_cell (by simpa using z1)
  have q0 : ∀ x : BW w2, x.1.cell? ⟨pb, 0, none⟩ = some (.slice (some ad) ms.length c) := bw_cell (blk_cell H2.out.p 0)
  have q1 : ∀ x : BW w2, x.1.cell? ⟨pb, 1, none⟩ = some (.int .i64 (now : Int)) := bw_cell (blk_cell H2.out.p 1)
  have x0 : ∀ x : BW w2, x.1.cell? ⟨w.heap.size, 0, none⟩ = some (.int .i64 nx) := bw_cell (blk_cell H2.out.k1 0)
  have x1 : ∀ x : BW w2, x.1.cell? ⟨w.heap.size, 1, none⟩ = some (.slice A l.length cl) := bw_cell (blk_cell H2.out.k1 1)
  have h0 : (0 : Int) ≤ (now : Int) := by omega
  have h1 : (now : Int) < (ms.length : Int) := by omega
  clear z0 z1 hk1 hl1 hade
  refine wp_region_bw (by kernel_rfl) (by kernel_rfl) ?_
  repeat (go_big_quiet_step ((go_at_call 30; exact calls_bw (same_any nx (rd_T27 ms now).f0 l (rd_T27 ms now).f1 A A1 cl c1 _ (Kd.C_below HR.out (below_step H2.out.b (Subtype.property _))) (Kd.C_below HK1.out (Subtype.property _))))))
  refine wpQuiet_nil ?_
  rintro _ ⟨x, rfl⟩
  have H3 : Hid (PuW w nx pb (some ad) ms.length c now A l cl x.1) := H2.out.below x.2
  clear y0 y1 q0 q1 x0 x1 H2 HK1
  obtain ⟨w3, hw3⟩ := x
  dsimp only at H3 ⊢
  clear hw3
  by_cases hsame : nx = (rd_T27 ms now).f0 ∧ l = (rd_T27 ms now).f1
  · rw [tv_yes hsame]
    have hE : (⟨nx, l⟩ : S27) = rd_T27 ms now := by obtain ⟨h1, h2⟩ := hsame; subst h1 h2; rfl
    have HO : Hid (PushRes (⟨nx, l⟩ : S27) pb D ms now w (.returned (.int .i64 0)) w3) := .inl ⟨hE, rfl, H3.out.b⟩
    clear hE hsame
    go_wp2_with fail
    go_ret
    exact HO.out
  · rw [tv_no hsame]
    have HN : Hid ((⟨nx, l⟩ : S27) ≠ rd_T27 ms now) := fun e => hsame (by rw [← e]; exact ⟨rfl, rfl⟩)
    clear hsame
    go_wp2_with fail
    have q0 : ∀ x : BW w3, x.1.cell? ⟨pb, 0, none⟩ = some (.slice (some ad) ms.length c) := bw_cell (blk_cell H3.out.p 0)
    have q1 : ∀ x : BW w3, x.1.cell? ⟨pb, 1, none⟩ = some (.int .i64 (now : Int)) := bw_cell (blk_cell H3.out.p 1)
    have x0 : ∀ x : BW w3, x.1.cell? ⟨w.heap.size, 0, none⟩ = some (.int .i64 nx) := bw_cell (blk_cell H3.out.k1 0)
    have x1 : ∀ x : BW w3, x.1.cell? ⟨w.heap.size, 1, none⟩ = some (.slice A l.length cl) := bw_cell (blk_cell H3.out.k1 1)
    have hw1 : IntKind.i64.wrap ((now : Int) + 1) = (now : Int) + 1 := IntWalk.i64_in _ (by omega)
    have h2 : (0 : Int) ≤ (now : Int) + 1 := by omega
    have h3 : (now : Int) + 1 ≤ (c : Int) := by omega
    refine wp_region_noPanic ?_
    refine wp_region_hold (C := fun w' => ∃ x : BW w3, w' = x.1) 18 [] [0, 1, 2, 3, 4, 5, 6, 7, 8, 9, 10, 11, 12, 13, 14, 15] [16, 17] (by kernel_rfl) (by kernel_rfl) (by kernel_rfl) (by kernel_rfl) (fun _ _ _ _ _ h => (h : False).elim) ⟨⟨{ w3 with drawn := w3.drawn + 1 }, ⟨rfl, rfl, rfl, Nat.le_refl _, fun _ _ => rfl⟩⟩, rfl⟩ ?_
    simp only [pickOps, Option.elim_some, List.getElem?_cons_succ, List.getElem?_cons_zero, List.drop_succ_cons, List.drop_zero]
    repeat (go_big_quiet_step (fail))
    refine wpQuiet_nil ?_
    rintro _ ⟨x, rfl⟩
    have H4 : Hid (PuW w nx pb (some ad) ms.length c now A l cl x.1) := H3.out.below x.2
    clear q0 q1 x0 x1 H3
    refine ⟨_, rfl, rfl, .inl ⟨38, #[.agg #[.int .i64 nx, .slice A l.length cl]], ?_, ?_⟩⟩
    · go_simp
    refine (twin_any nx A l cl x.1 (Kd.C_below HR.out H4.out.b) HS.out).mono ?_
    rintro e w5 ⟨v, rfl, hv, hb5⟩
    refine ⟨_, rfl, ⟨⟨w5, below_step x.2 hb5⟩, rfl⟩, ?_⟩
    simp only [Act.put, List.getElem_toArray, List.getElem_cons_succ, List.getElem_cons_zero, List.setIfInBounds_toArray, List.set_cons_zero, List.set_cons_succ]
    have H5 : Hid (PuW w nx pb (some ad) ms.length c now A l cl w5) := H4.out.below hb5
    have HV : Hid (k76.R 76 w5 w.heap.size (fun _ => True) v l) := Kd.R_lower hv H4.out.b.size
    obtain ⟨A', cap, rfl⟩ := Kd.R_slice HV.out
    have HX5 : Hid (Below w3.heap.size w3 w5) := below_step x.2 hb5
    clear hv hb5 H4
    refine ⟨_, rfl, rfl, .inr ⟨.slice (some ⟨w5.heap.size, 0, none⟩) 1 1, w5.alloc (.cells #[.int .i64 nx, .slice A' l.length cap] 27), ?_, ⟨⟨_, below_alloc HX5.out _⟩, rfl⟩, ?_⟩⟩
    · go_simp
    simp only [Act.put, List.getElem_toArray, List.getElem_cons_succ, List.getElem_cons_zero, List.setIfInBounds_toArray, List.set_cons_zero, List.set_cons_succ]
    have H6 : Hid (PuW w nx pb (some ad) ms.length c now A l cl (w5.alloc (.cells #[.int .i64 nx, .slice A' l.length cap] 27))) := H5.out.below (below_alloc (Below.refl _ _) _)
    have HV6 : Hid (k76.R 76 (w5.alloc (.cells #[.int .i64 nx, .slice A' l.length cap] 27)) w.heap.size (fun _ => True) (.slice A' l.length cap) l) := Kd.R_below HV.out (below_alloc (Below.refl _ _) _)
    have K6 : Hid ((w5.alloc (.cells #[.int .i64 nx, .slice A' l.length cap] 27)).heap[w5.heap.size]? = some (.cells #[.int .i64 nx, .slice A' l.length cap] 27 (0, 0))) := blk_new _ _
    clear HX5 HV H5
    generalize (w5.alloc (.cells #[.int .i64 nx, .slice A' l.length cap] 27)) = w6 at H6 HV6 K6 ⊢
    obtain ⟨olds, ho, hol, hoc⟩ := olds_of (Kd.F_below HF.out H6.out.b) (now + 1) (by omega)
    obtain ⟨i0, hi, hzz⟩ := Option.map_eq_some_iff.1 info27
    simp only [Prod.mk.injEq] at hzz
    obtain ⟨hz0, hz1, hz2⟩ := hzz
    show wpList _ _ _ _ _ _
    refine wpList_append_grows _ rfl (.tmp 40) (.tmp 43) 22 rfl 27 i0 (.agg #[.int .i64 0, .slice none 0 0]) 2 32 Try.underlying22 hi hz0 hz1 hz2 rfl (by decide) (some ad) (now + 1) (now + 1) olds rfl (fun h => by cases h) hol (fun b hb => by injection hb with hb; subst hb; exact hoc)
      ⟨w5.heap.size, 0, none⟩ 1 1 [.int .i64 nx, .slice A' l.length cap] rfl rfl (fun j u hj => by
        rw [show (⟨w5.heap.size, 0, none⟩ : Addr).add j = ⟨w5.heap.size, j, none⟩ by simp [Addr.add]; intro h; exact h.symm, blk_cell K6.out]; simpa using hj) (fun u hu => by
        rcases List.mem_cons.1 hu with rfl | hu
        · rfl
        · rw [List.mem_singleton.1 hu]; rfl) (by omega) (by simp only [maxLen]; omega) (by omega) ?_
    intro v' w7 hown hg
    obtain ⟨g, c2, rfl, hc2, hF7⟩ := grown_row hn H6.out.b.size HV6.out ho hg hown
    have H7 : Hid (PuW w nx pb (some ad) ms.length c now A l cl w7) := H6.out.below (below_of_grown' hg)
    have HF7 : Hid (Kd.F k27 w7 (fun k => D k ∨ (w.heap.size ≤ k ∧ k < w7.heap.size)) (some ⟨g, 0, none⟩) (ms.take (now + 1) ++ [(⟨nx, l⟩ : S27)]).length (ms.take (now + 1) ++ [(⟨nx, l⟩ : S27)])) := hF7
    have hxl : (ms.take (now + 1) ++ [(⟨nx, l⟩ : S27)]).length = now + 1 + 1 := by rw [List.length_append, List.length_take, Nat.min_eq_left (by omega)]; rfl
    have HXL : Hid ((ms.take (now + 1) ++ [((⟨nx, l⟩ : S27))]).length = now + 1 + 1) := hxl
    have HPU : Hid (pushed ms now (⟨nx, l⟩ : S27) = if 65 < (ms.take (now + 1) ++ [(⟨nx, l⟩ : S27)]).length then (ms.take (now + 1) ++ [(⟨nx, l⟩ : S27)]).drop 1 else ms.take (now + 1) ++ [(⟨nx, l⟩ : S27)]) := rfl
    clear hxl H6 HV6 K6 hown hg hF7 ho hol hoc hi hz0 hz1 hz2
    generalize (ms.take (now + 1) ++ [(⟨nx, l⟩ : S27)]) = X at HF7 hc2 HXL HPU ⊢
    have q0 : w7.cell? ⟨pb, 0, none⟩ = some (.slice (some ad) ms.length c) := blk_cell H7.out.p 0
    have q1 : w7.cell? ⟨pb, 1, none⟩ = some (.int .i64 (now : Int)) := blk_cell H7.out.p 1
    have ff : ∀ i, w7.frozen? ⟨pb, i, none⟩ = false := blk_frozen H7.out.p
    simp only [Act.put, List.setIfInBounds_toArray, List.set_cons_zero, List.set_cons_succ]
    by_cases hbig : 65 < X.length
    · have hd : decide ((65 : Int) < (X.length : Int)) = true := decide_eq_true (by omega)
      have h5 : (1 : Int) ≤ (X.length : Int) := by omega
      have hxc : (X.length : Int) ≤ (c2 : Int) := by omega
      have hc1 : ¬ c2 = 1 := by omega
      have hw2 : IntKind.i64.wrap (((X.length - 1 : Nat) : Int) - 1) = ((X.length - 1 - 1 : Nat) : Int) := (IntWalk.i64_in _ (by have := HXL.out; omega)).trans (by omega)
      have hdl : (X.drop 1).length = X.length - 1 := List.length_drop
      have hF8 : Kd.F k27 w7 (fun k => D k ∨ (w.heap.size ≤ k ∧ k < w7.heap.size)) (some ⟨g, 2, none⟩) (X.length - 1) (X.drop 1) := by
        have := Kd.F_cut (m := 1) (c := c2) HF7.out (by omega) hc2
        rw [if_neg (by omega), hdl] at this
        simpa [Addr.add, k27, Kd.iso, Kd.pair, Kd.int, Kd.scalar, Kd.slice] using this
      have hP8 : ((w7.setCell ⟨pb, 0, none⟩ (.slice (some ⟨g, 2, none⟩) (X.length - 1) (c2 - 1))).setCell ⟨pb, 1, none⟩ (.int .i64 ((X.length - 1 - 1 : Nat) : Int))).heap[pb]? = some (pastO (some ⟨g, 2, none⟩) (X.length - 1) (c2 - 1) (X.length - 1 - 1)) :=
        blk_put (blk_put H7.out.p 0 _ rfl) 1 _ rfl
      have HO : Hid (PushRes ((⟨nx, l⟩ : S27)) pb D ms now w (.returned (.int .i64 0)) ((w7.setCell ⟨pb, 0, none⟩ (.slice (some ⟨g, 2, none⟩) (X.length - 1) (c2 - 1))).setCell ⟨pb, 1, none⟩ (.int .i64 ((X.length - 1 - 1 : Nat) : Int)))) := by
        refine .inr ⟨HN.out, ?_⟩
        rw [HPU.out, if_pos hbig]
        have hne : ∀ k, (D k ∨ (w.heap.size ≤ k ∧ k < w7.heap.size)) → k ≠ pb := by
          rintro k (h | h) rfl
          · exact HD.out h
          · omega
        refine ⟨some ⟨g, 2, none⟩, c2 - 1, rfl, by rw [hdl]; omega, by rw [hdl]; exact hP8, ?_, ((Wr.of_below (S := (· = pb)) H7.out.b).set pb 0 _ (.inl rfl)).set pb 1 _ (.inl rfl)⟩
        rw [hdl]
        have := Kd.F_far (Kd.F_far hF8 (p := ⟨pb, 0, none⟩) hne (.slice (some ⟨g, 2, none⟩) (X.length - 1) (c2 - 1))) (p := ⟨pb, 1, none⟩) hne (.int .i64 ((X.length - 1 - 1 : Nat) : Int))
        simpa using this
      clear H7 HF7 hP8 hF8 hdl hbig HPU
      go_wp2_with fail
      refine NoPanic.normal ?_
      go_wp2_with fail
      go_ret
      exact HO.out
    · have hd : decide ((65 : Int) < (X.length : Int)) = false := decide_eq_false (by omega)
      have hw2 : IntKind.i64.wrap ((X.length : Int) - 1) = (X.length : Int) - 1 := IntWalk.i64_in _ (by have := HXL.out; omega)
      have hP8 : ((w7.setCell ⟨pb, 0, none⟩ (.slice (some ⟨g, 0, none⟩) X.length c2)).setCell ⟨pb, 1, none⟩ (.int .i64 ((X.length : Int) - 1))).heap[pb]? = some (pastO (some ⟨g, 0, none⟩) X.length c2 (X.length - 1)) := by
        refine (blk_put (blk_put H7.out.p 0 _ rfl) 1 _ rfl).trans ?_
        rw [show ((X.length : Int) - 1) = ((X.length - 1 : Nat) : Int) by have := HXL.out; omega]; rfl
      have HO : Hid (PushRes (⟨nx, l⟩ : S27) pb D ms now w (.returned (.int .i64 0)) ((w7.setCell ⟨pb, 0, none⟩ (.slice (some ⟨g, 0, none⟩) X.length c2)).setCell ⟨pb, 1, none⟩ (.int .i64 ((X.length : Int) - 1)))) := by
        refine .inr ⟨HN.out, ?_⟩
        rw [HPU.out, if_neg hbig]
        have hne : ∀ k, (D k ∨ (w.heap.size ≤ k ∧ k < w7.heap.size)) → k ≠ pb := by
          rintro k (h | h) rfl
          · exact HD.out h
          · omega
        refine ⟨_, _, rfl, hc2, hP8, ?_, ((Wr.of_below (S := (· = pb)) H7.out.b).set pb 0 _ (.inl rfl)).set pb 1 _ (.inl rfl)⟩
        have := Kd.F_far (Kd.F_far HF7.out (p := ⟨pb, 0, none⟩) hne (.slice (some ⟨g, 0, none⟩) X.length c2)) (p := ⟨pb, 1, none⟩) hne (.int .i64 ((X.length : Int) - 1))
        simpa using this
      clear H7 HF7 hP8 hbig HPU
      go_wp2_with fail
      refine NoPanic.normal ?_
      go_wp2_with fail
      go_ret
      exact HO.out
end Go.Proofs.Ytlopfkkegjajlaa
namespace Go.Proofs.Ytlopfkkegjajlaa
open Go.RowKit Go.Proofs.YtlopfkkegjajlaaW.PrintWords PHistoryTouched
def RowS (W : World) (S : Nat → Prop) (e sz : Nat) (v : Value) : Prop := ∃ A n c, v = .slice A n c ∧ n ≤ 1048576 ∧ (0 < n → ∃ b cs, A = some ⟨b, 0, none⟩ ∧ S b ∧ W.heap[b]? = some (.cells cs e (0, 0)) ∧ n * sz ≤ cs.size)
structure ShpR (W : World) (S : Nat → Prop) (g n i : Nat) (cur : Array Value) : Prop where
  s : S g
  blk : W.heap[g]? = some (.cells cur 76 (0, 0))
  size : n * 7 ≤ cur.size
  r4 : ∀ j : Nat, i ≤ j → j < n → RowS W S 82 2 (cur.getD (j * 7 + 4) undef)
  r5 : ∀ j : Nat, i ≤ j → j < n → RowS W S 3 1 (cur.getD (j * 7 + 5) undef)
  r6 : ∀ j : Nat, i ≤ j → j < n → RowS W S 84 2 (cur.getD (j * 7 + 6) undef)
theorem RowS.put {W : World} {S : Nat → Prop} {e sz : Nat} {v : Value} (h : RowS W S e sz v) {b t : Nat} {cs : Array Value} (hb : W.heap[b]? = some (.cells cs t (0, 0))) (i : Nat) (u : Value) : RowS (W.setCell ⟨b, i, none⟩ u) S e sz v := by
  obtain ⟨A, n, c, rfl, hn, h⟩ := h
  refine ⟨A, n, c, rfl, hn, fun h0 => ?_⟩
  obtain ⟨b', cs', rfl, hs, hb', hsz⟩ := h h0
  by_cases e' : b' = b
  · subst e'
    rw [hb] at hb'
    injection hb' with hb'
    injection hb' with h1 h2
    subst h1 h2
    exact ⟨b', _, rfl, hs, blk_put hb i u rfl, by simpa using hsz⟩
  · exact ⟨b', cs', rfl, hs, blk_far hb' e' _, hsz⟩
theorem ShpR.inner {W : World} {S : Nat → Prop} {g n i : Nat} {cur : Array Value} (h : ShpR W S g n i cur) {b t : Nat} {cs : Array Value} (hb : W.heap[b]? = some (.cells cs t (0, 0))) (ht : t ≠ 76) (k : Nat) (u : Value) : ShpR (W.setCell ⟨b, k, none⟩ u) S g n i cur :=
  ⟨h.s, blk_far h.blk (fun e => by
    have e' : g = b := e
    subst e'
    rw [h.blk] at hb
    injection hb with hb
    injection hb with _ h2
    exact ht h2.symm) _, h.size, fun j h1 h2 => (h.r4 j h1 h2).put hb k u, fun j h1 h2 => (h.r5 j h1 h2).put hb k u, fun j h1 h2 => (h.r6 j h1 h2).put hb k u⟩
theorem RowS.below {W W' : World} {S : Nat → Prop} {e sz : Nat} {v : Value} (h : RowS W S e sz v) (hb : Below W.heap.size W W') : RowS W' S e sz v := by
  obtain ⟨A, n, c, rfl, hn, h⟩ := h
  exact ⟨A, n, c, rfl, hn, fun h0 => by obtain ⟨b', cs', rfl, hs, hb', hsz⟩ := h h0; exact ⟨b', cs', rfl, hs, blk_below hb' hb, hsz⟩⟩
theorem ShpR.below {W W' : World} {S : Nat → Prop} {g n i : Nat} {cur : Array Value} (h : ShpR W S g n i cur) (hb : Below W.heap.size W W') : ShpR W' S g n i cur :=
  ⟨h.s, blk_below h.blk hb, h.size, fun j h1 h2 => (h.r4 j h1 h2).below hb, fun j h1 h2 => (h.r5 j h1 h2).below hb, fun j h1 h2 => (h.r6 j h1 h2).below hb⟩
theorem ShpR.outer {W : World} {S : Nat → Prop} {g n i : Nat} {cur : Array Value} (h : ShpR W S g n i cur) (k : Nat) (hk : k < 7) (u : Value) : ShpR (W.setCell ⟨g, i * 7 + k, none⟩ u) S g n (i + 1) (cur.setIfInBounds (i * 7 + k) u) := by
  have hne : ∀ j m, i + 1 ≤ j → m < 7 → (cur.setIfInBounds (i * 7 + k) u).getD (j * 7 + m) undef = cur.getD (j * 7 + m) undef := fun j m hj hm => by
    rw [Array.getD_eq_getD_getElem?, Array.getD_eq_getD_getElem?, Array.getElem?_setIfInBounds_ne (by omega)]
  refine ⟨h.s, blk_put h.blk _ _ rfl, by simpa using h.size, fun j h1 h2 => ?_, fun j h1 h2 => ?_, fun j h1 h2 => ?_⟩
  · rw [hne j 4 h1 (by omega)]; exact (h.r4 j (by omega) h2).put h.blk _ u
  · rw [hne j 5 h1 (by omega)]; exact (h.r5 j (by omega) h2).put h.blk _ u
  · rw [hne j 6 h1 (by omega)]; exact (h.r6 j (by omega) h2).put h.blk _ u
theorem ShpR.outer' {W : World} {S : Nat → Prop} {g n i : Nat} {cur : Array Value} (h : ShpR W S g n (i + 1) cur) (k : Nat) (hk : k < 7) (u : Value) : ShpR (W.setCell ⟨g, i * 7 + k, none⟩ u) S g n (i + 1) (cur.setIfInBounds (i * 7 + k) u) := by
  have hne : ∀ j m, i + 1 ≤ j → m < 7 → (cur.setIfInBounds (i * 7 + k) u).getD (j * 7 + m) undef = cur.getD (j * 7 + m) undef := fun j m hj hm => by
    rw [Array.getD_eq_getD_getElem?, Array.getD_eq_getD_getElem?, Array.getElem?_setIfInBounds_ne (by omega)]
  refine ⟨h.s, blk_put h.blk _ _ rfl, by simpa using h.size, fun j h1 h2 => ?_, fun j h1 h2 => ?_, fun j h1 h2 => ?_⟩
  · rw [hne j 4 h1 (by omega)]; exact (h.r4 j h1 h2).put h.blk _ u
  · rw [hne j 5 h1 (by omega)]; exact (h.r5 j h1 h2).put h.blk _ u
  · rw [hne j 6 h1 (by omega)]; exact (h.r6 j h1 h2).put h.blk _ u
def putAll (W : World) (g i : Nat) : World := (((((((W.setCell ⟨g, i * 7, none⟩ (.int .i64 (-1))).setCell ⟨g, i * 7 + 1, none⟩ (.string ⟨#[]⟩)).setCell ⟨g, i * 7 + 2, none⟩ (.int .i64 0)).setCell ⟨g, i * 7 + 3, none⟩ (.string ⟨#[]⟩)).setCell ⟨g, i * 7 + 4, none⟩ (.slice none 0 0)).setCell ⟨g, i * 7 + 5, none⟩ (.slice none 0 0)).setCell ⟨g, i * 7 + 6, none⟩ (.slice none 0 0))
theorem ShpR.all {W : World} {S : Nat → Prop} {g n i : Nat} {cur : Array Value} (h : ShpR W S g n i cur) : ∃ cur', ShpR (putAll W g i) S g n (i + 1) cur' :=
  ⟨_, ((((((h.outer 0 (by omega) _).outer' 1 (by omega) _).outer' 2 (by omega) _).outer' 3 (by omega) _).outer' 4 (by omega) _).outer' 5 (by omega) _).outer' 6 (by omega) _⟩
theorem Wr.all {S : Nat → Prop} {w W : World} (h : Wr S w W) {g i : Nat} (hg : S g) : Wr S w (putAll W g i) :=
  ((((((h.set g _ _ (.inl hg)).set g _ _ (.inl hg)).set g _ _ (.inl hg)).set g _ _ (.inl hg)).set g _ _ (.inl hg)).set g _ _ (.inl hg)).set g _ _ (.inl hg)
theorem blk_all {W : World} {g i b t : Nat} {cs : Array Value} (h : W.heap[b]? = some (.cells cs t (0, 0))) (hne : b ≠ g) : (putAll W g i).heap[b]? = some (.cells cs t (0, 0)) :=
  blk_far (blk_far (blk_far (blk_far (blk_far (blk_far (blk_far h hne _) hne _) hne _) hne _) hne _) hne _) hne _
def ShpM (W : World) (S : Nat → Prop) (A : Option Addr) (n : Nat) : Prop := n ≤ 1048576 ∧ (0 < n → ∃ g cur, A = some ⟨g, 0, none⟩ ∧ ShpR W S g n 0 cur)
structure SpW (S : Nat → Prop) (w : World) (nx : Int) (A : Option Addr) (n c : Nat) (W : World) : Prop where
  wr : Wr S w W
  k1 : W.heap[w.heap.size]? = some (.cells #[.int .i64 nx, .slice A n c] 27 (0, 0))
theorem SpW.put {S : Nat → Prop} {w : World} {nx : Int} {A : Option Addr} {n c : Nat} {W : World} (h : SpW S w nx A n c W) (hS : ∀ k, S k → k < w.heap.size) {b : Nat} (hb : S b) (i : Nat) (u : Value) : SpW S w nx A n c (W.setCell ⟨b, i, none⟩ u) :=
  ⟨h.wr.set b i u (.inl hb), blk_far h.k1 (by have := hS b hb; show w.heap.size ≠ b; omega) _⟩
theorem SpW.all {S : Nat → Prop} {w : World} {nx : Int} {A : Option Addr} {n c : Nat} {W : World} (h : SpW S w nx A n c W) (hS : ∀ k, S k → k < w.heap.size) {g i : Nat} (hb : S g) : SpW S w nx A n c (putAll W g i) :=
  ⟨h.wr.all hb, blk_all h.k1 (by have := hS g hb; omega)⟩
theorem ShpR.cell {W : World} {S : Nat → Prop} {g n i : Nat} {cur : Array Value} (h : ShpR W S g n i cur) (hi : i < n) (m : Nat) (hm : m < 7) : W.cell? ⟨g, i * 7 + m, none⟩ = some (cur.getD (i * 7 + m) undef) := by
  have := h.size
  rw [blk_cell h.blk, Array.getD_eq_getD_getElem?, Array.getElem?_eq_getElem (by omega)]; rfl
end Go.Proofs.Ytlopfkkegjajlaa
namespace Go.Proofs.Ytlopfkkegjajlaa
open Go.RowKit Go.Proofs.YtlopfkkegjajlaaW.PrintWords PHistoryTouched
abbrev refO (A1 : Option Addr) (n1 c1 : Nat) (nx : Int) (A2 : Option Addr) (n2 c2 : Nat) (A3 : Option Addr) (n3 c3 : Nat) : Obj := .cells #[.slice A1 n1 c1, .int .i64 nx, .slice A2 n2 c2, .slice A3 n3 c3] 49 (0, 0)
structure SmW (w : World) (S : Nat → Prop) (tb : Nat) (nx : Int) (A : Option Addr) (n c : Nat) (W : World) : Prop where
  b : Below w.heap.size w W
  k1 : W.heap[tb]? = some (.cells #[.int .i64 nx, .slice A n c] 27 (0, 0))
theorem SmW.below {w : World} {S : Nat → Prop} {tb : Nat} {nx : Int} {A : Option Addr} {n c : Nat} {W W' : World} (h : SmW w S tb nx A n c W) (hb : Below W.heap.size W W') : SmW w S tb nx A n c W' := ⟨below_step h.b hb, blk_below h.k1 hb⟩
theorem SmW.put {w : World} {S : Nat → Prop} {tb : Nat} {nx : Int} {A : Option Addr} {n c : Nat} {W : World} (h : SmW w S tb nx A n c W) (hS : ∀ k, S k → w.heap.size ≤ k ∧ k < tb) {b : Nat} (hb : S b) (i : Nat) (u : Value) : SmW w S tb nx A n c (W.setCell ⟨b, i, none⟩ u) :=
  ⟨h.b.setCell (hS b hb).1 _, blk_far h.k1 (by have := (hS b hb).2; show tb ≠ b; omega) _⟩
theorem SmW.all {w : World} {S : Nat → Prop} {tb : Nat} {nx : Int} {A : Option Addr} {n c : Nat} {W : World} (h : SmW w S tb nx A n c W) (hS : ∀ k, S k → w.heap.size ≤ k ∧ k < tb) {g i : Nat} (hb : S g) : SmW w S tb nx A n c (putAll W g i) :=
  ((((((h.put hS hb _ _).put hS hb _ _).put hS hb _ _).put hS hb _ _).put hS hb _ _).put hS hb _ _).put hS hb _ _
end Go.Proofs.Ytlopfkkegjajlaa
namespace Go.Proofs.Ytlopfkkegjajlaa
open Go.RowKit Go.Proofs.YtlopfkkegjajlaaW.PrintWords PHistoryTouched
theorem heap82 : Kd.Heap k82 := by unfold k82; exact Kd.heap_iso _ (Kd.heap_pair Kd.heap_string Kd.heap_string)
theorem heap84 : Kd.Heap k84 := by unfold k84; exact Kd.heap_iso _ (Kd.heap_pair Kd.heap_string (Kd.heap_int _))
theorem heap76 : Kd.Heap k76 := by
  unfold k76
  exact Kd.heap_iso _ (Kd.heap_pair (Kd.heap_int _) (Kd.heap_pair Kd.heap_string (Kd.heap_pair (Kd.heap_int _) (Kd.heap_pair Kd.heap_string (Kd.heap_pair (Kd.heap_slice _ heap82) (Kd.heap_pair (Kd.heap_slice _ (Kd.heap_int _)) (Kd.heap_slice _ heap84)))))))
end Go.Proofs.Ytlopfkkegjajlaa
namespace Go.Proofs.Ytlopfkkegjajlaa
open Go.RowKit Go.Proofs.YtlopfkkegjajlaaW.PrintWords PHistoryTouched
theorem hidm {p : Prop} (h : p) : Hid p := h
end Go.Proofs.Ytlopfkkegjajlaa
namespace Go.Proofs.Ytlopfkkegjajlaa
open Go.RowKit Go.Proofs.YtlopfkkegjajlaaW.PrintWords PHistoryTouched
structure Boxed1 (w : World) (o : Obj) (W : World) : Prop where
  b : Below w.heap.size w W
  k1 : W.heap[w.heap.size]? = some o
theorem Boxed1.below {w : World} {o : Obj} {W W' : World} (h : Boxed1 w o W) (hb : Below W.heap.size W W') : Boxed1 w o W' := ⟨below_step h.b hb, blk_below h.k1 hb⟩
end Go.Proofs.Ytlopfkkegjajlaa
namespace Go.Proofs.Ytlopfkkegjajlaa
open Go
section
variable {P : Program} {ops : Array Oper} {C : World → Prop}
def stepH (P : Program) (ops : Array Oper) (C : World → Prop) (K : Act → World → Prop) (j : Nat) (a : Act) (w : World) : Prop :=
  ∃ o, ops[j]? = some o ∧ Region.wanted o (yielded ops a.tmps) = true ∧
      ((∃ f args, (execOp a.eval o).run P w = .ok (.enter f args) w ∧ Calls P f args w fun e w' => ∃ v, e = .returned v ∧ C w' ∧ K (a.put o.dst v) w') ∨
        (∃ v w', (execOp a.eval o).run P w = .ok (.value v) w' ∧ C w' ∧ K (a.put o.dst v) w') ∨
        o.wp P a w (fun a' w' => C w' ∧ K a' w') (fun _ _ _ => False))
theorem wp_any_post {o : Oper} {a : Act} {w : World} {K : Act → World → Prop} {Q : Exit → Act → World → Prop} (h : o.wp P a w K (fun _ _ _ => False)) : o.wp P a w K Q := by
  unfold Oper.wp at *
  generalize (execOp a.eval o).run P w = r at *
  cases r with
  | ok n w' =>
    cases n <;> simp only [Oper.upon] at h ⊢ <;>
      first
        | exact h
        | exact Calls.mono h (fun e w'' he => by
            cases e with
            | returned u => exact he
            | panicked c => exact False.elim he
            | outgrown => obtain ⟨_, _, h⟩ := he; exact False.elim h)
  | halt x w' => cases x <;> simp only [Oper.upon] at h ⊢
theorem stepH_op {Q : Exit → Act → World → Prop} {K : Act → World → Prop} {j : Nat} {a : Act} {w : World} (h : stepH P ops C K j a w) : wpOp P ops Q j (fun a' w' => C w' ∧ K a' w') a w := by
  obtain ⟨o, ho, hw, h⟩ := h
  unfold wpOp
  simp only [ho]
  rw [if_pos hw]
  refine .inl ?_
  unfold Oper.wp
  rcases h with ⟨f, args, hr, hc⟩ | ⟨v, w', hr, hc⟩ | h
  · rw [hr]
    refine Calls.mono hc ?_
    rintro e w' ⟨v, rfl, h1, h2⟩
    exact ⟨h1, h2⟩
  · rw [hr]
    exact hc
  · exact wp_any_post h
def freeOf (ops : Array Oper) (crem : List Nat) (j : Nat) : Bool := crem.all fun i => !Region.waitsFor .any ops j i
def allP (p : Nat → Prop) : List Nat → Prop
  | [] => True
  | j :: js => p j ∧ allP p js
theorem allP_mem {p : Nat → Prop} : ∀ {l : List Nat}, allP p l → ∀ j ∈ l, p j
  | _ :: _, h, j, hj => by
    rcases List.mem_cons.1 hj with rfl | h1
    · exact h.1
    · exact allP_mem h.2 j h1
def runX (P : Program) (ops : Array Oper) (C : World → Prop) (F : Act → World → Prop) : Nat → List Nat → Act → World → Prop
  | 0, _, a, w => F a w
  | m + 1, crem, a, w => allP (fun j => stepH P ops C (runX P ops C F m (crem.erase j)) j a w) (crem.filter (freeOf ops crem))
theorem runX_step {F : Act → World → Prop} {m : Nat} {crem rs : List Nat} {a : Act} {w : World} (hrs : crem.filter (freeOf ops crem) = rs) (h : allP (fun j => stepH P ops C (runX P ops C F m (crem.erase j)) j a w) rs) : runX P ops C F (m + 1) crem a w := by
  rw [← hrs] at h; exact h
structure RemX (ops : Array Oper) (n : Nat) (listed : Array Bool) (rem crem : List Nat) : Prop where
  inv : HeadInv .any ops n listed
  mem : ∀ i, (i ∈ rem ∨ i ∈ crem) ↔ i < n ∧ listed.getD i true = false
  up : rem.Pairwise (· < ·)
  plain : ∀ i ∈ rem, plainAt ops i = true
  dis : ∀ i ∈ rem, ∀ j ∈ crem, i ≠ j
  nd : crem.Nodup
  two : ∀ i ∈ rem, ∀ j ∈ rem, i < j → Region.waitsFor .any ops j i = true ∨ apartAt ops i j = true
  mix : ∀ i ∈ rem, ∀ j ∈ crem, Region.waitsFor .any ops j i = true ∨ apartAt ops i j = true
theorem any_of_holdX {n g : Nat} {F : Act → World → Prop} {Q : Exit → Act → World → Prop} (hsel : ∀ (j : Nat) (o : Oper) cs b, ops[j]? = some o → o.op ≠ .select cs b)
    (hQ : ∀ (o : Oper) (v : Value) c a w, Q (.panic c) (a.put o.dst v) w → Q (.panic c) a w)
    {pre : List Nat} (hs : sinkPre ops n pre = true) (hc : Region.chainB .any ops n = true) (hn : n < ops.size) (hlow : lowB ops n = true)
    (hend : ∀ a w, C w → F a w → wpAny P .any ops Q g (headed ops.size n) a w) :
    ∀ (m : Nat) (rem crem : List Nat) (listed : Array Bool) (a : Act) (w : World), rem.length + crem.length = m → RemX ops n listed rem crem → (∀ i ∈ pre, listed.getD i true = true) → C w →
      RunQ P ops C (fun a' => runX P ops C F crem.length crem a' w) rem a → wpAny P .any ops Q (m + g) listed a w
  | 0, rem, crem, listed, a, w, hm, hr, _, hw, h => by
    obtain rfl : rem = [] := List.eq_nil_of_length_eq_zero (by omega)
    obtain rfl : crem = [] := List.eq_nil_of_length_eq_zero (by omega)
    have hl : listed = headed ops.size n := rem_done ⟨hr.inv, fun i => by simpa using hr.mem i, List.Pairwise.nil⟩
    rw [Nat.zero_add, hl]
    exact hend a w hw h
  | m + 1, rem, crem, listed, a, w, hm, hr, hpl, hw, h => by
    have hex : ∃ i0, i0 < n ∧ listed.getD i0 true = false := by
      cases rem with
      | cons i r => exact ⟨i, (hr.mem i).1 (.inl List.mem_cons_self)⟩
      | nil =>
        cases crem with
        | cons i r => exact ⟨i, (hr.mem i).1 (.inr List.mem_cons_self)⟩
        | nil => simp at hm
    obtain ⟨i0, hi0, hu0⟩ := hex
    have hsucc : m + 1 + g = (m + g) + 1 := by omega
    rw [hsucc]
    refine ⟨fun h0 => absurd h0 (ready_min hlow hr.inv (by omega) i0 hi0 hu0), fun j hj => ?_⟩
    have hjun := (mem_ready.1 hj).1
    have hjn : j < n := by
      rcases Nat.lt_or_ge j n with h1 | h1
      · exact h1
      · exact absurd hj (tail_waits_pre hpl hs hc hn hr.inv _ i0 rfl hi0 hu0 j h1)
    have hsz : j < listed.size := by rw [hr.inv.size]; omega
    have hun : ∀ i, i ∈ rem ∨ i ∈ crem → listed.getD i true = false := fun i hi => ((hr.mem i).1 hi).2
    rcases (hr.mem j).2 ⟨hjn, hjun⟩ with hjm | hjm
    · obtain ⟨l1, l2, hl⟩ := List.append_of_mem hjm
      have hup := hr.up
      rw [hl] at h hup
      have hap : ∀ i ∈ l1, apartAt ops i j = true := by
        intro i hi
        have hij : i < j := (List.pairwise_append.1 hup).2.2 i hi j List.mem_cons_self
        have him : i ∈ rem := by rw [hl]; exact List.mem_append_left _ hi
        rcases hr.two i him j hjm hij with h1 | h1
        · exact absurd hj (waits_not_ready h1 (hun i (.inl him)))
        · exact h1
      have h2 := run_front hsel l1 j l2 a hap h
      have hlen : (l1 ++ l2).length + crem.length = m := by rw [hl] at hm; simp at hm ⊢; omega
      have hnd : ∀ i, i ∈ l1 ++ l2 → i ≠ j := by
        intro i hi
        rcases List.mem_append.1 hi with h3 | h3
        · have := (List.pairwise_append.1 hup).2.2 i h3 j List.mem_cons_self; omega
        · have := (List.pairwise_cons.1 (List.pairwise_append.1 hup).2.1).1 i h3; omega
      have hsub : ∀ i, i ∈ l1 ++ l2 → i ∈ rem := fun i hi => by
        rw [hl]
        rcases List.mem_append.1 hi with h3 | h3
        · exact List.mem_append_left _ h3
        · exact List.mem_append_right _ (List.mem_cons_of_mem _ h3)
      have hjp := hr.plain j hjm
      have hcj : ∀ i, i ∈ crem → i ≠ j := fun i hi e => hr.dis j hjm i hi e.symm
      have hr2 : RemX ops n (listed.setIfInBounds j true) (l1 ++ l2) crem := by
        refine ⟨hr.inv.set hj hjn, fun i => ?_, ?_, fun i hi => hr.plain i (hsub i hi), fun i hi k hk => hr.dis i (hsub i hi) k hk, hr.nd, fun i hi k hk => hr.two i (hsub i hi) k (hsub k hk), fun i hi k hk => hr.mix i (hsub i hi) k hk⟩
        · by_cases hij : i = j
          · subst hij
            constructor
            · rintro (h3 | h3)
              · exact absurd rfl (hnd i h3)
              · exact absurd rfl (hcj i h3)
            · rintro ⟨_, h3⟩; simp [hsz] at h3
          · rw [getD_set_ne true (Ne.symm hij), ← hr.mem i, hl]
            simp only [List.mem_append, List.mem_cons]
            constructor
            · rintro ((h3 | h3) | h3)
              · exact .inl (.inl h3)
              · exact .inl (.inr (.inr h3))
              · exact .inr h3
            · rintro ((h3 | h3 | h3) | h3)
              · exact .inl (.inl h3)
              · exact absurd h3 hij
              · exact .inl (.inr h3)
              · exact .inr h3
        · rw [List.pairwise_append] at hup ⊢
          exact ⟨hup.1, (List.pairwise_cons.1 hup.2.1).2, fun x hx y hy => hup.2.2 x hx y (List.mem_cons_of_mem _ hy)⟩
      unfold plainAt at hjp
      cases ho : ops[j]? with
      | none => simp [ho] at hjp
      | some oj =>
        simp only [ho] at hjp
        have h3 : qOp P ops C j (RunQ P ops C (fun a' => runX P ops C F crem.length crem a' w) (l1 ++ l2)) a := h2
        obtain ⟨v, hy, hK⟩ := yieldsIf_of_qOp ho hjp h3
        exact hy.wpOp ho hw (any_of_holdX hsel hQ hs hc hn hlow hend m (l1 ++ l2) crem _ _ w hlen hr2 (fun i hi => getD_set_true' (hpl i hi)) hw hK)
    · have hap : ∀ i ∈ rem, plainAt ops i = true ∧ apartAt ops i j = true := fun i hi => ⟨hr.plain i hi, by
        rcases hr.mix i hi j hjm with h1 | h1
        · exact absurd hj (waits_not_ready h1 (hun i (.inl hi)))
        · exact h1⟩
      obtain ⟨k, hk⟩ : ∃ k, crem.length = k + 1 := ⟨crem.length - 1, by have := List.length_pos_of_mem hjm; omega⟩
      have hfree : j ∈ crem.filter (freeOf ops crem) := by
        rw [List.mem_filter]
        refine ⟨hjm, List.all_eq_true.2 fun i hi => ?_⟩
        cases hx : Region.waitsFor .any ops j i with
        | false => rfl
        | true => exact absurd hj (waits_not_ready hx (hun i (.inr hi)))
      have h2 : RunQ P ops C (fun a' => wpOp P ops Q j (fun a' w' => C w' ∧ runX P ops C F k (crem.erase j) a' w') a' w) rem a := runQ_mono (fun a' h' => by
        rw [hk] at h'
        exact stepH_op (allP_mem h' j hfree)) rem a h
      have h3 := pull hsel hQ rem a hap h2
      have hrj : ∀ i, i ∈ rem → i ≠ j := fun i hi => hr.dis i hi j hjm
      have hel : (crem.erase j).length = k := by rw [List.length_erase_of_mem hjm]; omega
      have hem : ∀ i, i ∈ crem.erase j ↔ i ≠ j ∧ i ∈ crem := fun i => hr.nd.mem_erase_iff
      have hr2 : RemX ops n (listed.setIfInBounds j true) rem (crem.erase j) := by
        refine ⟨hr.inv.set hj hjn, fun i => ?_, hr.up, hr.plain, fun i hi k hk => hr.dis i hi k ((hem k).1 hk).2, hr.nd.erase j, hr.two, fun i hi k hk => hr.mix i hi k ((hem k).1 hk).2⟩
        by_cases hij : i = j
        · subst hij
          constructor
          · rintro (h3 | h3)
            · exact absurd rfl (hrj i h3)
            · exact absurd rfl ((hem i).1 h3).1
          · rintro ⟨_, h3⟩; simp [hsz] at h3
        · rw [getD_set_ne true (Ne.symm hij), ← hr.mem i, hem]
          simp [hij]
      refine wpOp_mono (fun a' w' h' => ?_) h3
      rw [← hel] at h'
      exact any_of_holdX hsel hQ hs hc hn hlow hend m rem (crem.erase j) _ _ w' (by omega) hr2 (fun i hi => getD_set_true' (hpl i hi)) (runQ_out (fun _ h => h.1) rem a' h') (runQ_mono (fun _ h => h.2) rem a' h')
end
def quietOfX (ops : Array Oper) (n : Nat) (pre late : List Nat) : List Nat := (List.range n).filter fun i => plainAt ops i && (!late.contains i && !pre.contains i)
def callsOfX (ops : Array Oper) (n : Nat) (pre late : List Nat) : List Nat := (List.range n).filter fun i => (!plainAt ops i || late.contains i) && !pre.contains i
def holdXB (ops : Array Oper) (n : Nat) (pre late : List Nat) : Bool :=
  Region.noSelect ops && decide (n < ops.size) && sinkPre ops n pre && Region.chainB .any ops n && lowB ops n && Region.seqB .any ops (ops.size - n) n (headed ops.size n) && preB ops pre (Array.replicate ops.size false) && pre.all (fun i => decide (i < n)) && decide (pre.length + ((quietOfX ops n pre late).length + (callsOfX ops n pre late).length) = n) &&
  (quietOfX ops n pre late).all (fun i => (quietOfX ops n pre late).all (fun j => decide (j ≤ i) || Region.waitsFor .any ops j i || apartAt ops i j) && (callsOfX ops n pre late).all (fun j => Region.waitsFor .any ops j i || apartAt ops i j))
theorem wp_region_holdX {P : Program} {C : World → Prop} {id : Nat} {Q : Exit → Act → World → Prop} {a : Act} {w : World} {l : List Oper} (n : Nat) (pre late is cs : List Nat) (hm : P.follows .mixedOrders = true) (hB : holdXB l.toArray n pre late = true) (his : pre ++ quietOfX l.toArray n pre late = is) (hcs : callsOfX l.toArray n pre late = cs)
    (hQ : ∀ (o : Oper) (v : Value) c a w, Q (.panic c) (a.put o.dst v) w → Q (.panic c) a w) (hC : C { w with drawn := w.drawn + 1 })
    (h : wpQuiet P l.toArray C (fun a' => ∀ w', C w' → runX P l.toArray C (fun a w => wpList P l.toArray Q (l.drop n) a w) cs.length cs a' w') (pickOps l is) a) : (Code.region id l.toArray true).wp P Q a w := by
  rw [← pickOps_eq] at h
  subst his hcs
  simp only [holdXB, Bool.and_eq_true, decide_eq_true_eq] at hB
  obtain ⟨⟨⟨⟨⟨⟨⟨⟨⟨hsel, hn⟩, hs⟩, hc⟩, hlow⟩, hq⟩, hpB⟩, hpn⟩, hlen⟩, hmx⟩ := hB
  have hn' : n < l.length := by simpa using hn
  have hpn' : ∀ i ∈ pre, i < n := fun i hi => by simpa using List.all_eq_true.1 hpn i hi
  have hdl : (l.drop n).length = l.toArray.size - n := by simp
  have hqm : ∀ i, i ∈ quietOfX l.toArray n pre late ↔ i < n ∧ plainAt l.toArray i = true ∧ i ∉ late ∧ i ∉ pre := fun i => by
    unfold quietOfX; rw [List.mem_filter, List.mem_range]; simp
  have hcm : ∀ i, i ∈ callsOfX l.toArray n pre late ↔ i < n ∧ (plainAt l.toArray i = false ∨ i ∈ late) ∧ i ∉ pre := fun i => by
    unfold callsOfX; rw [List.mem_filter, List.mem_range]; simp [Classical.or_iff_not_imp_left]
  have hrun := runQ_of_quiet (ops := l.toArray) (pre ++ quietOfX l.toArray n pre late) a (fun i hi => by
    rcases List.mem_append.1 hi with h1 | h1
    · have := hpn' i h1; omega
    · have := ((hqm i).1 h1).1; omega) h
  have hrun2 := runQ_append _ _ _ hrun
  have hinv0 : HeadInv .any l.toArray n (Array.replicate l.toArray.size false) :=
    ⟨by simp, fun j oj _ hl => (by rw [getD_replicate_false] at hl; cases hl), fun t _ ht => getD_in (by simpa using ht) (getD_replicate_false _ _)⟩
  have hmem : ∀ i, i < n → ((preL pre (Array.replicate l.toArray.size false)).getD i true = false ↔ i ∉ pre) := fun i hi => by
    rw [preL_false pre _ i (by simp; omega)]
    have : (Array.replicate l.toArray.size false).getD i true = false := getD_in (by simp; omega) (getD_replicate_false _ _)
    simp only [this, true_and]
  have hrem : RemX l.toArray n (preL pre (Array.replicate l.toArray.size false)) (quietOfX l.toArray n pre late) (callsOfX l.toArray n pre late) := by
    refine ⟨preL_inv pre _ hpB hpn' hinv0, fun i => ?_, ?_, fun i hi => ((hqm i).1 hi).2.1, fun i hi j hj e => by
      subst e
      have h1 := ((hqm i).1 hi).2
      rcases ((hcm i).1 hj).2.1 with h2 | h2
      · rw [h1.1] at h2; cases h2
      · exact h1.2.1 h2, ?_, fun i hi j hj hij => ?_, fun i hi j hj => ?_⟩
    · rw [hqm, hcm]
      constructor
      · rintro (⟨h1, _, _, h2⟩ | ⟨h1, _, h2⟩) <;> exact ⟨h1, (hmem i h1).2 h2⟩
      · rintro ⟨h1, h2⟩
        cases hp : plainAt l.toArray i with
        | true =>
          by_cases hl : i ∈ late
          · exact .inr ⟨h1, .inr hl, (hmem i h1).1 h2⟩
          · exact .inl ⟨h1, rfl, hl, (hmem i h1).1 h2⟩
        | false => exact .inr ⟨h1, .inl rfl, (hmem i h1).1 h2⟩
    · exact List.Pairwise.filter _ List.pairwise_lt_range
    · exact (List.nodup_range).filter _
    · have h1 := List.all_eq_true.1 hmx i hi
      rw [Bool.and_eq_true] at h1
      have h2 := List.all_eq_true.1 h1.1 j hj
      simp only [Bool.or_eq_true, decide_eq_true_eq] at h2
      rcases h2 with (h2 | h2) | h2
      · omega
      · exact .inl h2
      · exact .inr h2
    · have h1 := List.all_eq_true.1 hmx i hi
      rw [Bool.and_eq_true] at h1
      have h2 := List.all_eq_true.1 h1.2 j hj
      rwa [Bool.or_eq_true] at h2
  have hpl : ∀ i ∈ pre, (preL pre (Array.replicate l.toArray.size false)).getD i true = true := fun i hi => by
    have := hmem i (hpn' i hi)
    cases hx : (preL pre (Array.replicate l.toArray.size false)).getD i true with
    | true => rfl
    | false => exact absurd hi (this.1 hx)
  refine wp_region_any hm ?_
  have hall : ∀ a', RunQ P l.toArray C (fun a' => ∀ w', C w' → runX P l.toArray C (fun a w => wpList P l.toArray Q (l.drop n) a w) (callsOfX l.toArray n pre late).length (callsOfX l.toArray n pre late) a' w') (quietOfX l.toArray n pre late) a' → wpAny P .any l.toArray Q (((quietOfX l.toArray n pre late).length + (callsOfX l.toArray n pre late).length) + (l.toArray.size - n)) (preL pre (Array.replicate l.toArray.size false)) a' { w with drawn := w.drawn + 1 } := fun a' ha' =>
    any_of_holdX (pre := pre) (P := P) (C := C) (g := l.toArray.size - n) (Q := Q) (Region.noSelect_spec hsel) hQ hs hc hn hlow (fun a' w' hw' hF => by
      have := wpAny_of_seq (md := .any) (Q' := Q) (l.drop n) n _ a' w' (fun j => by simp [List.getElem?_drop]) (by rw [hdl]; exact hq) hF
      rwa [hdl] at this) _ (quietOfX l.toArray n pre late) (callsOfX l.toArray n pre late) _ a' _ rfl hrem hpl hC (runQ_mono (fun a'' h'' => h'' _ hC) _ _ ha')
  have := take_pre (C := C) hsel (fun o v c a w _ h => hQ o v c a w h) hC pre (Array.replicate l.toArray.size false) a hpB (runQ_mono hall pre a hrun2)
  rw [show pre.length + (((quietOfX l.toArray n pre late).length + (callsOfX l.toArray n pre late).length) + (l.toArray.size - n)) = l.toArray.size by omega] at this
  exact this
end Go.Proofs.Ytlopfkkegjajlaa
namespace Go.Proofs.Ytlopfkkegjajlaa
open Go.RowKit Go.Proofs.YtlopfkkegjajlaaW.PrintWords PHistoryTouched
theorem great_some (l : List S27) : ∃ r, Ev (fun k => topiarylaw27_great.f k l) r := by
  have key : ∀ (d i : Nat), i + d = l.length → ∀ x : Int, ∃ r, Ev (fun k => topiarylaw27_great.l0 k l x i) r := by
    intro d
    induction d with
    | zero =>
      intro i hi x
      refine ⟨decide (x > 3000), Ev.step (f := fun k => topiarylaw27_great.j1 k l x i false) (fun k => ?_) (Ev.step (f := fun _ => some (decide (x > 3000))) (fun k => ?_) (Ev.now _))⟩
      · simp only [topiarylaw27_great.l0]; rw [if_neg (by omega)]
      · simp [topiarylaw27_great.j1]
    | succ d ih =>
      intro i hi x
      have hj1 : ∃ r, Ev (fun k => topiarylaw27_great.j1 k l x i (decide ((i : Int) < 1000))) r := by
        by_cases h : (i : Int) < 1000
        · rw [decide_eq_true h]
          have hl1 : ∀ (e j : Nat), j + e = 1000 → ∀ y : Int, ∃ r, Ev (fun k => topiarylaw27_great.l1 k l y i j) r := by
            intro e
            induction e with
            | zero =>
              intro j hj y
              obtain ⟨r, hr⟩ := ih (i + 1) (by omega) y
              refine ⟨r, Ev.step (fun k => ?_) hr⟩
              simp only [topiarylaw27_great.l1]
              have hwi : wrap64 ((i : Int) + 1) = ((i + 1 : Nat) : Int) := wrap_up (by omega)
              rw [if_pos (by omega), if_pos (by omega), hwi]
              split
              · rw [if_neg (by omega)]
              · rfl
            | succ e ih2 =>
              intro j hj y
              by_cases hlt : (j : Int) < ((rd_T27 l i).f1.length : Int)
              · obtain ⟨r, hr⟩ := ih2 (j + 1) (by omega) (wrap64 ((wrap64 (y + 1)) + (mn 1000 (wrap64 ((wrap64 ((((rd_T76 ((rd_T27 l i).f1) j).f4).length : Int) + (((rd_T76 ((rd_T27 l i).f1) j).f6).length : Int))) + (wrap64 ((((rd_T76 ((rd_T27 l i).f1) j).f5).length : Int) / 8)))))))
                refine ⟨r, Ev.step (fun k => ?_) hr⟩
                simp only [topiarylaw27_great.l1]
                rw [if_pos (by omega), if_pos (by omega), if_pos hlt, if_pos (by omega), if_pos (by omega), wrap_up (i := j) (by omega)]
              · obtain ⟨r, hr⟩ := ih (i + 1) (by omega) y
                refine ⟨r, Ev.step (fun k => ?_) hr⟩
                simp only [topiarylaw27_great.l1]
                rw [if_pos (by omega), if_pos (by omega), if_neg hlt, wrap_up (i := i) (by omega)]
          have hj2 : ∀ y : Int, ∃ r, Ev (fun k => topiarylaw27_great.j2 k l y i) r := fun y => by
            obtain ⟨r, hr⟩ := hl1 1000 0 (by omega) y
            exact ⟨r, Ev.step (f := fun k => topiarylaw27_great.l1 k l y i 0) (fun k => by simp only [topiarylaw27_great.j2]) hr⟩
          by_cases hb : (((rd_T27 l i).f1).length : Int) > 1000
          · obtain ⟨r, hr⟩ := hj2 (wrap64 ((wrap64 (x + (((rd_T27 l i).f1).length : Int))) - 1000))
            refine ⟨r, Ev.step (fun k => ?_) hr⟩
            simp only [topiarylaw27_great.j1]
            rw [if_pos trivial, if_pos (by omega), if_pos (by omega), if_pos hb]
          · obtain ⟨r, hr⟩ := hj2 x
            refine ⟨r, Ev.step (fun k => ?_) hr⟩
            simp only [topiarylaw27_great.j1]
            rw [if_pos trivial, if_pos (by omega), if_pos (by omega), if_neg hb]
        · rw [decide_eq_false h]
          exact ⟨decide (x > 3000), Ev.step (f := fun _ => some (decide (x > 3000))) (fun k => by simp [topiarylaw27_great.j1]) (Ev.now _)⟩
      obtain ⟨r, hr⟩ := hj1
      exact ⟨r, Ev.step (fun k => by simp only [topiarylaw27_great.l0]; rw [if_pos (by omega)]) hr⟩
  exact key l.length 0 (by omega) 0
theorem great_any (A : Option Addr) (l : List S27) (c : Nat) (w : World) (hr : Kd.C k27 w A l.length l) (hc : l.length ≤ c) :
    ∃ r : Bool, Calls Try.prog 9 #[.slice A l.length c] w fun e w' => e = .returned (.bool r) ∧ Below w.heap.size w w' := by
  obtain ⟨r, h⟩ := great_some l
  obtain ⟨k, h⟩ := h.rounds
  exact ⟨r, topiarylaw27_great.calls k A c l r w hr hc h⟩
structure RefR (W : World) (D : Nat → Prop) (qb : Nat) (ah : List S27) (h : S27) (be : List S27) : Prop where
  ex : ∃ A1 c1 A2 c2 A3 c3, W.heap[qb]? = some (refO A1 ah.length c1 h.f0 A2 h.f1.length c2 A3 be.length c3) ∧ ah.length ≤ c1 ∧ h.f1.length ≤ c2 ∧ be.length ≤ c3 ∧
    Kd.F k27 W D A1 ah.length ah ∧ Kd.F k76 W D A2 h.f1.length h.f1 ∧ Kd.F k27 W D A3 be.length be
theorem RefR.step {W W' : World} {D : Nat → Prop} {qb : Nat} {ah be : List S27} {h : S27} (hr : RefR W D qb ah h be) (hq : W'.heap[qb]? = W.heap[qb]?) (hD : ∀ k, D k → k < W.heap.size → W'.heap[k]? = W.heap[k]?) : RefR W' D qb ah h be := by
  obtain ⟨A1, c1, A2, c2, A3, c3, h0, l1, l2, l3, f1, f2, f3⟩ := hr.ex
  exact ⟨A1, c1, A2, c2, A3, c3, hq.trans h0, l1, l2, l3, Kd.F_step f1 hD, Kd.F_step f2 hD, Kd.F_step f3 hD⟩
theorem RefR.below {W W' : World} {D : Nat → Prop} {qb : Nat} {ah be : List S27} {h : S27} (hr : RefR W D qb ah h be) (hb : Below W.heap.size W W') : RefR W' D qb ah h be :=
  hr.step (by
    obtain ⟨A1, c1, A2, c2, A3, c3, h0, _⟩ := hr.ex
    exact hb.block qb (blk_lt h0)) (fun k _ hk => hb.block k hk)
theorem RefR.mono {W : World} {D D' : Nat → Prop} {qb : Nat} {ah be : List S27} {h : S27} (hr : RefR W D qb ah h be) (hD : ∀ k, k < W.heap.size → D k → D' k) : RefR W D' qb ah h be := by
  obtain ⟨A1, c1, A2, c2, A3, c3, h0, l1, l2, l3, f1, f2, f3⟩ := hr.ex
  exact ⟨A1, c1, A2, c2, A3, c3, h0, l1, l2, l3, Kd.F_mono (Kd.F_bound f1) (fun k hk => hD k hk.2 hk.1), Kd.F_mono (Kd.F_bound f2) (fun k hk => hD k hk.2 hk.1), Kd.F_mono (Kd.F_bound f3) (fun k hk => hD k hk.2 hk.1)⟩
end Go.Proofs.Ytlopfkkegjajlaa
namespace Go.Proofs.Ytlopfkkegjajlaa
open Go.RowKit Go.Proofs.YtlopfkkegjajlaaW.PrintWords PHistoryTouched
structure RefC (W : World) (D : Nat → Prop) (qb : Nat) (ah : List S27) (h : S27) (be : List S27) (A1 : Option Addr) (c1 : Nat) (A2 : Option Addr) (c2 : Nat) (A3 : Option Addr) (c3 : Nat) : Prop where
  blk : W.heap[qb]? = some (refO A1 ah.length c1 h.f0 A2 h.f1.length c2 A3 be.length c3)
  l1 : ah.length ≤ c1
  l2 : h.f1.length ≤ c2
  l3 : be.length ≤ c3
  f1 : Kd.F k27 W D A1 ah.length ah
  f2 : Kd.F k76 W D A2 h.f1.length h.f1
  f3 : Kd.F k27 W D A3 be.length be
theorem RefC.below {W W' : World} {D : Nat → Prop} {qb : Nat} {ah be : List S27} {h : S27} {A1 A2 A3 : Option Addr} {c1 c2 c3 : Nat} (hr : RefC W D qb ah h be A1 c1 A2 c2 A3 c3) (hb : Below W.heap.size W W') : RefC W' D qb ah h be A1 c1 A2 c2 A3 c3 :=
  ⟨blk_below hr.blk hb, hr.l1, hr.l2, hr.l3, Kd.F_below hr.f1 hb, Kd.F_below hr.f2 hb, Kd.F_below hr.f3 hb⟩
end Go.Proofs.Ytlopfkkegjajlaa
namespace Go.Proofs.Ytlopfkkegjajlaa
open Go.RowKit Go.Proofs.YtlopfkkegjajlaaW.PrintWords PHistoryTouched
def ahead (ah : List S27) (h : S27) : List S27 := if 64 < (ah ++ [h]).length then (ah ++ [h]).drop 1 else ah ++ [h]
end Go.Proofs.Ytlopfkkegjajlaa
namespace Go.Proofs.Ytlopfkkegjajlaa
open Go.RowKit Go.Proofs.YtlopfkkegjajlaaW.PrintWords PHistoryTouched
def PastR (W : World) (D : Nat → Prop) (pb : Nat) (ms : List S27) (now : Nat) : Prop :=
  ∃ ad c, W.heap[pb]? = some (pastO (some ad) ms.length c now) ∧ ms.length ≤ c ∧ Kd.F k27 W D (some ad) ms.length ms
theorem PastR.lt {W : World} {D : Nat → Prop} {pb : Nat} {ms : List S27} {now : Nat} (h : PastR W D pb ms now) : pb < W.heap.size := by
  obtain ⟨ad, c, hb, _⟩ := h
  exact blk_lt hb
theorem RefR.lt {W : World} {D : Nat → Prop} {qb : Nat} {ah be : List S27} {h : S27} (hr : RefR W D qb ah h be) : qb < W.heap.size := by
  obtain ⟨A1, c1, A2, c2, A3, c3, h0, _⟩ := hr.ex
  exact blk_lt h0
theorem PastR.step {W W' : World} {D : Nat → Prop} {pb : Nat} {ms : List S27} {now : Nat} (h : PastR W D pb ms now) (hp : W'.heap[pb]? = W.heap[pb]?) (hD : ∀ k, D k → k < W.heap.size → W'.heap[k]? = W.heap[k]?) : PastR W' D pb ms now := by
  obtain ⟨ad, c, hb, hc, hF⟩ := h
  exact ⟨ad, c, hp.trans hb, hc, Kd.F_step hF hD⟩
theorem PastR.mono {W : World} {D D' : Nat → Prop} {pb : Nat} {ms : List S27} {now : Nat} (h : PastR W D pb ms now) (hD : ∀ k, k < W.heap.size → D k → D' k) : PastR W D' pb ms now := by
  obtain ⟨ad, c, hb, hc, hF⟩ := h
  exact ⟨ad, c, hb, hc, Kd.F_mono (Kd.F_bound hF) (fun k hk => hD k hk.2 hk.1)⟩
theorem PastR.below {W W' : World} {D : Nat → Prop} {pb : Nat} {ms : List S27} {now : Nat} (h : PastR W D pb ms now) (hb : Below W.heap.size W W') : PastR W' D pb ms now :=
  h.step (hb.block pb h.lt) (fun k _ hk => hb.block k hk)
def PastPost (pb : Nat) (D : Nat → Prop) (er : Int) (ms' : List S27) (now' : Nat) (w : World) (e : Ending) (w' : World) : Prop :=
  e = .returned (.int .i64 er) ∧ PastR w' (fun k => D k ∨ (w.heap.size ≤ k ∧ k < w'.heap.size)) pb ms' now' ∧ Wr (· = pb) w w'
def MovePost (pb : Nat) (D : Nat → Prop) (m : S27) (er : Int) (ms : List S27) (now' : Nat) (w : World) (e : Ending) (w' : World) : Prop :=
  ∃ v, e = .returned (.tuple #[.agg #[.int .i64 m.f0, v], .int .i64 er]) ∧ k76.R 76 w' w.heap.size (fun _ => True) v m.f1 ∧ PastR w' D pb ms now' ∧ Wr (· = pb) w w'
theorem move_of_step {pb : Nat} {D : Nat → Prop} {m : S27} {er : Int} {ms : List S27} {now' c : Nat} {ad : Addr} {w : World} {e : Ending} {w' : World} (hc : ms.length ≤ c) (hF : Kd.F k27 w D (some ad) ms.length ms) (hD : ¬ D pb) (h : StepPost pb (some ad) ms.length c now' m er w e w') : MovePost pb D m er ms now' w e w' := by
  obtain ⟨v, he, hv, hw, hb⟩ := h
  exact ⟨v, he, hv, ⟨ad, c, hb, hc, Kd.F_step hF (fun k hk hlt => hw.block k hlt (fun e => hD (by rw [← e]; exact hk)))⟩, hw⟩
end Go.Proofs.Ytlopfkkegjajlaa
namespace Go.Proofs.Ytlopfkkegjajlaa
open Go.RowKit Go.Proofs.YtlopfkkegjajlaaW.PrintWords PHistoryTouched
def kP : Kd Nat := Kd.scalar (fun b : Nat => Value.pointer (some ⟨b, 0, none⟩)) (fun _ => rfl)
theorem ShpM.move {W W' : World} {S S' : Nat → Prop} {A : Option Addr} {n : Nat} (h : ShpM W S A n) (hS : ∀ k, S k → S' k) (hm : ∀ k, S k → W'.heap[k]? = W.heap[k]?) : ShpM W' S' A n := by
  have hr : ∀ e sz v, RowS W S e sz v → RowS W' S' e sz v := fun e sz v ⟨A, n, c, h1, h2, h3⟩ => ⟨A, n, c, h1, h2, fun h0 => by
    obtain ⟨b, cs, g1, g2, g3, g4⟩ := h3 h0
    exact ⟨b, cs, g1, hS b g2, (hm b g2).trans g3, g4⟩⟩
  refine ⟨h.1, fun h0 => ?_⟩
  obtain ⟨g, cur, hA, hs⟩ := h.2 h0
  exact ⟨g, cur, hA, hS g hs.s, (hm g hs.s).trans hs.blk, hs.size, fun j h1 h2 => hr _ _ _ (hs.r4 j h1 h2), fun j h1 h2 => hr _ _ _ (hs.r5 j h1 h2), fun j h1 h2 => hr _ _ _ (hs.r6 j h1 h2)⟩
theorem PastR.wr {W W' : World} {D S : Nat → Prop} {pb : Nat} {ms : List S27} {now : Nat} (h : PastR W D pb ms now) (hw : Wr S W W') (hp : ¬ S pb) (hD : ∀ k, D k → k < W.heap.size → ¬ S k) : PastR W' D pb ms now :=
  h.step (hw.block pb h.lt hp) (fun k hk hlt => hw.block k hlt (hD k hk hlt))
theorem RefR.wr {W W' : World} {D S : Nat → Prop} {qb : Nat} {ah be : List S27} {h : S27} (hr : RefR W D qb ah h be) (hw : Wr S W W') (hq : ¬ S qb) (hD : ∀ k, D k → k < W.heap.size → ¬ S k) : RefR W' D qb ah h be :=
  hr.step (hw.block qb hr.lt hq) (fun k hk hlt => hw.block k hlt (hD k hk hlt))
theorem below_trans' {w0 W W' : World} {T : Nat → Prop} (h : Below w0.heap.size w0 W) (hw : Wr T W W') (hT : ∀ k, T k → k < W.heap.size → w0.heap.size ≤ k) : Below w0.heap.size w0 W' :=
  ⟨hw.os.trans h.os, hw.tape.trans h.tape, hw.output.trans h.output, Nat.le_trans h.size hw.size, fun k hk => (hw.block k (Nat.lt_of_lt_of_le hk h.size) (fun ht => by have := hT k ht (Nat.lt_of_lt_of_le hk h.size); omega)).trans (h.block k hk)⟩
def OldOK (W : World) (D : Nat → Prop) (o : Nat × Nat) : Prop :=
  D o.1 ∧ D o.2 ∧ ∃ ah h be, (ah ++ h :: be).length ≤ 65 ∧ (∀ m ∈ ah ++ h :: be, SmallL m.f1) ∧ PastR W D o.1 (ah ++ h :: be) ah.length ∧ RefR W D o.2 ah h be
theorem OldOK.move {W W' : World} {D D' : Nat → Prop} {o : Nat × Nat} (h : OldOK W D o) (hm : ∀ k, D k → k < W.heap.size → W'.heap[k]? = W.heap[k]?) (hD : ∀ k, D k → D' k) : OldOK W' D' o := by
  obtain ⟨h1, h2, ah, hh, be, h3, h4, h5, h6⟩ := h
  exact ⟨hD _ h1, hD _ h2, ah, hh, be, h3, h4, (h5.step (hm _ h1 h5.lt) hm).mono (fun k _ hk => hD k hk), (h6.step (hm _ h2 h6.lt) hm).mono (fun k _ hk => hD k hk)⟩
structure AP (w0 W : World) (D : Nat → Prop) (pb qb : Nat) (ah : List S27) (h : S27) (be : List S27) : Prop where
  b : Below w0.heap.size w0 W
  lt : ∀ k, D k → k < W.heap.size
  nP : ¬ D pb
  nQ : ¬ D qb
  ne : pb ≠ qb
  gp : w0.heap.size ≤ pb
  gq : w0.heap.size ≤ qb
  len : (ah ++ h :: be).length ≤ 65
  sm : ∀ m ∈ ah ++ h :: be, SmallL m.f1
  past : PastR W D pb (ah ++ h :: be) ah.length
  ref : RefR W D qb ah h be
abbrev LP (w0 W : World) (D : Nat → Prop) (pb qb : Nat) (e : Nat) (v : Value) (xs : List Nat) : Prop := Kd.N kP e W w0.heap.size (fun k => ¬ D k ∧ k ≠ pb ∧ k ≠ qb) v xs
structure AI (w0 W : World) (D : Nat → Prop) (pb qb : Nat) (ah : List S27) (h : S27) (be : List S27) (os ws : Value) (ol : List (Nat × Nat)) : Prop where
  p : AP w0 W D pb qb ah h be
  os : LP w0 W D pb qb 29 os (ol.map Prod.fst)
  ws : LP w0 W D pb qb 33 ws (ol.map Prod.snd)
  olds : ∀ o ∈ ol, OldOK W D o
theorem AP.below {w0 W W' : World} {D : Nat → Prop} {pb qb : Nat} {ah : List S27} {h : S27} {be : List S27} (I : AP w0 W D pb qb ah h be) (hb : Below W.heap.size W W') : AP w0 W' D pb qb ah h be :=
  ⟨below_step I.b hb, fun k hk => Nat.lt_of_lt_of_le (I.lt k hk) hb.size, I.nP, I.nQ, I.ne, I.gp, I.gq, I.len, I.sm, I.past.below hb, I.ref.below hb⟩
theorem AI.below {w0 W W' : World} {D : Nat → Prop} {pb qb : Nat} {ah : List S27} {h : S27} {be : List S27} {os ws : Value} {ol : List (Nat × Nat)} (I : AI w0 W D pb qb ah h be os ws ol) (hb : Below W.heap.size W W') : AI w0 W' D pb qb ah h be os ws ol :=
  ⟨I.p.below hb, Kd.N_below I.os hb, Kd.N_below I.ws hb, fun o ho => (I.olds o ho).move (fun k _ hlt => hb.block k hlt) (fun _ h => h)⟩
theorem AI.acted {w0 W W' : World} {D D' T : Nat → Prop} {pb qb : Nat} {ah ah' : List S27} {h h' : S27} {be be' : List S27} {os ws : Value} {ol : List (Nat × Nat)} (I : AI w0 W D pb qb ah h be os ws ol)
    (hw : Wr T W W') (hT : ∀ k, T k → k < W.heap.size → k = pb ∨ k = qb) (hD : ∀ k, D k → D' k) (hD' : ∀ k, D' k → D k ∨ (W.heap.size ≤ k ∧ k < W'.heap.size)) (hP : PastR W' D' pb (ah' ++ h' :: be') ah'.length) (hR : RefR W' D' qb ah' h' be')
    (hlen : (ah' ++ h' :: be').length ≤ 65) (hsm : ∀ m ∈ ah' ++ h' :: be', SmallL m.f1) : AI w0 W' D' pb qb ah' h' be' os ws ol := by
  have hmv : ∀ k, D k → k < W.heap.size → W'.heap[k]? = W.heap[k]? := fun k hk hlt => hw.block k hlt (fun ht => by
    rcases hT k ht hlt with rfl | rfl
    · exact I.p.nP hk
    · exact I.p.nQ hk)
  have hlp : ∀ e v xs, LP w0 W D pb qb e v xs → LP w0 W' D' pb qb e v xs := fun e v xs h => by
    refine Kd.N_mono (Kd.N_step (Kd.N_bound h) (fun k hk hlt => hw.block k hlt (fun ht => ?_))) (fun k hk => ⟨fun hd => ?_, hk.1.2⟩)
    · rcases hT k ht hlt with rfl | rfl
      · exact hk.1.2.1 rfl
      · exact hk.1.2.2 rfl
    · rcases hD' k hd with h1 | h1
      · exact hk.1.1 h1
      · have := hk.2; omega
  have hpl := I.p.past.lt
  have hql := I.p.ref.lt
  refine ⟨⟨below_trans' I.p.b hw ?_, fun k hk => ?_, fun hk => ?_, fun hk => ?_, I.p.ne, I.p.gp, I.p.gq, hlen, hsm, hP, hR⟩, hlp _ _ _ I.os, hlp _ _ _ I.ws, fun o ho => (I.olds o ho).move hmv hD⟩
  · intro k hk hlt
    rcases hT k hk hlt with rfl | rfl
    · exact I.p.gp
    · exact I.p.gq
  · rcases hD' k hk with h1 | h1
    · exact Nat.lt_of_lt_of_le (I.p.lt k h1) hw.size
    · exact h1.2
  · rcases hD' _ hk with h1 | h1
    · exact I.p.nP h1
    · omega
  · rcases hD' _ hk with h1 | h1
    · exact I.p.nQ h1
    · omega
theorem AI.pushed {w0 W W2 W3 W4 W5 : World} {D : Nat → Prop} {pb qb : Nat} {ah ah' : List S27} {h h' : S27} {be be' : List S27} {os ws : Value} {ol : List (Nat × Nat)} (I : AI w0 W D pb qb ah h be os ws ol) (hb : Below W.heap.size W W2)
    (hp : PastR W3 (fun k => D k ∨ (W2.heap.size ≤ k ∧ k < W3.heap.size)) pb (ah' ++ h' :: be') ah'.length) (h3 : Wr (· = pb) W2 W3) (hr : RefR W4 (fun k => D k ∨ (W3.heap.size ≤ k ∧ k < W4.heap.size)) qb ah' h' be') (h4 : Wr (· = qb) W3 W4)
    (h5 : Wr (fun k => W.heap.size ≤ k ∧ k < W2.heap.size) W4 W5) (hlen : (ah' ++ h' :: be').length ≤ 65) (hsm : ∀ m ∈ ah' ++ h' :: be', SmallL m.f1) : ∃ D', AI w0 W5 D' pb qb ah' h' be' os ws ol := by
  have hpl := I.p.past.lt
  have hql := I.p.ref.lt
  have hne := I.p.ne
  have s2 := hb.size
  have s3 := h3.size
  have s4 := h4.size
  have s5 := h5.size
  refine ⟨fun k => D k ∨ (W2.heap.size ≤ k ∧ k < W4.heap.size), I.acted (T := fun k => (k = pb ∨ k = qb) ∨ (W.heap.size ≤ k ∧ k < W2.heap.size)) ((((Wr.of_below (S := fun k => (k = pb ∨ k = qb) ∨ (W.heap.size ≤ k ∧ k < W2.heap.size)) hb).trans h3 (fun k _ e => .inl (.inl e))).trans h4 (fun k _ e => .inl (.inr e))).trans h5 (fun k _ e => .inr e))
    (fun k hk hlt => hk.elim id (fun h => by omega)) (fun k hk => .inl hk) (fun k hk => hk.imp id (fun h => by omega)) ?_ ?_ hlen hsm⟩
  · refine ((hp.wr h4 (fun e => hne e) (fun k hk _ e => ?_)).wr h5 (fun e => by omega) (fun k hk _ e => ?_)).mono (fun k _ hk => hk.imp id (fun h => by omega))
    · rcases hk with hk | hk
      · exact I.p.nQ (by rw [← e]; exact hk)
      · omega
    · rcases hk with hk | hk
      · have := I.p.lt k hk; omega
      · omega
  · refine (hr.wr h5 (fun e => by omega) (fun k hk _ e => ?_)).mono (fun k _ hk => hk.imp id (fun h => by omega))
    rcases hk with hk | hk
    · have := I.p.lt k hk; omega
    · omega
theorem AP.grown {w0 W W' : World} {D : Nat → Prop} {pb qb : Nat} {ah : List S27} {h : S27} {be : List S27} {e : Nat} {v : Value} {xs : List Nat} (I : AP w0 W D pb qb ah h be) (L : LP w0 W D pb qb e v xs) (hg : W.grownBy W' v.ownBlock) (hb : Below w0.heap.size w0 W') : AP w0 W' D pb qb ah h be := by
  have hmv : ∀ k, D k → k < W.heap.size → W'.heap[k]? = W.heap[k]? := fun k hk hlt => hg.block k hlt (fun e => (L.1 k e.symm).1 hk)
  refine ⟨hb, fun k hk => Nat.lt_of_lt_of_le (I.lt k hk) hg.size, I.nP, I.nQ, I.ne, I.gp, I.gq, I.len, I.sm, I.past.step (hg.block pb I.past.lt (fun e => (L.1 _ e.symm).2.1 rfl)) hmv, I.ref.step (hg.block qb I.ref.lt (fun e => (L.1 _ e.symm).2.2 rfl)) hmv⟩
theorem OldOK.grown {w0 W W' : World} {D : Nat → Prop} {pb qb : Nat} {e : Nat} {v : Value} {xs : List Nat} {o : Nat × Nat} (h : OldOK W D o) (L : LP w0 W D pb qb e v xs) (hg : W.grownBy W' v.ownBlock) : OldOK W' D o :=
  h.move (fun k hk hlt => hg.block k hlt (fun e => (L.1 k e.symm).1 hk)) (fun _ h => h)
end Go.Proofs.Ytlopfkkegjajlaa
namespace Go.Proofs.Ytlopfkkegjajlaa
open Go.RowKit Go.ChangeShapes Go.WideShapes Go.Deep Go.Proofs.YtlopfkkegjajlaaW.PrintWords PHistoryTouched
def RdK {α : Type} (d : Kd α) (t : TypeId) (Q : α → Prop) : Prop :=
  ∀ {H : Type} (enc : TypeId × Value → H) (W : World) (n : Nat) (cs : List Value) (x : DataW H × List MemPlace),
    DataW.trod enc Try.prog W 0 (fun _ => true) true n t cs = some x → Rows.uptoBulk x.1 ≤ 1048576 → ∃ a : α, d.K W a cs ∧ Q a
theorem i64_of_wf {z : Int} (h : (Lit.int .i64 z).wf = true) : I64 z := by
  simp [Lit.wf, IntKind.min, IntKind.max, IntKind.signed, IntKind.bits] at h
  constructor <;> omega
theorem rd_int : RdK (Kd.int .i64) 3 I64 := by
  intro H enc W n cs x h _
  obtain ⟨z, rfl, rfl, hw⟩ := DataW.trod_int Try.underlying3 h
  exact ⟨z, rfl, i64_of_wf hw⟩
theorem rd_string : RdK Kd.string 9 (fun s => s.size ≤ 1048576) := by
  intro H enc W n cs x h hb
  obtain ⟨s, rfl, rfl, _⟩ := DataW.trod_string Try.underlying9 h
  have h1 : Rows.uptoBulk (DataW.lit (H := H) (.string s.data.toList)) = s.data.toList.length + 1 := bulks.string_eq _
  refine ⟨s, rfl, ?_⟩
  have h2 : s.data.toList.length = s.size := Array.length_toList
  rw [h1] at hb
  omega
theorem rd_slice {α : Type} {d : Kd α} {t e : TypeId} {Q : α → Prop} (ht : Try.prog.underlying t = some (.slice e)) (hc : Try.prog.cellsOf e = d.sz) (hd : RdK d e Q) (z : α) (e' : Nat) : RdK (Kd.slice e' d) t (fun xs => xs.length ≤ 1048576 ∧ ∀ a ∈ xs, Q a) := by
  intro H enc W n cs x h hb
  rcases open_slice ht h with ⟨rfl, rfl⟩ | ⟨a, len, cap, m, n', D, Pl, rfl, _, hl, _, hmm, rfl, hx⟩
  · exact ⟨[], ⟨none, 0, rfl, Nat.le_refl _, rfl, Nat.zero_le _, fun h => absurd h (Nat.lt_irrefl _)⟩, Nat.zero_le _, fun a ha => by cases ha⟩
  · have hlm : len ≤ m := by rw [hmm]; simpa using hl
    have hb1 := bulks.slice_elems ((List.range len).map D) ((List.range (m - len)).map fun j => D (len + j))
    have hb2 := bulks.slice_le ((List.range len).map D) ((List.range (m - len)).map fun j => D (len + j))
    have hb' : Rows.uptoBulk (DataW.slice ((List.range len).map D) ((List.range (m - len)).map fun j => D (len + j))) ≤ 1048576 := hb
    simp only [List.length_map, List.length_range] at hb2
    haveI : Inhabited α := ⟨z⟩
    obtain ⟨f, hf⟩ := choose_lt (n := len) (p := fun i y => (∃ cs', W.cells? 0 (a.add (i * Try.prog.cellsOf e)) (Try.prog.cellsOf e) = some cs' ∧ d.K W y cs') ∧ Q y) (fun i hi => by
      obtain ⟨cs', h1, h2⟩ := hx i (Nat.lt_of_lt_of_le hi hlm)
      obtain ⟨y, hy, hQ⟩ := hd enc W n' cs' _ h2 (by
        have := bulks.part_le (d := D i) (l := (List.range len).map D) (List.mem_map.2 ⟨i, List.mem_range.2 hi, rfl⟩)
        show Rows.uptoBulk (D i) ≤ _
        omega)
      exact ⟨y, ⟨cs', h1, hy⟩, hQ⟩)
    have hlen : ((List.range len).map f).length = len := by simp
    refine ⟨(List.range len).map f, ⟨some a, cap, by rw [hlen], by rw [hlen]; exact hl, rfl, by rw [hlen]; omega, fun _ => ⟨a, rfl, fun j p hj => ?_⟩⟩, by rw [hlen]; omega, fun y hy => ?_⟩
    · have hjl : j < len := by
        have := (List.getElem?_eq_some_iff.1 hj).1
        rwa [hlen] at this
      have hp : f j = p := by simpa [hjl] using hj
      obtain ⟨⟨cs', h1, h2⟩, _⟩ := hf j hjl
      rw [hc] at h1
      obtain ⟨_, h3, h4⟩ := World.cells?_some h1
      rw [hp] at h2
      refine ⟨cs', h3, h2, fun i u hu => ?_⟩
      have hi : i < d.sz := by
        have := (List.getElem?_eq_some_iff.1 hu).1
        omega
      have h5 := h4 i hi
      rw [hu, Go.Deep.add_add] at h5
      exact h5
    · obtain ⟨i, hi, rfl⟩ := List.mem_map.1 hy
      exact (hf i (List.mem_range.1 hi)).2
theorem rd_field {H : Type} {enc : TypeId × Value → H} {W : World} {n : Nat} {xs : List (DataW H × List MemPlace)} {i : Nat} {α : Type} {d : Kd α} {t : TypeId} {Q : α → Prop} {cs : List Value} (hd : RdK d t Q)
    (h : DataW.trod enc Try.prog W 0 (fun _ => true) true n t cs = xs[i]?) (hi : i < xs.length) (hb : Rows.uptoBulk (DataW.agg (xs.map (·.1))) ≤ 1048576) : ∃ a, d.K W a cs ∧ Q a := by
  rw [List.getElem?_eq_getElem hi] at h
  refine hd enc W n cs _ h ?_
  have h1 : Rows.uptoBulk (DataW.agg (xs.map (·.1))) = Rows.uptoBulkAll (xs.map (·.1)) + 1 := by simp only [Rows.uptoBulk]
  have h2 := bulks.part_le (d := (xs[i]).1) (l := xs.map (·.1)) (List.mem_map.2 ⟨_, List.getElem_mem hi, rfl⟩)
  omega
theorem cells27 : Try.prog.cellsOf 27 = 2 := by kernel_rfl
theorem cells76 : Try.prog.cellsOf 76 = 7 := by kernel_rfl
theorem cells82 : Try.prog.cellsOf 82 = 2 := by kernel_rfl
theorem cells84 : Try.prog.cellsOf 84 = 2 := by kernel_rfl
theorem cells3 : Try.prog.cellsOf 3 = 1 := by kernel_rfl
theorem cells9 : Try.prog.cellsOf 9 = 1 := by kernel_rfl
theorem cells73 : Try.prog.cellsOf 73 = 1 := by kernel_rfl
theorem cells54 : Try.prog.cellsOf 54 = 1 := by kernel_rfl
theorem cells74 : Try.prog.cellsOf 74 = 1 := by kernel_rfl
theorem cells25 : Try.prog.cellsOf 25 = 1 := by kernel_rfl
theorem two_cells {cs : List Value} {a b : Value} (hl : cs.length = 2) (h0 : (cs.drop 0).take 1 = [a]) (h1 : (cs.drop 1).take 1 = [b]) : cs = [a, b] := by
  match cs, hl with
  | [x, y], _ => simp at h0 h1; rw [h0, h1]
theorem rd_82 : RdK k82 82 (fun _ => True) := by
  intro H enc W n cs x h hb
  obtain ⟨xs, n', rfl, rfl, hl, hxl, hf⟩ := DataW.trod_struct Try.underlying82 h
  have hxl' : xs.length = 2 := hxl
  rw [cells82] at hl
  have f0 : DataW.trod enc Try.prog W 0 (fun _ => true) true n' 9 ((cs.drop 0).take (Try.prog.cellsOf 9)) = xs[0]? := hf 0 _ rfl
  have f1 : DataW.trod enc Try.prog W 0 (fun _ => true) true n' 9 ((cs.drop 1).take (Try.prog.cellsOf 9)) = xs[1]? := hf 1 _ rfl
  simp only [cells9] at f0 f1
  obtain ⟨s0, hs0, _⟩ := rd_field rd_string f0 (by omega) hb
  obtain ⟨s1, hs1, _⟩ := rd_field rd_string f1 (by omega) hb
  obtain rfl := two_cells hl hs0 hs1
  exact ⟨⟨s0, s1⟩, k82_mk W ⟨s0, s1⟩, trivial⟩
theorem rd_84 : RdK k84 84 (fun _ => True) := by
  intro H enc W n cs x h hb
  obtain ⟨xs, n', rfl, rfl, hl, hxl, hf⟩ := DataW.trod_struct Try.underlying84 h
  have hxl' : xs.length = 2 := hxl
  rw [cells84] at hl
  have f0 : DataW.trod enc Try.prog W 0 (fun _ => true) true n' 9 ((cs.drop 0).take (Try.prog.cellsOf 9)) = xs[0]? := hf 0 _ rfl
  have f1 : DataW.trod enc Try.prog W 0 (fun _ => true) true n' 3 ((cs.drop 1).take (Try.prog.cellsOf 3)) = xs[1]? := hf 1 _ rfl
  simp only [cells9, cells3] at f0 f1
  obtain ⟨s0, hs0, _⟩ := rd_field rd_string f0 (by omega) hb
  obtain ⟨s1, hs1, _⟩ := rd_field rd_int f1 (by omega) hb
  obtain rfl := two_cells hl hs0 hs1
  exact ⟨⟨s0, s1⟩, k84_mk W ⟨s0, s1⟩, trivial⟩
theorem seven_cells {cs : List Value} {a b c d e f g : Value} (hl : cs.length = 7) (h0 : (cs.drop 0).take 1 = [a]) (h1 : (cs.drop 1).take 1 = [b]) (h2 : (cs.drop 2).take 1 = [c]) (h3 : (cs.drop 3).take 1 = [d])
    (h4 : (cs.drop 4).take 1 = [e]) (h5 : (cs.drop 5).take 1 = [f]) (h6 : (cs.drop 6).take 1 = [g]) : cs = [a, b, c, d, e, f, g] := by
  match cs, hl with
  | [x0, x1, x2, x3, x4, x5, x6], _ =>
    simp only [List.drop_zero, List.drop_succ_cons, List.take_succ_cons, List.take_zero, List.cons.injEq, and_true] at h0 h1 h2 h3 h4 h5 h6
    rw [h0, h1, h2, h3, h4, h5, h6]
structure NodeIn (x : S76) : Prop where
  id : I64 x.f0
  par : I64 x.f2
  kids : ∀ z ∈ x.f5, I64 z
  n4 : x.f4.length ≤ 1048576
  n5 : x.f5.length ≤ 1048576
  n6 : x.f6.length ≤ 1048576
theorem rd_76 : RdK k76 76 NodeIn := by
  intro H enc W n cs x h hb
  obtain ⟨xs, n', rfl, rfl, hl, hxl, hf⟩ := DataW.trod_struct Try.underlying76 h
  have hxl' : xs.length = 7 := hxl
  rw [cells76] at hl
  have f0 : DataW.trod enc Try.prog W 0 (fun _ => true) true n' 3 ((cs.drop 0).take (Try.prog.cellsOf 3)) = xs[0]? := hf 0 _ rfl
  have f1 : DataW.trod enc Try.prog W 0 (fun _ => true) true n' 9 ((cs.drop 1).take (Try.prog.cellsOf 9)) = xs[1]? := hf 1 _ rfl
  have f2 : DataW.trod enc Try.prog W 0 (fun _ => true) true n' 3 ((cs.drop 2).take (Try.prog.cellsOf 3)) = xs[2]? := hf 2 _ rfl
  have f3 : DataW.trod enc Try.prog W 0 (fun _ => true) true n' 9 ((cs.drop 3).take (Try.prog.cellsOf 9)) = xs[3]? := hf 3 _ rfl
  have f4 : DataW.trod enc Try.prog W 0 (fun _ => true) true n' 73 ((cs.drop 4).take (Try.prog.cellsOf 73)) = xs[4]? := hf 4 _ rfl
  have f5 : DataW.trod enc Try.prog W 0 (fun _ => true) true n' 54 ((cs.drop 5).take (Try.prog.cellsOf 54)) = xs[5]? := hf 5 _ rfl
  have f6 : DataW.trod enc Try.prog W 0 (fun _ => true) true n' 74 ((cs.drop 6).take (Try.prog.cellsOf 74)) = xs[6]? := hf 6 _ rfl
  simp only [cells3, cells9, cells73, cells54, cells74] at f0 f1 f2 f3 f4 f5 f6
  obtain ⟨s0, hs0, h0⟩ := rd_field rd_int f0 (by omega) hb
  obtain ⟨s1, hs1, _⟩ := rd_field rd_string f1 (by omega) hb
  obtain ⟨s2, hs2, h2⟩ := rd_field rd_int f2 (by omega) hb
  obtain ⟨s3, hs3, _⟩ := rd_field rd_string f3 (by omega) hb
  obtain ⟨s4, ⟨A4, c4, hs4, hc4, g4⟩, h4, _⟩ := rd_field (rd_slice Try.underlying73 cells82 rd_82 z82 82) f4 (by omega) hb
  obtain ⟨s5, ⟨A5, c5, hs5, hc5, g5⟩, h5, h5'⟩ := rd_field (rd_slice Try.underlying54 cells3 rd_int 0 3) f5 (by omega) hb
  obtain ⟨s6, ⟨A6, c6, hs6, hc6, g6⟩, h6, _⟩ := rd_field (rd_slice Try.underlying74 cells84 rd_84 z84 84) f6 (by omega) hb
  have hcs : cs = [.int .i64 s0, .string s1, .int .i64 s2, .string s3, .slice A4 s4.length c4, .slice A5 s5.length c5, .slice A6 s6.length c6] := by
    have e0 : (cs.drop 0).take 1 = [.int .i64 s0] := hs0
    have e1 : (cs.drop 1).take 1 = [.string s1] := hs1
    have e2 : (cs.drop 2).take 1 = [.int .i64 s2] := hs2
    have e3 : (cs.drop 3).take 1 = [.string s3] := hs3
    exact seven_cells hl e0 e1 e2 e3 hs4 hs5 hs6
  refine ⟨⟨s0, s1, s2, s3, s4, s5, s6⟩, ?_, ⟨h0, h2, h5', h4, h5, h6⟩⟩
  rw [hcs]
  exact k76_mk W ⟨s0, s1, s2, s3, s4, s5, s6⟩ hc4 g4 hc5 g5 hc6 g6
structure ModelIn (m : S27) : Prop where
  nx : I64 m.f0
  n : m.f1.length ≤ 1048576
  nodes : ∀ x ∈ m.f1, NodeIn x
theorem rd_27 : RdK k27 27 ModelIn := by
  intro H enc W n cs x h hb
  obtain ⟨xs, n', rfl, rfl, hl, hxl, hf⟩ := DataW.trod_struct Try.underlying27 h
  have hxl' : xs.length = 2 := hxl
  rw [cells27] at hl
  have f0 : DataW.trod enc Try.prog W 0 (fun _ => true) true n' 3 ((cs.drop 0).take (Try.prog.cellsOf 3)) = xs[0]? := hf 0 _ rfl
  have f1 : DataW.trod enc Try.prog W 0 (fun _ => true) true n' 25 ((cs.drop 1).take (Try.prog.cellsOf 25)) = xs[1]? := hf 1 _ rfl
  simp only [cells3, cells25] at f0 f1
  obtain ⟨s0, hs0, h0⟩ := rd_field rd_int f0 (by omega) hb
  obtain ⟨s1, ⟨A1, c1, hs1, hc1, g1⟩, h1, h1'⟩ := rd_field (rd_slice Try.underlying25 cells76 rd_76 z76 76) f1 (by omega) hb
  obtain rfl := two_cells hl hs0 hs1
  exact ⟨⟨s0, s1⟩, k27_mk W ⟨s0, s1⟩ hc1 g1, ⟨h0, h1, h1'⟩⟩
theorem rd76_mem {l : List S76} {j : Nat} (hj : j < l.length) : rd_T76 l j ∈ l := by
  have : rd_T76 l j = l[j] := by simp [rd_T76, List.getD_eq_getElem?_getD, List.getElem?_eq_getElem hj]
  rw [this]; exact List.getElem_mem hj
theorem ModelIn.small {m : S27} (h : ModelIn m) : SmallL m.f1 :=
  ⟨h.n, fun _ hj => (h.nodes _ (rd76_mem hj)).n4, fun _ hj => (h.nodes _ (rd76_mem hj)).n5, fun _ hj => (h.nodes _ (rd76_mem hj)).n6⟩
theorem ModelIn.wf {m : S27} (h : ModelIn m) : WfL m.f1 := fun i hi => ⟨(h.nodes _ (rd76_mem hi)).par, fun j hj => by
  have hm := h.nodes _ (rd76_mem hi)
  refine hm.kids _ ?_
  have : rd (rd_T76 m.f1 i).f5 j = (rd_T76 m.f1 i).f5[j] := by simp [rd, List.getD_eq_getElem?_getD, List.getElem?_eq_getElem hj]
  rw [this]; exact List.getElem_mem hj⟩
end Go.Proofs.Ytlopfkkegjajlaa
namespace Go.Proofs.Ytlopfkkegjajlaa
open Go.RowKit Go.Proofs.YtlopfkkegjajlaaW.PrintWords PHistoryTouched
noncomputable def refT : List S76 → List S76 → List Int
  | [], m => m.map (·.f0)
  | x :: l, [] => (x :: l).map (·.f0)
  | x :: l, y :: m => if x.f0 < y.f0 then x.f0 :: refT l (y :: m) else if y.f0 < x.f0 then y.f0 :: refT (x :: l) m else (if tv (x = y) then [] else [x.f0]) ++ refT l m
termination_by l m => l.length + m.length
theorem refT_nil (m : List S76) : refT [] m = m.map (·.f0) := by rw [refT]
theorem refT_end (l : List S76) : refT l [] = l.map (·.f0) := by cases l with
  | nil => rw [refT]
  | cons x l => rw [refT]
def TouchPost (er : Int) (xs : List Int) (w : World) (e : Ending) (w' : World) : Prop :=
  ∃ v, e = .returned (.tuple #[v, .int .i64 er]) ∧ (Kd.int .i64).R 3 w' w.heap.size (fun _ => True) v xs ∧ Below w.heap.size w w'
theorem Boxed2.grown {w : World} {o1 o2 : Obj} {W W' : World} {row : Option Nat} (h : Boxed2 w o1 o2 W) (hg : W.grownBy W' row) (hb : Below w.heap.size w W') (h1 : some w.heap.size ≠ row) (h2 : some (w.heap.size + 1) ≠ row) : Boxed2 w o1 o2 W' :=
  ⟨hb, (hg.block _ (Array.getElem?_eq_some_iff.1 h.k1).1 h1).trans h.k1, (hg.block _ (Array.getElem?_eq_some_iff.1 h.k2).1 h2).trans h.k2⟩
structure NodeAt (W : World) (ad : Addr) (i : Nat) (n : S76) (A4 : Option Addr) (c4 : Nat) (A5 : Option Addr) (c5 : Nat) (A6 : Option Addr) (c6 : Nat) : Prop where
  y0 : W.cell? (ad.add (i * 7)) = some (.int .i64 n.f0)
  y1 : W.cell? ⟨(ad.add (i * 7)).block, (ad.add (i * 7)).off + 1, none⟩ = some (.string n.f1)
  y2 : W.cell? ⟨(ad.add (i * 7)).block, (ad.add (i * 7)).off + 2, none⟩ = some (.int .i64 n.f2)
  y3 : W.cell? ⟨(ad.add (i * 7)).block, (ad.add (i * 7)).off + 3, none⟩ = some (.string n.f3)
  y4 : W.cell? ⟨(ad.add (i * 7)).block, (ad.add (i * 7)).off + 4, none⟩ = some (.slice A4 n.f4.length c4)
  y5 : W.cell? ⟨(ad.add (i * 7)).block, (ad.add (i * 7)).off + 5, none⟩ = some (.slice A5 n.f5.length c5)
  y6 : W.cell? ⟨(ad.add (i * 7)).block, (ad.add (i * 7)).off + 6, none⟩ = some (.slice A6 n.f6.length c6)
  r : NodeR W n A4 c4 A5 c5 A6 c6
theorem nodeAt {W : World} {A : Option Addr} {xs : List S76} (h : Kd.C k76 W A xs.length xs) (i : Nat) (hi : i < xs.length) : ∃ ad A4 c4 A5 c5 A6 c6, A = some ad ∧ NodeAt W ad i (rd_T76 xs i) A4 c4 A5 c5 A6 c6 := by
  obtain ⟨ad, A4, c4, A5, c5, A6, c6, hA, y0, y1, y2, y3, y4, y5, y6, hr⟩ := node_atN h i hi
  exact ⟨ad, A4, c4, A5, c5, A6, c6, hA, y0, y1, y2, y3, y4, y5, y6, hr⟩
theorem NodeAt.below {W W' : World} {ad : Addr} {i : Nat} {n : S76} {A4 : Option Addr} {c4 : Nat} {A5 : Option Addr} {c5 : Nat} {A6 : Option Addr} {c6 : Nat} (h : NodeAt W ad i n A4 c4 A5 c5 A6 c6) (hb : Below W.heap.size W W') : NodeAt W' ad i n A4 c4 A5 c5 A6 c6 :=
  ⟨pw_cell_below hb h.y0, pw_cell_below hb h.y1, pw_cell_below hb h.y2, pw_cell_below hb h.y3, pw_cell_below hb h.y4, pw_cell_below hb h.y5, pw_cell_below hb h.y6, h.r.below hb⟩
end Go.Proofs.Ytlopfkkegjajlaa
namespace Go.Proofs.Ytlopfkkegjajlaa
open Go.Shelf
def lays189_ren : Go.Shelf.Ren := ⟨fun | 189 => 44 | 125 => 71 | 257 => 70 | 128 => 95 | 129 => 96 | 294 => 86 | 295 => 87 | 296 => 88 | 297 => 89 | 298 => 90 | 299 => 91 | 216 => 92 | 300 => 93 | 301 => 94 | 328 => 104 | 329 => 105 | 330 => 106 | 331 => 107 | 332 => 108 | 215 => 109 | 343 => 113 | n => n, fun | 28 => 54 | 3 => 3 | 46 => 114 | 0 => 0 | 51 => 134 | 53 => 136 | 4 => 4 | 183 => 127 | 182 => 126 | 131 => 99 | 5 => 5 | 9 => 9 | 218 => 140 | 222 => 144 | 228 => 149 | 229 => 62 | n => n, fun | n => n⟩
theorem lays189 : Go.Proofs.Lays.n189 Try.prog lays189_ren := {
  mixed := by kernel_rfl
  f125 := Try.func71.trans (congrArg some (by kernel_rfl))
  f128 := Try.func95.trans (congrArg some (by kernel_rfl))
  f129 := Try.func96.trans (congrArg some (by kernel_rfl))
  f189 := Try.func44.trans (congrArg some (by kernel_rfl))
  f215 := Try.func109.trans (congrArg some (by kernel_rfl))
  f216 := Try.func92.trans (congrArg some (by kernel_rfl))
  f257 := Try.func70.trans (congrArg some (by kernel_rfl))
  f294 := Try.func86.trans (congrArg some (by kernel_rfl))
  f295 := Try.func87.trans (congrArg some (by kernel_rfl))
  f296 := Try.func88.trans (congrArg some (by kernel_rfl))
  f297 := Try.func89.trans (congrArg some (by kernel_rfl))
  f298 := Try.func90.trans (congrArg some (by kernel_rfl))
  f299 := Try.func91.trans (congrArg some (by kernel_rfl))
  f300 := Try.func93.trans (congrArg some (by kernel_rfl))
  f301 := Try.func94.trans (congrArg some (by kernel_rfl))
  f328 := Try.func104.trans (congrArg some (by kernel_rfl))
  f329 := Try.func105.trans (congrArg some (by kernel_rfl))
  f330 := Try.func106.trans (congrArg some (by kernel_rfl))
  f331 := Try.func107.trans (congrArg some (by kernel_rfl))
  f332 := Try.func108.trans (congrArg some (by kernel_rfl))
  f343 := Try.func113.trans (congrArg some (by kernel_rfl))
  t0 := Try.underlying0
  a0 := Try.isAgg0
  z0 := Try.sizeOf0
  v0 := Try.zeroValue0
  t3 := Try.underlying3
  a3 := Try.isAgg3
  z3 := Try.sizeOf3
  v3 := Try.zeroValue3
  t4 := Try.underlying4
  a4 := Try.isAgg4
  z4 := Try.sizeOf4
  v4 := Try.zeroValue4
  t5 := Try.underlying5
  a5 := Try.isAgg5
  z5 := Try.sizeOf5
  v5 := Try.zeroValue5
  t9 := Try.underlying9
  a9 := Try.isAgg9
  z9 := Try.sizeOf9
  v9 := Try.zeroValue9
  t28 := Try.underlying54
  a28 := Try.isAgg54
  z28 := Try.sizeOf54
  v28 := Try.zeroValue54
  t46 := Try.underlying114
  a46 := Try.isAgg114
  z46 := Try.sizeOf114
  v46 := Try.zeroValue114
  t51 := Try.underlying134
  a51 := Try.isAgg134
  z51 := Try.sizeOf134
  v51 := Try.zeroValue134
  t53 := Try.underlying136
  a53 := Try.isAgg136
  z53 := Try.sizeOf136
  v53 := Try.zeroValue136
  t131 := Try.underlying99
  a131 := Try.isAgg99
  z131 := Try.sizeOf99
  v131 := Try.zeroValue99
  t182 := Try.underlying126
  a182 := Try.isAgg126
  z182 := Try.sizeOf126
  v182 := Try.zeroValue126
  t183 := Try.underlying127
  a183 := Try.isAgg127
  z183 := Try.sizeOf127
  v183 := Try.zeroValue127
  t218 := Try.underlying140
  a218 := Try.isAgg140
  z218 := Try.sizeOf140
  v218 := Try.zeroValue140
  t222 := Try.underlying144
  a222 := Try.isAgg144
  z222 := Try.sizeOf144
  v222 := Try.zeroValue144
  t228 := Try.underlying149
  a228 := Try.isAgg149
  z228 := Try.sizeOf149
  v228 := Try.zeroValue149
  t229 := Try.underlying62
  a229 := Try.isAgg62
  z229 := Try.sizeOf62
  v229 := Try.zeroValue62 }
open Go.Sort Go.RowKit in
theorem slices_Sort_int (blk off cap : Nat) (zs : List Int) (w : World) (hH : Holds (Value.int .i64) w blk off zs.toArray) (hblk : blk < w.heap.size) (hsz : zs.length < 4611686018427387904) :
    Calls Try.prog 44 #[.slice (some ⟨blk, off, none⟩) zs.length cap] w fun e w' =>
      e = .returned (.tuple #[]) ∧ ∃ n os, w' = grow (putRow (Value.int .i64) (Sort.ahead w n) blk off (zs.mergeSort fun x y => decide (x ≤ y)).toArray) os := Any.slices_Sort_int lays189 blk off cap zs w hH hblk hsz
theorem slices_Sort_int_none (p : Option Addr) (cap : Nat) (w : World) :
    Calls Try.prog 44 #[.slice p 0 cap] w fun e w' => e = .returned (.tuple #[]) ∧ w' = w := Any.slices_Sort_int_none lays189 p cap w
open Go.RowKit Go.Proofs.YtlopfkkegjajlaaW.PrintWords PHistoryTouched
def leI (x y : Int) : Bool := decide (x ≤ y)
theorem inner_ints {w : World} {base : Nat} {ok : Nat → Prop} {v : Value} {xs : List Int} (h : (Kd.int .i64).R 3 w base ok v xs) : w.ownsRow base 3 1 v xs.length (xs.map (Value.int .i64)) := by
  obtain ⟨_, inner, ho, hr⟩ := h
  have hi : inner = xs.map (Value.int .i64) := by
    apply List.ext_getElem?
    intro j
    have hl : inner.length = xs.length * 1 := ho.1
    by_cases hj : j < xs.length
    · have h1 : (inner.drop (j * 1)).take 1 = [Value.int .i64 xs[j]] := hr.2 j _ (List.getElem?_eq_getElem hj)
      have h2 : ((inner.drop (j * 1)).take 1)[0]? = inner[j]? := by simp [List.getElem?_drop]
      rw [h1] at h2
      rw [← h2]
      simp [hj]
    · rw [List.getElem?_eq_none (by omega), List.getElem?_eq_none (by simp; omega)]
  rw [hi] at ho
  exact ho
theorem ints_R {w : World} {base : Nat} {v : Value} {xs : List Int} (h : w.ownsRow base 3 1 v xs.length (xs.map (Value.int .i64))) : (Kd.int .i64).R 3 w base (fun _ => True) v xs := by
  refine ⟨fun _ _ => trivial, xs.map (Value.int .i64), h, by show _ = xs.length * 1; simp, fun j p hj => ?_⟩
  have hjl := (List.getElem?_eq_some_iff.1 hj).1
  have hp := (List.getElem?_eq_some_iff.1 hj).2
  show ((xs.map (Value.int .i64)).drop (j * 1)).take 1 = [Value.int .i64 p]
  rw [Nat.mul_one, List.drop_eq_getElem_cons (by simpa using hjl)]
  simp [hp]
theorem sort_any (v : Value) (xs : List Int) (base : Nat) (ok : Nat → Prop) (w : World) (h : (Kd.int .i64).R 3 w base ok v xs) (hl : xs.length ≤ 4194304) :
    Calls Try.prog 44 #[v] w fun e w' => e = .returned (.tuple #[]) ∧ (Kd.int .i64).R 3 w' base (fun _ => True) v (xs.mergeSort leI) ∧ w.grownBy w' v.ownBlock := by
  have hlen : (xs.mergeSort leI).length = xs.length := List.length_mergeSort xs
  have ho := inner_ints h
  rcases ho.2 with ⟨rfl, h0⟩ | ⟨g, cap, cur, rfl, hg, hh, hc, hm, hsz, htk⟩
  · have hx : xs = [] := List.eq_nil_of_length_eq_zero (by omega)
    subst hx
    refine (slices_Sort_int_none none 0 w).mono ?_
    rintro e w' ⟨rfl, rfl⟩
    exact ⟨rfl, by simpa using Kd.R_nil (Kd.int .i64) 3 w' base (fun _ => True), ⟨rfl, rfl, rfl, Nat.le_refl _, fun _ _ _ => rfl⟩⟩
  · refine (slices_Sort_int g 0 cap xs w (holds_of_blockI hh (by rw [Nat.mul_one] at htk; exact htk)) (Array.getElem?_eq_some_iff.1 hh).1 (by omega)).mono ?_
    rintro e w' ⟨rfl, n, os, rfl⟩
    refine ⟨rfl, ?_, grownBy_sortedI _⟩
    have h1 := ownsRow_sortedI (base := base) (n := n) (os := os) (ss := xs) (ts := xs.mergeSort leI) hlen hg hh hc hm hsz
    rw [← hlen] at h1
    have h2 := ints_R h1
    rw [hlen] at h2
    exact h2
end Go.Proofs.Ytlopfkkegjajlaa
namespace Go.Proofs.Ytlopfkkegjajlaa
open Go.RowKit Go.Maps Go.WideShapes Go.Proofs.YtlopfkkegjajlaaW.PrintWords PHistoryTouched
def RV (v : Value) : Option (DataW Value × List MemPlace) := some (.held v, [])
theorem KI : Keyed Try.prog 3 := int_keyed Try.underlying3
theorem keyI {x : Int} (h : I64 x) : keyOf Try.prog 3 (.int .i64 x) = some (.int .i64 x) := keyOf_int_mk Try.underlying3 (by
  have h1 := h.lo
  have h2 := h.hi
  simp [Lit.wf, IntKind.min, IntKind.max, IntKind.signed, IntKind.bits]
  omega)
theorem int_ne {x y : Int} (h : x ≠ y) : (Lit.int .i64 x) ≠ .int .i64 y := fun e => h (by injection e)
theorem int_key (x : Int) : WideAt.IsKeyLit (.int .i64 x) := by simp [WideAt.IsKeyLit]
structure MapIs (w : World) (D : DataW Value) (xs : List S76) : Prop where
  im : IsMap D
  has : ∀ x : Int, Maps.has D (.int .i64 x) = true ↔ ∃ n ∈ xs, n.f0 = x
  at_ : ∀ n ∈ xs, ∃ A4 c4 A5 c5 A6 c6, NodeR w n A4 c4 A5 c5 A6 c6 ∧ ∀ zd, D.atKey (.int .i64 n.f0) zd = .held (nodeV n A4 c4 A5 c5 A6 c6)
theorem MapIs.nil (w : World) : MapIs w (.map []) [] := ⟨isMap_empty, fun x => by simp [Maps.has], fun n h => by simp at h⟩
theorem MapIs.put {w : World} {D : DataW Value} {xs : List S76} (h : MapIs w D xs) {y : S76} (hne : ∀ n ∈ xs, n.f0 ≠ y.f0) {A4 : Option Addr} {c4 : Nat} {A5 : Option Addr} {c5 : Nat} {A6 : Option Addr} {c6 : Nat} (hr : NodeR w y A4 c4 A5 c5 A6 c6) :
    MapIs w (D.put (.int .i64 y.f0) (.held (nodeV y A4 c4 A5 c5 A6 c6))) (xs ++ [y]) := by
  refine ⟨h.im.put _ _, fun x => ?_, fun n hn => ?_⟩
  · by_cases hx : x = y.f0
    · subst hx
      rw [has_put_same h.im (int_key _)]
      simp
    · rw [has_put_other (int_ne hx), h.has x]
      constructor
      · rintro ⟨n, hn, e⟩; exact ⟨n, List.mem_append_left _ hn, e⟩
      · rintro ⟨n, hn, e⟩
        rcases List.mem_append.1 hn with h1 | h1
        · exact ⟨n, h1, e⟩
        · rw [List.mem_singleton.1 h1] at e; exact absurd e.symm hx
  · rcases List.mem_append.1 hn with h1 | h1
    · obtain ⟨B4, d4, B5, d5, B6, d6, g1, g2⟩ := h.at_ n h1
      exact ⟨B4, d4, B5, d5, B6, d6, g1, fun zd => by rw [atKey_put_other (int_ne (hne n h1))]; exact g2 zd⟩
    · rw [List.mem_singleton.1 h1]
      exact ⟨A4, c4, A5, c5, A6, c6, hr, fun zd => atKey_put_same h.im (int_key _) _ _⟩
theorem MapIs.del {w : World} {D : DataW Value} {xs : List S76} (h : MapIs w D xs) (x : Int) : MapIs w (D.del (.int .i64 x)) (xs.filter fun n => decide (n.f0 ≠ x)) := by
  refine ⟨h.im.del _, fun z => ?_, fun n hn => ?_⟩
  · by_cases hz : z = x
    · subst hz
      rw [has_del_same]
      constructor
      · intro h; cases h
      · rintro ⟨n, hn, e⟩
        have := (List.mem_filter.1 hn).2
        simp at this
        exact absurd e this
    · rw [has_del_other (int_ne hz), h.has z]
      constructor
      · rintro ⟨n, hn, e⟩; exact ⟨n, List.mem_filter.2 ⟨hn, by simp; omega⟩, e⟩
      · rintro ⟨n, hn, e⟩; exact ⟨n, (List.mem_filter.1 hn).1, e⟩
  · obtain ⟨h1, h2⟩ := List.mem_filter.1 hn
    have hne : n.f0 ≠ x := by simpa using h2
    obtain ⟨B4, d4, B5, d5, B6, d6, g1, g2⟩ := h.at_ n h1
    exact ⟨B4, d4, B5, d5, B6, d6, g1, fun zd => by rw [atKey_del_other (int_ne hne)]; exact g2 zd⟩
section
variable {ops : Array Oper} {rest : List Oper} {o : Oper} {a : Act} {Q : Exit → Act → World → Prop}
theorem lookup_yes (w : World) (hg : o.guard = none) (m x : Operand) (hop : o.op = Op.lookup 87 m x true) {z : Value} (hz : (zeroValue 76).run Try.prog w = .ok z w) (b n : Nat) (D : DataW Value) (hm : a.eval m = .map (some b)) (hown : w.ownsMap Try.prog 3 RV b n D)
    (key : Int) (hx : a.eval x = .int .i64 key) (hkey : I64 key) (hhas : Maps.has D (.int .i64 key) = true) {V : Value} (hat : ∀ zd, D.atKey (.int .i64 key) zd = .held V) (hK : wpList Try.prog ops Q rest (a.put o.dst (.tuple #[V, .bool true])) w) :
    wpList Try.prog ops Q (o :: rest) a w :=
  wpList_lookup_own_ok w hg m x 87 hop 3 76 KI Try.underlying87 RV hz (.held z) [] rfl b n D hm hown (.int .i64 key) (.int .i64 key) hx (keyI hkey) (fun v ps hv => by
    rw [hat] at hv
    have : v = V := (show v = V ∧ ps = [] by simpa [RV] using hv).1
    rw [this, hhas]; exact hK)
theorem lookup_no (w : World) (hg : o.guard = none) (m x : Operand) (hop : o.op = Op.lookup 87 m x true) {z : Value} (hz : (zeroValue 76).run Try.prog w = .ok z w) (b n : Nat) (D : DataW Value) (hm : a.eval m = .map (some b)) (hown : w.ownsMap Try.prog 3 RV b n D)
    (key : Int) (hx : a.eval x = .int .i64 key) (hkey : I64 key) (hhas : Maps.has D (.int .i64 key) = false) (hK : wpList Try.prog ops Q rest (a.put o.dst (.tuple #[z, .bool false])) w) :
    wpList Try.prog ops Q (o :: rest) a w :=
  wpList_lookup_own_ok w hg m x 87 hop 3 76 KI Try.underlying87 RV hz (.held z) [] rfl b n D hm hown (.int .i64 key) (.int .i64 key) hx (keyI hkey) (fun v ps hv => by
    rw [atKey_of_not_has hhas] at hv
    have : v = z := (show v = z ∧ ps = [] by simpa [RV] using hv).1
    rw [this, hhas]; exact hK)
end
theorem zero76 (w : World) : (zeroValue 76).run Try.prog w = .ok (.agg #[.int .i64 0, .string ⟨#[]⟩, .int .i64 0, .string ⟨#[]⟩, .slice none 0 0, .slice none 0 0, .slice none 0 0]) w := by kernel_rfl
theorem map_apart {w : World} {base : Nat} {ok : Nat → Prop} {v : Value} {xs : List Int} {b n : Nat} {D : DataW Value} (h : (Kd.int .i64).R 3 w base ok v xs) (hm : w.ownsMap Try.prog 3 RV b n D) : some b ≠ v.ownBlock := fun e => by
  obtain ⟨inner, ho⟩ := Kd.R_own h
  obtain ⟨cells, hc⟩ := own_typed ho b e.symm
  obtain ⟨es, clock, hb, _⟩ := hm
  rw [hb] at hc
  cases hc
def Up (l : List S76) : Prop := l.Pairwise fun a b => a.f0 < b.f0
theorem up_of_check {nx : Int} {l : List S76} (h : CheckP nx l) : Up l := by
  have hu := ids_up h.hi h.ids
  refine List.pairwise_iff_getElem.2 fun i j hi hj hij => ?_
  have e : ∀ k (hk : k < l.length), rd_T76 l k = l[k] := fun k hk => by simp [rd_T76, List.getD_eq_getElem?_getD, List.getElem?_eq_getElem hk]
  have := hu.up i j hij hj
  rw [e i hi, e j hj] at this
  exact this
theorem Up.inj {l : List S76} (h : Up l) {a b : S76} (ha : a ∈ l) (hb : b ∈ l) (e : a.f0 = b.f0) : a = b := by
  induction l with
  | nil => simp at ha
  | cons x l ih =>
    obtain ⟨h1, h2⟩ := List.pairwise_cons.1 h
    rcases List.mem_cons.1 ha with ea | ha'
    · rcases List.mem_cons.1 hb with eb | hb'
      · rw [ea, eb]
      · have := h1 b hb'; rw [ea] at e; omega
    · rcases List.mem_cons.1 hb with eb | hb'
      · have := h1 a ha'; rw [eb] at e; omega
      · exact ih h2 ha' hb'
theorem mem_refT {l m : List S76} (hl : Up l) (hm : Up m) (x : Int) : x ∈ refT l m ↔ (∃ a ∈ l, a.f0 = x ∧ a ∉ m) ∨ (∃ b ∈ m, b.f0 = x ∧ b ∉ l) := by
  induction l, m using refT.induct with
  | case1 m => rw [refT_nil]; simp
  | case2 a l => rw [refT_end]; simp [eq_comm]
  | case3 a l b m hab ih =>
    obtain ⟨l1, l2⟩ := List.pairwise_cons.1 hl
    obtain ⟨m1, m2⟩ := List.pairwise_cons.1 hm
    have ha : a ∉ b :: m := fun h => by
      rcases List.mem_cons.1 h with e | h
      · rw [e] at hab; omega
      · have := m1 a h; omega
    rw [refT, if_pos hab, List.mem_cons, ih l2 hm]
    constructor
    · rintro (rfl | ⟨c, hc, e, hn⟩ | ⟨c, hc, e, hn⟩)
      · exact .inl ⟨a, List.mem_cons_self, rfl, ha⟩
      · exact .inl ⟨c, List.mem_cons_of_mem _ hc, e, hn⟩
      · exact .inr ⟨c, hc, e, fun h => by
          rcases List.mem_cons.1 h with e' | h
          · rw [e'] at hc; exact ha hc
          · exact hn h⟩
    · rintro (⟨c, hc, e, hn⟩ | ⟨c, hc, e, hn⟩)
      · rcases List.mem_cons.1 hc with e' | hc
        · rw [e'] at e; exact .inl e.symm
        · exact .inr (.inl ⟨c, hc, e, hn⟩)
      · exact .inr (.inr ⟨c, hc, e, fun h => hn (List.mem_cons_of_mem _ h)⟩)
  | case4 a l b m hab hba ih =>
    obtain ⟨l1, l2⟩ := List.pairwise_cons.1 hl
    obtain ⟨m1, m2⟩ := List.pairwise_cons.1 hm
    have hb : b ∉ a :: l := fun h => by
      rcases List.mem_cons.1 h with e | h
      · rw [e] at hba; omega
      · have := l1 b h; omega
    rw [refT, if_neg hab, if_pos hba, List.mem_cons, ih hl m2]
    constructor
    · rintro (rfl | ⟨c, hc, e, hn⟩ | ⟨c, hc, e, hn⟩)
      · exact .inr ⟨b, List.mem_cons_self, rfl, hb⟩
      · exact .inl ⟨c, hc, e, fun h => by
          rcases List.mem_cons.1 h with e' | h
          · rw [e'] at hc; exact hb hc
          · exact hn h⟩
      · exact .inr ⟨c, List.mem_cons_of_mem _ hc, e, hn⟩
    · rintro (⟨c, hc, e, hn⟩ | ⟨c, hc, e, hn⟩)
      · exact .inr (.inl ⟨c, hc, e, fun h => hn (List.mem_cons_of_mem _ h)⟩)
      · rcases List.mem_cons.1 hc with e' | hc
        · rw [e'] at e; exact .inl e.symm
        · exact .inr (.inr ⟨c, hc, e, hn⟩)
  | case5 a l b m hab hba ih =>
    obtain ⟨l1, l2⟩ := List.pairwise_cons.1 hl
    obtain ⟨m1, m2⟩ := List.pairwise_cons.1 hm
    have hid : a.f0 = b.f0 := by omega
    have hal : a ∉ m := fun h => by have := m1 a h; omega
    have hbl : b ∉ l := fun h => by have := l1 b h; omega
    rw [refT, if_neg hab, if_neg hba, List.mem_append, ih l2 m2]
    by_cases hs : a = b
    · rw [tv_yes hs, if_pos rfl]
      subst hs
      constructor
      · rintro (h | ⟨c, hc, e, hn⟩ | ⟨c, hc, e, hn⟩)
        · simp at h
        · exact .inl ⟨c, List.mem_cons_of_mem _ hc, e, fun h => by
            rcases List.mem_cons.1 h with e' | h
            · rw [e'] at hc; exact hbl hc
            · exact hn h⟩
        · exact .inr ⟨c, List.mem_cons_of_mem _ hc, e, fun h => by
            rcases List.mem_cons.1 h with e' | h
            · rw [e'] at hc; exact hal hc
            · exact hn h⟩
      · rintro (⟨c, hc, e, hn⟩ | ⟨c, hc, e, hn⟩)
        · rcases List.mem_cons.1 hc with e' | hc
          · exact absurd (by rw [e']; exact List.mem_cons_self) hn
          · exact .inr (.inl ⟨c, hc, e, fun h => hn (List.mem_cons_of_mem _ h)⟩)
        · rcases List.mem_cons.1 hc with e' | hc
          · exact absurd (by rw [e']; exact List.mem_cons_self) hn
          · exact .inr (.inr ⟨c, hc, e, fun h => hn (List.mem_cons_of_mem _ h)⟩)
    · rw [tv_no hs]
      have ha : a ∉ b :: m := fun h => by
        rcases List.mem_cons.1 h with e | h
        · exact hs e
        · exact hal h
      constructor
      · rintro (h | ⟨c, hc, e, hn⟩ | ⟨c, hc, e, hn⟩)
        · have h' : x = a.f0 := by simpa using h
          exact .inl ⟨a, List.mem_cons_self, h'.symm, ha⟩
        · exact .inl ⟨c, List.mem_cons_of_mem _ hc, e, fun h => by
            rcases List.mem_cons.1 h with e' | h
            · rw [e'] at hc; exact hbl hc
            · exact hn h⟩
        · exact .inr ⟨c, List.mem_cons_of_mem _ hc, e, fun h => by
            rcases List.mem_cons.1 h with e' | h
            · rw [e'] at hc; exact hal hc
            · exact hn h⟩
      · rintro (⟨c, hc, e, hn⟩ | ⟨c, hc, e, hn⟩)
        · rcases List.mem_cons.1 hc with e' | hc
          · rw [e'] at e; exact .inl (by simp [e])
          · exact .inr (.inl ⟨c, hc, e, fun h => hn (List.mem_cons_of_mem _ h)⟩)
        · rcases List.mem_cons.1 hc with e' | hc
          · rw [e', ← hid] at e; exact .inl (by simp [e])
          · exact .inr (.inr ⟨c, hc, e, fun h => hn (List.mem_cons_of_mem _ h)⟩)
theorem refT_up {l m : List S76} (hl : Up l) (hm : Up m) : (refT l m).Pairwise (· < ·) ∧ (∀ x ∈ refT l m, ∃ n, (n ∈ l ∨ n ∈ m) ∧ n.f0 = x) := by
  have hx : ∀ l m : List S76, Up l → Up m → ∀ x ∈ refT l m, ∃ n, (n ∈ l ∨ n ∈ m) ∧ n.f0 = x := fun l m hl hm x h => by
    rcases (mem_refT hl hm x).1 h with ⟨a, ha, e, _⟩ | ⟨a, ha, e, _⟩
    · exact ⟨a, .inl ha, e⟩
    · exact ⟨a, .inr ha, e⟩
  refine ⟨?_, hx l m hl hm⟩
  induction l, m using refT.induct with
  | case1 m => rw [refT_nil]; exact List.pairwise_map.2 hm
  | case2 a l => rw [refT_end]; exact List.pairwise_map.2 hl
  | case3 a l b m hab ih =>
    obtain ⟨l1, l2⟩ := List.pairwise_cons.1 hl
    obtain ⟨m1, m2⟩ := List.pairwise_cons.1 hm
    rw [refT, if_pos hab]
    refine List.pairwise_cons.2 ⟨fun x h => ?_, ih l2 hm⟩
    obtain ⟨n, h1 | h1, rfl⟩ := hx _ _ l2 hm x h
    · exact l1 n h1
    · rcases List.mem_cons.1 h1 with rfl | h1
      · exact hab
      · have := m1 n h1; omega
  | case4 a l b m hab hba ih =>
    obtain ⟨l1, l2⟩ := List.pairwise_cons.1 hl
    obtain ⟨m1, m2⟩ := List.pairwise_cons.1 hm
    rw [refT, if_neg hab, if_pos hba]
    refine List.pairwise_cons.2 ⟨fun x h => ?_, ih hl m2⟩
    obtain ⟨n, h1 | h1, rfl⟩ := hx _ _ hl m2 x h
    · rcases List.mem_cons.1 h1 with rfl | h1
      · exact hba
      · have := l1 n h1; omega
    · exact m1 n h1
  | case5 a l b m hab hba ih =>
    obtain ⟨l1, l2⟩ := List.pairwise_cons.1 hl
    obtain ⟨m1, m2⟩ := List.pairwise_cons.1 hm
    rw [refT, if_neg hab, if_neg hba]
    refine List.pairwise_append.2 ⟨?_, ih l2 m2, fun x h y h' => ?_⟩
    · split
      · exact List.Pairwise.nil
      · exact List.pairwise_singleton _ _
    · have hxe : x = a.f0 := by
        split at h
        · simp at h
        · simpa using h
      obtain ⟨n, h1 | h1, rfl⟩ := hx _ _ l2 m2 y h'
      · have := l1 n h1; omega
      · have := m1 n h1; omega
theorem sort_of_perm {l l' : List Int} (h : l.Perm l') : l.mergeSort leI = l'.mergeSort leI := by
  have tr : ∀ a b c : Int, leI a b = true → leI b c = true → leI a c = true := fun a b c h1 h2 => by simp only [leI, decide_eq_true_eq] at *; omega
  have tot : ∀ a b : Int, (leI a b || leI b a) = true := fun a b => by simp only [leI, Bool.or_eq_true, decide_eq_true_eq]; omega
  refine List.Perm.eq_of_pairwise (le := fun a b => leI a b = true) (fun a b _ _ h1 h2 => ?_) (List.pairwise_mergeSort tr tot l) (List.pairwise_mergeSort tr tot l') (((List.mergeSort_perm l leI).trans h).trans (List.mergeSort_perm l' leI).symm)
  simp only [leI, decide_eq_true_eq] at h1 h2
  omega
theorem sort_up {l : List Int} (h : l.Pairwise (· < ·)) : l.mergeSort leI = l := by
  have tr : ∀ a b c : Int, leI a b = true → leI b c = true → leI a c = true := fun a b c h1 h2 => by simp only [leI, decide_eq_true_eq] at *; omega
  have tot : ∀ a b : Int, (leI a b || leI b a) = true := fun a b => by simp only [leI, Bool.or_eq_true, decide_eq_true_eq]; omega
  refine List.Perm.eq_of_pairwise (le := fun a b => leI a b = true) (fun a b _ _ h1 h2 => ?_) (List.pairwise_mergeSort tr tot l) (h.imp fun {a b} hab => by simp only [leI, decide_eq_true_eq]; omega) (List.mergeSort_perm l leI)
  simp only [leI, decide_eq_true_eq] at h1 h2
  omega
noncomputable def outB (l m : List S76) : List Int := (m.filter fun y => !tv (y ∈ l)).map (·.f0)
theorem outB_snoc (l m : List S76) (y : S76) : outB l (m ++ [y]) = outB l m ++ (if tv (y ∈ l) then [] else [y.f0]) := by
  unfold outB
  rw [List.filter_append, List.map_append]
  congr 1
  cases h : tv (y ∈ l) <;> simp [h]
theorem touched_law {l m : List S76} (hl : Up l) (hm : Up m) {got : List Int} (hn : got.Nodup) (hg : ∀ x, x ∈ got ↔ ∃ a ∈ l, a.f0 = x ∧ ∀ b ∈ m, b.f0 ≠ x) : (outB l m ++ got).mergeSort leI = refT l m := by
  have hmem : ∀ x, x ∈ outB l m ↔ ∃ b ∈ m, b.f0 = x ∧ b ∉ l := fun x => by
    unfold outB
    rw [List.mem_map]
    constructor
    · rintro ⟨b, hb, rfl⟩
      obtain ⟨h1, h2⟩ := List.mem_filter.1 hb
      exact ⟨b, h1, rfl, by simpa [tv_niff] using h2⟩
    · rintro ⟨b, hb, rfl, h2⟩
      exact ⟨b, List.mem_filter.2 ⟨hb, by simp [tv_no h2]⟩, rfl⟩
  have hnd : (outB l m ++ got).Nodup := by
    refine List.nodup_append.2 ⟨?_, hn, fun x h1 y h2 e => ?_⟩
    · unfold outB
      refine List.pairwise_map.2 (List.Pairwise.imp ?_ (List.Pairwise.filter _ hm))
      intro a b hab e
      omega
    · obtain ⟨b, hb, e1, _⟩ := (hmem x).1 h1
      obtain ⟨a, _, _, h3⟩ := (hg y).1 h2
      exact h3 b hb (e1.trans e)
  have hup := (refT_up hl hm).1
  have hp : (outB l m ++ got).Perm (refT l m) := by
    refine (List.perm_ext_iff_of_nodup hnd (hup.imp fun {a b} h e => by omega)).2 fun x => ?_
    rw [List.mem_append, hmem x, hg x, mem_refT hl hm x]
    constructor
    · rintro (h | ⟨a, ha, e, hb⟩)
      · exact .inr h
      · exact .inl ⟨a, ha, e, fun h => hb a h e⟩
    · rintro (⟨a, ha, e, hn⟩ | h)
      · by_cases hb : ∃ b ∈ m, b.f0 = x
        · obtain ⟨b, hb, eb⟩ := hb
          refine .inl ⟨b, hb, eb, fun h => ?_⟩
          have := hl.inj h ha (eb.trans e.symm)
          rw [this] at hb
          exact hn hb
        · exact .inr ⟨a, ha, e, fun b hb' e' => hb ⟨b, hb', e'⟩⟩
      · exact .inl h
  rw [sort_of_perm hp, sort_up hup]
end Go.Proofs.Ytlopfkkegjajlaa
