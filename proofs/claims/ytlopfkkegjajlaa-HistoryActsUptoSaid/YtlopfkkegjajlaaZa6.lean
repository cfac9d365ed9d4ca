/- Texts of this proof and of the kit's print for this seat, gathered by wip/shake.py: only what the proof reaches. -/
import Derived.Test.YtlopfkkegjajlaaZa5
import Derived.Deep.Slices
import Derived.ProofKit
namespace Go.Proofs.Ytlopfkkegjajlaa
open Go.RowKit Go.Proofs.YtlopfkkegjajlaaW.PrintWords PHistoryTouched
structure RightP (nx : Int) (l : List S76) : Prop where
  lo : 1 ≤ nx
  hi : nx ≤ 1048577
  len : l.length ≤ 4096
  ids : ∀ i : Nat, i < l.length → prevId l i < (rd_T76 l i).f0 ∧ (rd_T76 l i).f0 < nx
  plain : ∀ i : Nat, i < l.length → PlainP nx l (rd_T76 l i)
  below : ∀ i : Nat, i < l.length → BelowD l 64 (rd_T76 l i)
structure Boxed1 (w : World) (o : Obj) (W : World) : Prop where
  b : Below w.heap.size w W
  k1 : W.heap[w.heap.size]? = some o
theorem Boxed1.below {w : World} {o : Obj} {W W' : World} (h : Boxed1 w o W) (hb : Below W.heap.size W W') : Boxed1 w o W' := ⟨below_step h.b hb, blk_below h.k1 hb⟩
set_option maxRecDepth 100000 in
set_option maxHeartbeats 40000000 in
theorem right_any (nx : Int) (l : List S76) (A : Option Addr) (c : Nat) (w : World) (hr : Kd.C k76 w A l.length l) (hc : l.length ≤ c) :
    Calls Try.prog 39 #[.agg #[.int .i64 nx, .slice A l.length c]] w fun e w' => e = .returned (.bool (tv (RightP nx l))) ∧ Below w.heap.size w w' := by
  have HR : Hid (Kd.C k76 w A l.length l) := hr
  have HC : Hid (l.length ≤ c) := hc
  have hmx := hr.2.1
  have HW : Hid (Boxed1 w (.cells #[.int .i64 nx, .slice A l.length c] 27) (w.alloc (.cells #[.int .i64 nx, .slice A l.length c] 27))) := ⟨below_alloc (Below.refl _ _) _, blk_new _ _⟩
  generalize htv : tv (RightP nx l) = r
  have HT : Hid (tv (RightP nx l) = r) := htv
  have NO : Hid (¬ RightP nx l → r = false) := fun h => by rw [← HT.out]; exact tv_no h
  clear hr hc htv
  have q0 : (w.alloc (.cells #[.int .i64 nx, .slice A l.length c] 27)).cell? ⟨w.heap.size, 0, none⟩ = some (.int .i64 nx) := blk_cell HW.out.k1 0
  have q1 : (w.alloc (.cells #[.int .i64 nx, .slice A l.length c] 27)).cell? ⟨w.heap.size, 1, none⟩ = some (.slice A l.length c) := blk_cell HW.out.k1 1
  by_cases h1 : 1 ≤ nx
  case neg =>
    have hr : Hid (r = false) := NO.out (fun h => h1 h.lo)
    have d1 : decide (nx < 1) = true := by simp; omega
    clear h1
    go_enter Try.func39, Try.ntmps39
    go_wp2_with fail
    go_ret
    exact ⟨by rw [hr.out]; rfl, HW.out.b⟩
  have d1 : decide (nx < 1) = false := by simp; omega
  by_cases h2 : nx ≤ 1048577
  case neg =>
    have hr : Hid (r = false) := NO.out (fun h => h2 h.hi)
    have d2 : decide (1048577 < nx) = true := by simp; omega
    clear h1 h2
    go_enter Try.func39, Try.ntmps39
    go_wp2_with fail
    go_ret
    exact ⟨by rw [hr.out]; rfl, HW.out.b⟩
  have d2 : decide (1048577 < nx) = false := by simp; omega
  by_cases h3 : l.length ≤ 4096
  case neg =>
    have hr : Hid (r = false) := NO.out (fun h => h3 h.len)
    have d3 : decide ((4096 : Int) < (l.length : Int)) = true := by simp; omega
    have d4 : decide (4096 < l.length) = true := by simp; omega
    clear h1 h2 h3
    go_enter Try.func39, Try.ntmps39
    go_wp2_with fail
    go_ret
    exact ⟨by rw [hr.out]; rfl, HW.out.b⟩
  have d3 : decide ((4096 : Int) < (l.length : Int)) = false := by simp; omega
  have d4 : decide (4096 < l.length) = false := by simp; omega
  go_enter Try.func39, Try.ntmps39
  go_wp2_with fail
  clear q0 q1 d1 d2 d3 d4
  generalize (w.alloc (.cells #[.int .i64 nx, .slice A l.length c] 27)) = W0 at HW ⊢
  go_loopw [3] (fun i W => ∃ k : Nat, k ≤ l.length ∧ i = .int .i64 k ∧ Hid (Boxed1 w (.cells #[.int .i64 nx, .slice A l.length c] 27) W) ∧ Hid (∀ j : Nat, j < k → prevId l j < (rd_T76 l j).f0 ∧ (rd_T76 l j).f0 < nx)) (fun i _ => l.length - (intOf i).toNat)
  case atStart => exact ⟨0, Nat.zero_le _, rfl, HW, fun j hj => by omega⟩
  case round =>
    obtain ⟨k, hk, rfl, HB, HF⟩ := hrel
    have t1 : wr.cell? ⟨w.heap.size, 1, none⟩ = some (.slice A l.length c) := blk_cell HB.out.k1 1
    by_cases hlt : k < l.length
    · obtain ⟨ad, B4, e4, B5, e5, B6, e6, hade, z0, _, _, _, _, _, _, _⟩ := node_atN (Kd.C_below HR.out HB.out.b) k hlt
      have hA : A = some ad := hade
      subst hA
      clear hade
      have Y : Hid (0 < k → wr.cell? (ad.add ((k - 1) * 7)) = some (.int .i64 (rd_T76 l (k - 1 : Nat)).f0)) := fun h => by
        obtain ⟨ad', _, _, _, _, _, _, e', y0, _⟩ := node_atN (Kd.C_below HR.out HB.out.b) (k - 1) (by omega)
        injection e' with e'
        subst e'
        exact y0
      have BAD : Hid (¬ (prevId l k < (rd_T76 l k).f0 ∧ (rd_T76 l k).f0 < nx) → r = false) := fun h => NO.out (fun hp => h (hp.ids k hlt))
      have STEP : Hid ((prevId l k < (rd_T76 l k).f0 ∧ (rd_T76 l k).f0 < nx) → ∀ j : Nat, j < k + 1 → prevId l j < (rd_T76 l j).f0 ∧ (rd_T76 l j).f0 < nx) := fun h j hj => by
        rcases Nat.lt_or_ge j k with h2 | h2
        · exact HF.out j h2
        · obtain rfl : j = k := by omega
          exact h
      have LO : Hid (prevId l k < (rd_T76 l k).f0 → 1 ≤ (rd_T76 l k).f0) := fun h => by
        rcases Nat.eq_zero_or_pos k with e | e
        · subst e; rw [prevId_zero] at h; omega
        · have h2 := (HF.out (k - 1) (by omega)).1
          have h3 : ∀ i : Nat, i < k → 1 ≤ (rd_T76 l i).f0 := by
            intro i
            induction i with
            | zero => intro h0; have := (HF.out 0 h0).1; rw [prevId_zero] at this; omega
            | succ i ih =>
              intro h0
              have h4 := ih (by omega)
              have h5 := (HF.out (i + 1) h0).1
              rw [prevId_succ] at h5
              omega
          have h4 := h3 (k - 1) (by omega)
          unfold prevId at h
          rw [if_neg (by omega)] at h
          omega
      have P0 : Hid (k = 0 → prevId l k = 0) := fun h => by rw [h]; rfl
      have P1 : Hid (0 < k → prevId l k = (rd_T76 l (k - 1 : Nat)).f0) := fun h => by unfold prevId; rw [if_neg (by omega)]
      have hk0 : (0 : Int) ≤ (k : Int) := by omega
      have hk1 : (k : Int) < (l.length : Int) := by omega
      have s0 : ∀ x : BW wr, x.1.cell? ⟨w.heap.size, 0, none⟩ = some (.int .i64 nx) := bw_cell (blk_cell HB.out.k1 0)
      have s1 : ∀ x : BW wr, x.1.cell? ⟨w.heap.size, 1, none⟩ = some (.slice (some ad) l.length c) := bw_cell (blk_cell HB.out.k1 1)
      have s2 : ∀ x : BW wr, x.1.cell? (ad.add (k * 7)) = some (.int .i64 (rd_T76 l k).f0) := bw_cell z0
      clear z0 HF
      generalize (rd_T76 l k).f0 = id at *
      go_wp2_with fail
      clear t1
      by_cases hi1 : 1 ≤ id
      case neg =>
        have hr : Hid (r = false) := BAD.out (fun h => hi1 (LO.out h.1))
        have d1 : decide (id < 1) = true := by simp; omega
        clear hi1 BAD STEP LO P0 P1 Y
        refine wp_region_bw (by kernel_rfl) (by kernel_rfl) ?_
        repeat (go_big_quiet_step (fail))
        refine wpQuiet_nil ?_
        rintro _ ⟨x, rfl⟩
        have HB4 := hidm (HB.out.below x.2)
        clear HB s0 s1 s2
        obtain ⟨w4, hw4⟩ := x
        dsimp only at HB4 ⊢
        clear hw4
        go_wp2_with fail
        go_ret
        exact ⟨by rw [hr.out]; rfl, HB4.out.b⟩
      have d1 : decide (id < 1) = false := by simp; omega
      by_cases hi2 : id < nx
      case neg =>
        have hr : Hid (r = false) := BAD.out (fun h => hi2 h.2)
        have d2 : decide (nx ≤ id) = true := by simp; omega
        clear hi1 hi2 BAD STEP LO P0 P1 Y
        refine wp_region_bw (by kernel_rfl) (by kernel_rfl) ?_
        repeat (go_big_quiet_step (fail))
        refine wpQuiet_nil ?_
        rintro _ ⟨x, rfl⟩
        have HB4 := hidm (HB.out.below x.2)
        clear HB s0 s1 s2
        obtain ⟨w4, hw4⟩ := x
        dsimp only at HB4 ⊢
        clear hw4
        go_wp2_with fail
        go_ret
        exact ⟨by rw [hr.out]; rfl, HB4.out.b⟩
      have d2 : decide (nx ≤ id) = false := by simp; omega
      rcases Nat.eq_zero_or_pos k with hkz | hkz
      · have HO : Hid (prevId l k < id ∧ id < nx) := ⟨by rw [P0.out hkz]; omega, hi2⟩
        have hk2 : decide ((0 : Int) < (k : Int)) = false := by simp; omega
        have hk3 : decide (0 < k) = false := by simp; omega
        have K0 : Hid (k = 0) := hkz
        have hk4 : k ≤ 0 := by omega
        clear hi1 hi2 BAD LO P0 P1 Y hkz
        refine wp_region_bw (by kernel_rfl) (by kernel_rfl) ?_
        repeat (go_big_quiet_step (fail))
        refine wpQuiet_nil ?_
        rintro _ ⟨x, rfl⟩
        have HB4 := hidm (HB.out.below x.2)
        clear HB s0 s1 s2
        obtain ⟨w4, hw4⟩ := x
        dsimp only at HB4 ⊢
        clear hw4
        go_wp2_with fail
        go_roundw
        case rel => exact ⟨k + 1, by omega, by go_num, HB4, STEP.out HO.out⟩
        case measure => simp [intOf]; omega
      · obtain ⟨j, hj⟩ : ∃ j, j = k - 1 := ⟨_, rfl⟩
        have hk2 : decide ((0 : Int) < (k : Int)) = true := by simp; omega
        have hk3 : decide (0 < k) = true := by simp; omega
        have hj0 : (0 : Int) ≤ (j : Int) := by omega
        have hj1 : (j : Int) < (l.length : Int) := by omega
        have hw1 : IntKind.i64.wrap ((k : Int) - 1) = (j : Int) := by rw [show (k : Int) - 1 = (j : Int) by omega]; exact IntWalk.i64_in _ (by omega)
        have HQ : Hid (wr.cell? (ad.add (j * 7)) = some (.int .i64 (rd_T76 l (j : Nat)).f0)) := by have := Y.out hkz; rw [← hj] at this; exact this
        have PE : Hid (prevId l k = (rd_T76 l (j : Nat)).f0) := by have := P1.out hkz; rw [← hj] at this; exact this
        have HJ : Hid (j = k - 1 ∧ 0 < k) := ⟨hj, hkz⟩
        clear hj hkz Y P0 P1
        generalize (rd_T76 l (j : Int)).f0 = pid at *
        have s3 : ∀ x : BW wr, x.1.cell? (ad.add (j * 7)) = some (.int .i64 pid) := bw_cell HQ.out
        by_cases hle : id ≤ pid
        · have hr : Hid (r = false) := BAD.out (fun h => by have h1 := h.1; rw [PE.out] at h1; omega)
          have d3 : decide (id ≤ pid) = true := by simp; omega
          clear hi1 hi2 hle BAD STEP LO PE HQ
          refine wp_region_bw (by kernel_rfl) (by kernel_rfl) ?_
          repeat (go_big_quiet_step (fail))
          refine wpQuiet_nil ?_
          rintro _ ⟨x, rfl⟩
          have HB4 := hidm (HB.out.below x.2)
          clear HB s0 s1 s2 s3
          obtain ⟨w4, hw4⟩ := x
          dsimp only at HB4 ⊢
          clear hw4
          go_wp2_with fail
          go_ret
          exact ⟨by rw [hr.out]; rfl, HB4.out.b⟩
        · have HO : Hid (prevId l k < id ∧ id < nx) := ⟨by rw [PE.out]; omega, hi2⟩
          have d3 : decide (id ≤ pid) = false := by simp; omega
          clear hi1 hi2 hle BAD LO PE HQ
          refine wp_region_bw (by kernel_rfl) (by kernel_rfl) ?_
          repeat (go_big_quiet_step (fail))
          refine wpQuiet_nil ?_
          rintro _ ⟨x, rfl⟩
          have HB4 := hidm (HB.out.below x.2)
          clear HB s0 s1 s2 s3
          obtain ⟨w4, hw4⟩ := x
          dsimp only at HB4 ⊢
          clear hw4
          go_wp2_with fail
          go_roundw
          case rel => exact ⟨k + 1, by omega, by go_num, HB4, STEP.out HO.out⟩
          case measure => simp [intOf]; omega
    · have HIDS : Hid (∀ j : Nat, j < l.length → prevId l j < (rd_T76 l j).f0 ∧ (rd_T76 l j).f0 < nx) := fun j hj => HF.out j (by omega)
      have HS : Hid (IdsUp l) := ids_up h2 HIDS.out
      have HW : Hid (Boxed1 w (.cells #[.int .i64 nx, .slice A l.length c] 27) wr) := HB
      clear HB HF
      go_wp2_with fail
      clear t1
      obtain ⟨wo, rfl⟩ : ∃ wo : World, wo = wr := ⟨_, rfl⟩
      go_loopw [4] (fun i W => ∃ k : Nat, k ≤ l.length ∧ i = .int .i64 k ∧ Hid (Boxed1 w (.cells #[.int .i64 nx, .slice A l.length c] 27) W) ∧ Hid (∀ j : Nat, j < k → PlainP nx l (rd_T76 l j) ∧ BelowD l 64 (rd_T76 l j))) (fun i _ => l.length - (intOf i).toNat)
      case atStart => exact ⟨0, Nat.zero_le _, rfl, HW, fun j hj => by omega⟩
      case round =>
        clear HW
        obtain ⟨k, hk, rfl, HB, HF⟩ := hrel
        have t1 : wr.cell? ⟨w.heap.size, 1, none⟩ = some (.slice A l.length c) := blk_cell HB.out.k1 1
        by_cases hlt : k < l.length
        · obtain ⟨ad, B4, e4, B5, e5, B6, e6, hade, z0, z1, z2, z3, z4, z5, z6, hn⟩ := node_atN (Kd.C_below HR.out HB.out.b) k hlt
          have hA : A = some ad := hade
          subst hA
          clear hade
          have HNR : Hid (NodeR wr (rd_T76 l k) B4 e4 B5 e5 B6 e6) := hn
          have STEP : Hid (PlainP nx l (rd_T76 l k) ∧ BelowD l 64 (rd_T76 l k) → ∀ j : Nat, j < k + 1 → PlainP nx l (rd_T76 l j) ∧ BelowD l 64 (rd_T76 l j)) := fun h j hj => by
            rcases Nat.lt_or_ge j k with h2 | h2
            · exact HF.out j h2
            · obtain rfl : j = k := by omega
              exact h
          have BADP : Hid (¬ PlainP nx l (rd_T76 l k) → r = false) := fun h => NO.out (fun hp => h (hp.plain k hlt))
          have BADB : Hid (¬ BelowD l 64 (rd_T76 l k) → r = false) := fun h => NO.out (fun hp => h (hp.below k hlt))
          have HKL : Hid (∀ p : Nat, p < l.length → (rd_T76 l p).f5.length ≤ 9223372036854775807) := fun p hp => by
            obtain ⟨_, _, _, _, _, _, _, _, _, _, _, _, _, _, _, hn⟩ := node_atN HR.out p hp
            exact hn.r5.2.1
          have HCP : Hid (∀ x : BW wr, Calls Try.prog 68 #[.agg #[.int .i64 nx, .slice (some ad) l.length c], nodeV (rd_T76 l k) B4 e4 B5 e5 B6 e6] x.1 fun e w' => e = .returned (.bool (tv (PlainP nx l (rd_T76 l k)))) ∧ Below x.1.heap.size x.1 w') := fun x =>
            plain_any nx l (some ad) c (rd_T76 l k) B4 B5 B6 e4 e5 e6 x.1 (Kd.C_below HR.out (below_step HB.out.b x.2)) HC.out (HNR.out.below x.2) HS.out h3
          have HCB : Hid (∀ x : BW wr, Calls Try.prog 69 #[.agg #[.int .i64 nx, .slice (some ad) l.length c], nodeV (rd_T76 l k) B4 e4 B5 e5 B6 e6] x.1 fun e w' => e = .returned (.bool (tv (BelowD l 64 (rd_T76 l k)))) ∧ Below x.1.heap.size x.1 w') := fun x =>
            refBelow_any nx l (some ad) c (rd_T76 l k) B4 B5 B6 e4 e5 e6 x.1 (Kd.C_below HR.out (below_step HB.out.b x.2)) HC.out (HNR.out.below x.2) HS.out (by omega) HKL.out
          have hk0 : (0 : Int) ≤ (k : Int) := by omega
          have hk1 : (k : Int) < (l.length : Int) := by omega
          have s0 : ∀ x : BW wr, x.1.cell? ⟨w.heap.size, 0, none⟩ = some (.int .i64 nx) := bw_cell (blk_cell HB.out.k1 0)
          have s1 : ∀ x : BW wr, x.1.cell? ⟨w.heap.size, 1, none⟩ = some (.slice (some ad) l.length c) := bw_cell (blk_cell HB.out.k1 1)
          have y0 : ∀ x : BW wr, x.1.cell? (ad.add (k * 7)) = some (.int .i64 (rd_T76 l k).f0) := bw_cell z0
          have y1 : ∀ x : BW wr, x.1.cell? ⟨(ad.add (k * 7)).block, (ad.add (k * 7)).off + 1, none⟩ = some (.string (rd_T76 l k).f1) := bw_cell z1
          have y2 : ∀ x : BW wr, x.1.cell? ⟨(ad.add (k * 7)).block, (ad.add (k * 7)).off + 2, none⟩ = some (.int .i64 (rd_T76 l k).f2) := bw_cell z2
          have y3 : ∀ x : BW wr, x.1.cell? ⟨(ad.add (k * 7)).block, (ad.add (k * 7)).off + 3, none⟩ = some (.string (rd_T76 l k).f3) := bw_cell z3
          have y4 : ∀ x : BW wr, x.1.cell? ⟨(ad.add (k * 7)).block, (ad.add (k * 7)).off + 4, none⟩ = some (.slice B4 (rd_T76 l k).f4.length e4) := bw_cell z4
          have y5 : ∀ x : BW wr, x.1.cell? ⟨(ad.add (k * 7)).block, (ad.add (k * 7)).off + 5, none⟩ = some (.slice B5 (rd_T76 l k).f5.length e5) := bw_cell z5
          have y6 : ∀ x : BW wr, x.1.cell? ⟨(ad.add (k * 7)).block, (ad.add (k * 7)).off + 6, none⟩ = some (.slice B6 (rd_T76 l k).f6.length e6) := bw_cell z6
          clear z0 z1 z2 z3 z4 z5 z6 hn HF HKL
          go_wp2_with fail
          clear t1
          by_cases hpl : PlainP nx l (rd_T76 l k)
          · rw [tv_yes hpl] at HCP
            by_cases hbe : BelowD l 64 (rd_T76 l k)
            · rw [tv_yes hbe] at HCB
              have HO : Hid (PlainP nx l (rd_T76 l k) ∧ BelowD l 64 (rd_T76 l k)) := ⟨hpl, hbe⟩
              clear hpl hbe BADP BADB
              refine wp_region_bw (by kernel_rfl) (by kernel_rfl) ?_
              repeat (go_big_quiet_step (first | (go_at_call 68; exact calls_bw (HCP.out _)) | (go_at_call 69; exact calls_bw (HCB.out _))))
              refine wpQuiet_nil ?_
              rintro _ ⟨x, rfl⟩
              have HB4 := hidm (HB.out.below x.2)
              clear HB HCP HCB s0 s1 y0 y1 y2 y3 y4 y5 y6 HNR
              obtain ⟨w4, hw4⟩ := x
              dsimp only at HB4 ⊢
              clear hw4
              go_wp2_with fail
              go_roundw
              case rel => exact ⟨k + 1, by omega, by go_num, HB4, STEP.out HO.out⟩
              case measure => simp [intOf]; omega
            · rw [tv_no hbe] at HCB
              have hr : Hid (r = false) := BADB.out hbe
              clear hpl hbe BADP BADB STEP
              refine wp_region_bw (by kernel_rfl) (by kernel_rfl) ?_
              repeat (go_big_quiet_step (first | (go_at_call 68; exact calls_bw (HCP.out _)) | (go_at_call 69; exact calls_bw (HCB.out _))))
              refine wpQuiet_nil ?_
              rintro _ ⟨x, rfl⟩
              have HB4 := hidm (HB.out.below x.2)
              clear HB HCP HCB s0 s1 y0 y1 y2 y3 y4 y5 y6 HNR
              obtain ⟨w4, hw4⟩ := x
              dsimp only at HB4 ⊢
              clear hw4
              go_wp2_with fail
              go_ret
              exact ⟨by rw [hr.out]; rfl, HB4.out.b⟩
          · rw [tv_no hpl] at HCP
            have hr : Hid (r = false) := BADP.out hpl
            clear hpl BADP BADB STEP
            refine wp_region_bw (by kernel_rfl) (by kernel_rfl) ?_
            repeat (go_big_quiet_step (first | (go_at_call 68; exact calls_bw (HCP.out _)) | (go_at_call 69; exact calls_bw (HCB.out _))))
            refine wpQuiet_nil ?_
            rintro _ ⟨x, rfl⟩
            have HB4 := hidm (HB.out.below x.2)
            clear HB HCP HCB s0 s1 y0 y1 y2 y3 y4 y5 y6 HNR
            obtain ⟨w4, hw4⟩ := x
            dsimp only at HB4 ⊢
            clear hw4
            go_wp2_with fail
            go_ret
            exact ⟨by rw [hr.out]; rfl, HB4.out.b⟩
        · have hr : Hid (r = true) := by
            rw [← HT.out]
            exact tv_yes ⟨h1, h2, h3, HIDS.out, fun j hj => (HF.out j (by omega)).1, fun j hj => (HF.out j (by omega)).2⟩
          have HB4 := HB
          clear HB HF
          go_wp2_with fail
          go_ret
          exact ⟨by rw [hr.out]; rfl, HB4.out.b⟩
end Go.Proofs.Ytlopfkkegjajlaa
namespace Go.Proofs.Ytlopfkkegjajlaa
open Go.RowKit Go.Proofs.YtlopfkkegjajlaaW.PrintWords PHistoryTouched
theorem mem_kidsTo (l : List S76) (x : Int) : ∀ m : Nat, m ≤ l.length → (x ∈ kidsTo l m ↔ ∃ b : Nat, b < m ∧ x ∈ (rd_T76 l b).f5)
  | 0, _ => by simp [kidsTo]
  | m + 1, hm => by
    rw [kidsTo_succ l m (by omega), List.mem_append, mem_kidsTo l x m (by omega)]
    constructor
    · rintro (⟨b, hb, h⟩ | h)
      · exact ⟨b, by omega, h⟩
      · exact ⟨m, by omega, h⟩
    · rintro ⟨b, hb, h⟩
      rcases Nat.lt_or_ge b m with h1 | h1
      · exact .inl ⟨b, h1, h⟩
      · obtain rfl : b = m := by omega
        exact .inr h
theorem count_kids_ge (l : List S76) (x : Int) : ∀ m : Nat, m ≤ l.length → ∀ b : Nat, b < m → (rd_T76 l b).f5.count x ≤ (kidsTo l m).count x
  | 0, _, b, hb => by omega
  | m + 1, hm, b, hb => by
    rw [kidsTo_succ l m (by omega), List.count_append]
    rcases Nat.lt_or_ge b m with h1 | h1
    · have := count_kids_ge l x m (by omega) b h1; omega
    · obtain rfl : b = m := by omega
      omega
theorem count_kids_one (l : List S76) (x : Int) (p : Nat) : ∀ m : Nat, m ≤ l.length → (∀ b : Nat, b < m → b ≠ p → x ∉ (rd_T76 l b).f5) → (kidsTo l m).count x = if p < m then (rd_T76 l p).f5.count x else 0
  | 0, _, _ => by simp [kidsTo]
  | m + 1, hm, h => by
    rw [kidsTo_succ l m (by omega), List.count_append, count_kids_one l x p m (by omega) (fun b hb => h b (by omega))]
    by_cases e : p = m
    · subst e
      rw [if_neg (by omega), if_pos (by omega)]; omega
    · have h0 : (rd_T76 l m).f5.count x = 0 := List.count_eq_zero.2 (h m (by omega) (fun h => e h.symm))
      rw [h0]
      by_cases h1 : p < m
      · rw [if_pos h1, if_pos (by omega)]; omega
      · rw [if_neg h1, if_neg (by omega)]
theorem mem_rd {K : List Int} {x : Int} (h : x ∈ K) : ∃ j : Nat, j < K.length ∧ rd K j = x := by
  obtain ⟨j, hj, rfl⟩ := List.getElem_of_mem h
  exact ⟨j, hj, by simp [rd, List.getD_eq_getElem?_getD, List.getElem?_eq_getElem hj]⟩
theorem once_nodup {K : List Int} (h : ∀ i j : Nat, i < j → j < K.length → rd K i ≠ rd K j) : K.Nodup := by
  rw [List.nodup_iff_pairwise_ne, List.pairwise_iff_getElem]
  intro i j hi hj hij
  have := h i j hij hj
  simpa [rd, List.getD_eq_getElem?_getD, List.getElem?_eq_getElem hi, List.getElem?_eq_getElem hj] using this
theorem nodup_once {K : List Int} (h : K.Nodup) : ∀ i j : Nat, i < j → j < K.length → rd K i ≠ rd K j := by
  intro i j hij hj
  rw [List.nodup_iff_pairwise_ne, List.pairwise_iff_getElem] at h
  have := h i j (by omega) hj hij
  simpa [rd, List.getD_eq_getElem?_getD, List.getElem?_eq_getElem (show i < K.length by omega), List.getElem?_eq_getElem hj] using this
theorem count_le_nodup {K : List Int} (h : ∀ x ∈ K, K.count x ≤ 1) : K.Nodup := List.nodup_iff_count.2 (fun x => by
  by_cases hx : x ∈ K
  · exact h x hx
  · rw [List.count_eq_zero.2 hx]; omega)
theorem kid_parent {l : List S76} (hs : IdsUp l) (hk : ∀ a : Nat, a < l.length → KidsOk l (rd_T76 l a)) {i b : Nat} (hi : i < l.length) (hb : b < l.length) (h : (rd_T76 l i).f0 ∈ (rd_T76 l b).f5) : (rd_T76 l i).f2 = (rd_T76 l b).f0 := by
  obtain ⟨j, hj, he⟩ := mem_rd h
  obtain ⟨p, hp, h1, h2⟩ := hk b hb j hj
  have := same_id hs hp hi (h1.trans he)
  subst this
  exact h2
theorem word_some {s : ByteArray} (h : wordB s = true) : s.toList ≠ [] := by
  intro h0
  have h1 : s.size = 0 := by
    have : s.toList.length = s.size := by rw [ByteArray.toList_eq]; rfl
    rw [h0] at this; simpa using this.symm
  unfold wordB at h
  rw [trimQ_neg' (by omega), bodyB_no1 h1] at h
  cases h
theorem check_of_right {nx : Int} {l : List S76} (h : RightP nx l) : CheckP nx l := by
  have hs : IdsUp l := ids_up h.hi h.ids
  have hk : ∀ a : Nat, a < l.length → KidsOk l (rd_T76 l a) := fun a ha => (h.plain a ha).own
  refine ⟨h.lo, h.hi, h.len, h.ids, fun i hi => ?_, hk, fun i hi h0 => ?_, fun i hi h0 => ?_, fun i hi => ?_⟩
  · have hp := h.plain i hi
    have hb := h.below i hi
    refine ⟨hp.word, ?_, ?_, hp.kids, hp.props, hp.refs⟩
    · rcases hb with ⟨h1, h2⟩ | ⟨h1, h2, _⟩
      · exact ⟨fun _ => h2, fun _ => h1⟩
      · exact ⟨fun h3 => absurd h3 h1, fun h3 => absurd h3 (word_some h2)⟩
    · rcases hb with ⟨h1, h2⟩ | ⟨h1, h2, _⟩
      · exact fun h3 => absurd h2 h3
      · exact fun _ => h2
  · refine List.count_eq_zero.2 (fun hm => ?_)
    obtain ⟨b, hb, hx⟩ := (mem_kidsTo l _ l.length (Nat.le_refl _)).1 hm
    have h1 := kid_parent hs hk hi hb hx
    have h2 := hs.lo b hb
    omega
  · rcases h.below i hi with ⟨h1, _⟩ | ⟨_, _, p, hp, h1, h2, _⟩
    · exact absurd h1 h0
    · rw [count_kids_one l _ p l.length (Nat.le_refl _) (fun b hb hne hx => by
        have h3 := kid_parent hs hk hi hb hx
        exact hne (same_id hs hb hp (h3.symm.trans h1.symm))), if_pos hp]
      have h4 := List.nodup_iff_count.1 (once_nodup (h.plain p hp).once) (rd_T76 l i).f0
      have h5 := List.count_pos_iff.2 h2
      omega
  · have key : ∀ (k : Nat) (n : S76), BelowD l k n → DeepOk l k n := by
      intro k
      induction k with
      | zero => intro n h; exact h
      | succ k ih =>
        rintro n (⟨h1, _⟩ | ⟨_, _, p, hp, h1, _, h2⟩)
        · exact .inl h1
        · exact .inr ⟨p, hp, h1, ih _ h2⟩
    exact key 64 _ (h.below i hi)
theorem right_of_check {nx : Int} {l : List S76} (h : CheckP nx l) : RightP nx l := by
  have hs : IdsUp l := ids_up h.hi h.ids
  refine ⟨h.lo, h.hi, h.len, h.ids, fun i hi => ?_, fun i hi => ?_⟩
  · have ha := h.alone i hi
    refine ⟨ha.word, ha.kids, ha.props, ha.refs, h.hangs.kids i hi, nodup_once (count_le_nodup (fun x hx => ?_))⟩
    obtain ⟨j, hj, he⟩ := mem_rd hx
    obtain ⟨p, hp, h1, h2⟩ := h.hangs.kids i hi j hj
    have h3 : (rd_T76 l p).f2 ≠ 0 := by have := hs.lo i hi; omega
    have h4 := h.hangs.met1 p hp h3
    have h5 := count_kids_ge l x l.length (Nat.le_refl _) i hi
    rw [h1, he] at h4
    omega
  · have key : ∀ (k : Nat) (a : Nat), a < l.length → DeepOk l k (rd_T76 l a) → BelowD l k (rd_T76 l a) := by
      intro k
      induction k with
      | zero => intro a _ h; exact h
      | succ k ih =>
        intro a ha hd
        have hal := h.alone a ha
        by_cases h0 : (rd_T76 l a).f2 = 0
        · exact .inl ⟨h0, hal.root.1 h0⟩
        · rcases hd with h1 | ⟨p, hp, h1, h2⟩
          · exact absurd h1 h0
          · refine .inr ⟨h0, hal.role (fun h3 => h0 (hal.root.2 h3)), p, hp, h1, ?_, ih p hp h2⟩
            have h3 := h.hangs.met1 a ha h0
            obtain ⟨b, hb, hx⟩ := (mem_kidsTo l _ l.length (Nat.le_refl _)).1 (List.count_pos_iff.1 (by rw [h3]; exact Nat.one_pos))
            have h4 := kid_parent hs h.hangs.kids ha hb hx
            have h5 := same_id hs hb hp (h4.symm.trans h1.symm)
            subst h5
            exact hx
    exact key 64 i hi (h.hangs.deep i hi)
theorem right_iff (nx : Int) (l : List S76) : RightP nx l ↔ CheckP nx l := ⟨check_of_right, right_of_check⟩
theorem right_check (nx : Int) (l : List S76) (A : Option Addr) (c : Nat) (w : World) (hr : Kd.C k76 w A l.length l) (hc : l.length ≤ c) :
    Calls Try.prog 39 #[.agg #[.int .i64 nx, .slice A l.length c]] w fun e w' => e = .returned (.bool (tv (CheckP nx l))) ∧ Below w.heap.size w w' := by
  have := right_any nx l A c w hr hc
  rwa [tv_congr (right_iff nx l)] at this
end Go.Proofs.Ytlopfkkegjajlaa
namespace Go.Proofs.Ytlopfkkegjajlaa
open Go
section
variable {P : Program} {ops : Array Oper} {C : World → Prop}
def stepH (P : Program) (ops : Array Oper) (C : World → Prop) (K : Act → World → Prop) (j : Nat) (a : Act) (w : World) : Prop :=
  ∃ o, ops[j]? = some o ∧ Region.wanted o (yielded ops a.tmps) = true ∧
      ((∃ f args, (execOp a.eval o).run P w = .ok (.enter f args) w ∧ Calls P f args w fun e w' => ∃ v, e = .returned v ∧ C w' ∧ K (a.put o.dst v) w') ∨
        (∃ v w', (execOp a.eval o).run P w = .ok (.value v) w' ∧ C w' ∧ K (a.put o.dst v) w') ∨
        o.wp P a w (fun a' w' => C w' ∧ K a' w') (fun _ _ _ => False))
theorem wp_any_post {o : Oper} {a : Act} {w : World} {K : Act → World → Prop} {Q : Exit → Act → World → Prop} (h : o.wp P a w K (fun _ _ _ => False)) : o.wp P a w K Q := by
  unfold Oper.wp at *
  generalize (execOp a.eval o).run P w = r at *
  cases r with
  | ok n w' =>
    cases n <;> simp only [Oper.upon] at h ⊢ <;>
      first
        | exact h
        | exact Calls.mono h (fun e w'' he => by
            cases e with
            | returned u => exact he
            | panicked c => exact False.elim he
            | outgrown => obtain ⟨_, _, h⟩ := he; exact False.elim h)
  | halt x w' => cases x <;> simp only [Oper.upon] at h ⊢
theorem stepH_op {Q : Exit → Act → World → Prop} {K : Act → World → Prop} {j : Nat} {a : Act} {w : World} (h : stepH P ops C K j a w) : wpOp P ops Q j (fun a' w' => C w' ∧ K a' w') a w := by
  obtain ⟨o, ho, hw, h⟩ := h
  unfold wpOp
  simp only [ho]
  rw [if_pos hw]
  refine .inl ?_
  unfold Oper.wp
  rcases h with ⟨f, args, hr, hc⟩ | ⟨v, w', hr, hc⟩ | h
  · rw [hr]
    refine Calls.mono hc ?_
    rintro e w' ⟨v, rfl, h1, h2⟩
    exact ⟨h1, h2⟩
  · rw [hr]
    exact hc
  · exact wp_any_post h
def freeOf (ops : Array Oper) (crem : List Nat) (j : Nat) : Bool := crem.all fun i => !Region.waitsFor .any ops j i
def allP (p : Nat → Prop) : List Nat → Prop
  | [] => True
  | j :: js => p j ∧ allP p js
theorem allP_mem {p : Nat → Prop} : ∀ {l : List Nat}, allP p l → ∀ j ∈ l, p j
  | _ :: _, h, j, hj => by
    rcases List.mem_cons.1 hj with rfl | h1
    · exact h.1
    · exact allP_mem h.2 j h1
def runX (P : Program) (ops : Array Oper) (C : World → Prop) (F : Act → World → Prop) : Nat → List Nat → Act → World → Prop
  | 0, _, a, w => F a w
  | m + 1, crem, a, w => allP (fun j => stepH P ops C (runX P ops C F m (crem.erase j)) j a w) (crem.filter (freeOf ops crem))
theorem runX_step {F : Act → World → Prop} {m : Nat} {crem rs : List Nat} {a : Act} {w : World} (hrs : crem.filter (freeOf ops crem) = rs) (h : allP (fun j => stepH P ops C (runX P ops C F m (crem.erase j)) j a w) rs) : runX P ops C F (m + 1) crem a w := by
  rw [← hrs] at h; exact h
structure RemX (ops : Array Oper) (n : Nat) (listed : Array Bool) (rem crem : List Nat) : Prop where
  inv : HeadInv .any ops n listed
  mem : ∀ i, (i ∈ rem ∨ i ∈ crem) ↔ i < n ∧ listed.getD i true = false
  up : rem.Pairwise (· < ·)
  plain : ∀ i ∈ rem, plainAt ops i = true
  dis : ∀ i ∈ rem, ∀ j ∈ crem, i ≠ j
  nd : crem.Nodup
  two : ∀ i ∈ rem, ∀ j ∈ rem, i < j → Region.waitsFor .any ops j i = true ∨ apartAt ops i j = true
  mix : ∀ i ∈ rem, ∀ j ∈ crem, Region.waitsFor .any ops j i = true ∨ apartAt ops i j = true
theorem any_of_holdX {n g : Nat} {F : Act → World → Prop} {Q : Exit → Act → World → Prop} (hsel : ∀ (j : Nat) (o : Oper) cs b, ops[j]? = some o → o.op ≠ .select cs b)
    (hQ : ∀ (o : Oper) (v : Value) c a w, Q (.panic c) (a.put o.dst v) w → Q (.panic c) a w)
    {pre : List Nat} (hs : sinkPre ops n pre = true) (hc : Region.chainB .any ops n = true) (hn : n < ops.size) (hlow : lowB ops n = true)
    (hend : ∀ a w, C w → F a w → wpAny P .any ops Q g (headed ops.size n) a w) :
    ∀ (m : Nat) (rem crem : List Nat) (listed : Array Bool) (a : Act) (w : World), rem.length + crem.length = m → RemX ops n listed rem crem → (∀ i ∈ pre, listed.getD i true = true) → C w →
      RunQ P ops C (fun a' => runX P ops C F crem.length crem a' w) rem a → wpAny P .any ops Q (m + g) listed a w
  | 0, rem, crem, listed, a, w, hm, hr, _, hw, h => by
    obtain rfl : rem = [] := List.eq_nil_of_length_eq_zero (by omega)
    obtain rfl : crem = [] := List.eq_nil_of_length_eq_zero (by omega)
    have hl : listed = headed ops.size n := rem_done ⟨hr.inv, fun i => by simpa using hr.mem i, List.Pairwise.nil⟩
    rw [Nat.zero_add, hl]
    exact hend a w hw h
  | m + 1, rem, crem, listed, a, w, hm, hr, hpl, hw, h => by
    have hex : ∃ i0, i0 < n ∧ listed.getD i0 true = false := by
      cases rem with
      | cons i r => exact ⟨i, (hr.mem i).1 (.inl List.mem_cons_self)⟩
      | nil =>
        cases crem with
        | cons i r => exact ⟨i, (hr.mem i).1 (.inr List.mem_cons_self)⟩
        | nil => simp at hm
    obtain ⟨i0, hi0, hu0⟩ := hex
    have hsucc : m + 1 + g = (m + g) + 1 := by omega
    rw [hsucc]
    refine ⟨fun h0 => absurd h0 (ready_min hlow hr.inv (by omega) i0 hi0 hu0), fun j hj => ?_⟩
    have hjun := (mem_ready.1 hj).1
    have hjn : j < n := by
      rcases Nat.lt_or_ge j n with h1 | h1
      · exact h1
      · exact absurd hj (tail_waits_pre hpl hs hc hn hr.inv _ i0 rfl hi0 hu0 j h1)
    have hsz : j < listed.size := by rw [hr.inv.size]; omega
    have hun : ∀ i, i ∈ rem ∨ i ∈ crem → listed.getD i true = false := fun i hi => ((hr.mem i).1 hi).2
    rcases (hr.mem j).2 ⟨hjn, hjun⟩ with hjm | hjm
    · obtain ⟨l1, l2, hl⟩ := List.append_of_mem hjm
      have hup := hr.up
      rw [hl] at h hup
      have hap : ∀ i ∈ l1, apartAt ops i j = true := by
        intro i hi
        have hij : i < j := (List.pairwise_append.1 hup).2.2 i hi j List.mem_cons_self
        have him : i ∈ rem := by rw [hl]; exact List.mem_append_left _ hi
        rcases hr.two i him j hjm hij with h1 | h1
        · exact absurd hj (waits_not_ready h1 (hun i (.inl him)))
        · exact h1
      have h2 := run_front hsel l1 j l2 a hap h
      have hlen : (l1 ++ l2).length + crem.length = m := by rw [hl] at hm; simp at hm ⊢; omega
      have hnd : ∀ i, i ∈ l1 ++ l2 → i ≠ j := by
        intro i hi
        rcases List.mem_append.1 hi with h3 | h3
        · have := (List.pairwise_append.1 hup).2.2 i h3 j List.mem_cons_self; omega
        · have := (List.pairwise_cons.1 (List.pairwise_append.1 hup).2.1).1 i h3; omega
      have hsub : ∀ i, i ∈ l1 ++ l2 → i ∈ rem := fun i hi => by
        rw [hl]
        rcases List.mem_append.1 hi with h3 | h3
        · exact List.mem_append_left _ h3
        · exact List.mem_append_right _ (List.mem_cons_of_mem _ h3)
      have hjp := hr.plain j hjm
      have hcj : ∀ i, i ∈ crem → i ≠ j := fun i hi e => hr.dis j hjm i hi e.symm
      have hr2 : RemX ops n (listed.setIfInBounds j true) (l1 ++ l2) crem := by
        refine ⟨hr.inv.set hj hjn, fun i => ?_, ?_, fun i hi => hr.plain i (hsub i hi), fun i hi k hk => hr.dis i (hsub i hi) k hk, hr.nd, fun i hi k hk => hr.two i (hsub i hi) k (hsub k hk), fun i hi k hk => hr.mix i (hsub i hi) k hk⟩
        · by_cases hij : i = j
          · subst hij
            constructor
            · rintro (h3 | h3)
              · exact absurd rfl (hnd i h3)
              · exact absurd rfl (hcj i h3)
            · rintro ⟨_, h3⟩; simp [hsz] at h3
          · rw [getD_set_ne true (Ne.symm hij), ← hr.mem i, hl]
            simp only [List.mem_append, List.mem_cons]
            constructor
            · rintro ((h3 | h3) | h3)
              · exact .inl (.inl h3)
              · exact .inl (.inr (.inr h3))
              · exact .inr h3
            · rintro ((h3 | h3 | h3) | h3)
              · exact .inl (.inl h3)
              · exact absurd h3 hij
              · exact .inl (.inr h3)
              · exact .inr h3
        · rw [List.pairwise_append] at hup ⊢
          exact ⟨hup.1, (List.pairwise_cons.1 hup.2.1).2, fun x hx y hy => hup.2.2 x hx y (List.mem_cons_of_mem _ hy)⟩
      unfold plainAt at hjp
      cases ho : ops[j]? with
      | none => simp [ho] at hjp
      | some oj =>
        simp only [ho] at hjp
        have h3 : qOp P ops C j (RunQ P ops C (fun a' => runX P ops C F crem.length crem a' w) (l1 ++ l2)) a := h2
        obtain ⟨v, hy, hK⟩ := yieldsIf_of_qOp ho hjp h3
        exact hy.wpOp ho hw (any_of_holdX hsel hQ hs hc hn hlow hend m (l1 ++ l2) crem _ _ w hlen hr2 (fun i hi => getD_set_true' (hpl i hi)) hw hK)
    · have hap : ∀ i ∈ rem, plainAt ops i = true ∧ apartAt ops i j = true := fun i hi => ⟨hr.plain i hi, by
        rcases hr.mix i hi j hjm with h1 | h1
        · exact absurd hj (waits_not_ready h1 (hun i (.inl hi)))
        · exact h1⟩
      obtain ⟨k, hk⟩ : ∃ k, crem.length = k + 1 := ⟨crem.length - 1, by have := List.length_pos_of_mem hjm; omega⟩
      have hfree : j ∈ crem.filter (freeOf ops crem) := by
        rw [List.mem_filter]
        refine ⟨hjm, List.all_eq_true.2 fun i hi => ?_⟩
        cases hx : Region.waitsFor .any ops j i with
        | false => rfl
        | true => exact absurd hj (waits_not_ready hx (hun i (.inr hi)))
      have h2 : RunQ P ops C (fun a' => wpOp P ops Q j (fun a' w' => C w' ∧ runX P ops C F k (crem.erase j) a' w') a' w) rem a := runQ_mono (fun a' h' => by
        rw [hk] at h'
        exact stepH_op (allP_mem h' j hfree)) rem a h
      have h3 := pull hsel hQ rem a hap h2
      have hrj : ∀ i, i ∈ rem → i ≠ j := fun i hi => hr.dis i hi j hjm
      have hel : (crem.erase j).length = k := by rw [List.length_erase_of_mem hjm]; omega
      have hem : ∀ i, i ∈ crem.erase j ↔ i ≠ j ∧ i ∈ crem := fun i => hr.nd.mem_erase_iff
      have hr2 : RemX ops n (listed.setIfInBounds j true) rem (crem.erase j) := by
        refine ⟨hr.inv.set hj hjn, fun i => ?_, hr.up, hr.plain, fun i hi k hk => hr.dis i hi k ((hem k).1 hk).2, hr.nd.erase j, hr.two, fun i hi k hk => hr.mix i hi k ((hem k).1 hk).2⟩
        by_cases hij : i = j
        · subst hij
          constructor
          · rintro (h3 | h3)
            · exact absurd rfl (hrj i h3)
            · exact absurd rfl ((hem i).1 h3).1
          · rintro ⟨_, h3⟩; simp [hsz] at h3
        · rw [getD_set_ne true (Ne.symm hij), ← hr.mem i, hem]
          simp [hij]
      refine wpOp_mono (fun a' w' h' => ?_) h3
      rw [← hel] at h'
      exact any_of_holdX hsel hQ hs hc hn hlow hend m rem (crem.erase j) _ _ w' (by omega) hr2 (fun i hi => getD_set_true' (hpl i hi)) (runQ_out (fun _ h => h.1) rem a' h') (runQ_mono (fun _ h => h.2) rem a' h')
end
def quietOfX (ops : Array Oper) (n : Nat) (pre late : List Nat) : List Nat := (List.range n).filter fun i => plainAt ops i && (!late.contains i && !pre.contains i)
def callsOfX (ops : Array Oper) (n : Nat) (pre late : List Nat) : List Nat := (List.range n).filter fun i => (!plainAt ops i || late.contains i) && !pre.contains i
def holdXB (ops : Array Oper) (n : Nat) (pre late : List Nat) : Bool :=
  Region.noSelect ops && decide (n < ops.size) && sinkPre ops n pre && Region.chainB .any ops n && lowB ops n && Region.seqB .any ops (ops.size - n) n (headed ops.size n) && preB ops pre (Array.replicate ops.size false) && pre.all (fun i => decide (i < n)) && decide (pre.length + ((quietOfX ops n pre late).length + (callsOfX ops n pre late).length) = n) &&
  (quietOfX ops n pre late).all (fun i => (quietOfX ops n pre late).all (fun j => decide (j ≤ i) || Region.waitsFor .any ops j i || apartAt ops i j) && (callsOfX ops n pre late).all (fun j => Region.waitsFor .any ops j i || apartAt ops i j))
theorem wp_region_holdX {P : Program} {C : World → Prop} {id : Nat} {Q : Exit → Act → World → Prop} {a : Act} {w : World} {l : List Oper} (n : Nat) (pre late is cs : List Nat) (hm : P.follows .mixedOrders = true) (hB : holdXB l.toArray n pre late = true) (his : pre ++ quietOfX l.toArray n pre late = is) (hcs : callsOfX l.toArray n pre late = cs)
    (hQ : ∀ (o : Oper) (v : Value) c a w, Q (.panic c) (a.put o.dst v) w → Q (.panic c) a w) (hC : C { w with drawn := w.drawn + 1 })
    (h : wpQuiet P l.toArray C (fun a' => ∀ w', C w' → runX P l.toArray C (fun a w => wpList P l.toArray Q (l.drop n) a w) cs.length cs a' w') (pickOps l is) a) : (Code.region id l.toArray true).wp P Q a w := by
  rw [← pickOps_eq] at h
  subst his hcs
  simp only [holdXB, Bool.and_eq_true, decide_eq_true_eq] at hB
  obtain ⟨⟨⟨⟨⟨⟨⟨⟨⟨hsel, hn⟩, hs⟩, hc⟩, hlow⟩, hq⟩, hpB⟩, hpn⟩, hlen⟩, hmx⟩ := hB
  have hn' : n < l.length := by simpa using hn
  have hpn' : ∀ i ∈ pre, i < n := fun i hi => by simpa using List.all_eq_true.1 hpn i hi
  have hdl : (l.drop n).length = l.toArray.size - n := by simp
  have hqm : ∀ i, i ∈ quietOfX l.toArray n pre late ↔ i < n ∧ plainAt l.toArray i = true ∧ i ∉ late ∧ i ∉ pre := fun i => by
    unfold quietOfX; rw [List.mem_filter, List.mem_range]; simp
  have hcm : ∀ i, i ∈ callsOfX l.toArray n pre late ↔ i < n ∧ (plainAt l.toArray i = false ∨ i ∈ late) ∧ i ∉ pre := fun i => by
    unfold callsOfX; rw [List.mem_filter, List.mem_range]; simp [Classical.or_iff_not_imp_left]
  have hrun := runQ_of_quiet (ops := l.toArray) (pre ++ quietOfX l.toArray n pre late) a (fun i hi => by
    rcases List.mem_append.1 hi with h1 | h1
    · have := hpn' i h1; omega
    · have := ((hqm i).1 h1).1; omega) h
  have hrun2 := runQ_append _ _ _ hrun
  have hinv0 : HeadInv .any l.toArray n (Array.replicate l.toArray.size false) :=
    ⟨by simp, fun j oj _ hl => (by rw [getD_replicate_false] at hl; cases hl), fun t _ ht => getD_in (by simpa using ht) (getD_replicate_false _ _)⟩
  have hmem : ∀ i, i < n → ((preL pre (Array.replicate l.toArray.size false)).getD i true = false ↔ i ∉ pre) := fun i hi => by
    rw [preL_false pre _ i (by simp; omega)]
    have : (Array.replicate l.toArray.size false).getD i true = false := getD_in (by simp; omega) (getD_replicate_false _ _)
    simp only [this, true_and]
  have hrem : RemX l.toArray n (preL pre (Array.replicate l.toArray.size false)) (quietOfX l.toArray n pre late) (callsOfX l.toArray n pre late) := by
    refine ⟨preL_inv pre _ hpB hpn' hinv0, fun i => ?_, ?_, fun i hi => ((hqm i).1 hi).2.1, fun i hi j hj e => by
      subst e
      have h1 := ((hqm i).1 hi).2
      rcases ((hcm i).1 hj).2.1 with h2 | h2
      · rw [h1.1] at h2; cases h2
      · exact h1.2.1 h2, ?_, fun i hi j hj hij => ?_, fun i hi j hj => ?_⟩
    · rw [hqm, hcm]
      constructor
      · rintro (⟨h1, _, _, h2⟩ | ⟨h1, _, h2⟩) <;> exact ⟨h1, (hmem i h1).2 h2⟩
      · rintro ⟨h1, h2⟩
        cases hp : plainAt l.toArray i with
        | true =>
          by_cases hl : i ∈ late
          · exact .inr ⟨h1, .inr hl, (hmem i h1).1 h2⟩
          · exact .inl ⟨h1, rfl, hl, (hmem i h1).1 h2⟩
        | false => exact .inr ⟨h1, .inl rfl, (hmem i h1).1 h2⟩
    · exact List.Pairwise.filter _ List.pairwise_lt_range
    · exact (List.nodup_range).filter _
    · have h1 := List.all_eq_true.1 hmx i hi
      rw [Bool.and_eq_true] at h1
      have h2 := List.all_eq_true.1 h1.1 j hj
      simp only [Bool.or_eq_true, decide_eq_true_eq] at h2
      rcases h2 with (h2 | h2) | h2
      · omega
      · exact .inl h2
      · exact .inr h2
    · have h1 := List.all_eq_true.1 hmx i hi
      rw [Bool.and_eq_true] at h1
      have h2 := List.all_eq_true.1 h1.2 j hj
      rwa [Bool.or_eq_true] at h2
  have hpl : ∀ i ∈ pre, (preL pre (Array.replicate l.toArray.size false)).getD i true = true := fun i hi => by
    have := hmem i (hpn' i hi)
    cases hx : (preL pre (Array.replicate l.toArray.size false)).getD i true with
    | true => rfl
    | false => exact absurd hi (this.1 hx)
  refine wp_region_any hm ?_
  have hall : ∀ a', RunQ P l.toArray C (fun a' => ∀ w', C w' → runX P l.toArray C (fun a w => wpList P l.toArray Q (l.drop n) a w) (callsOfX l.toArray n pre late).length (callsOfX l.toArray n pre late) a' w') (quietOfX l.toArray n pre late) a' → wpAny P .any l.toArray Q (((quietOfX l.toArray n pre late).length + (callsOfX l.toArray n pre late).length) + (l.toArray.size - n)) (preL pre (Array.replicate l.toArray.size false)) a' { w with drawn := w.drawn + 1 } := fun a' ha' =>
    any_of_holdX (pre := pre) (P := P) (C := C) (g := l.toArray.size - n) (Q := Q) (Region.noSelect_spec hsel) hQ hs hc hn hlow (fun a' w' hw' hF => by
      have := wpAny_of_seq (md := .any) (Q' := Q) (l.drop n) n _ a' w' (fun j => by simp [List.getElem?_drop]) (by rw [hdl]; exact hq) hF
      rwa [hdl] at this) _ (quietOfX l.toArray n pre late) (callsOfX l.toArray n pre late) _ a' _ rfl hrem hpl hC (runQ_mono (fun a'' h'' => h'' _ hC) _ _ ha')
  have := take_pre (C := C) hsel (fun o v c a w _ h => hQ o v c a w h) hC pre (Array.replicate l.toArray.size false) a hpB (runQ_mono hall pre a hrun2)
  rw [show pre.length + (((quietOfX l.toArray n pre late).length + (callsOfX l.toArray n pre late).length) + (l.toArray.size - n)) = l.toArray.size by omega] at this
  exact this
end Go.Proofs.Ytlopfkkegjajlaa
namespace Go.Proofs.Ytlopfkkegjajlaa
open Go.RowKit Go.Proofs.YtlopfkkegjajlaaW.PrintWords PHistoryTouched
theorem node_copy (n : S76) (h4 : n.f4.length ≤ 1048576) (h5 : n.f5.length ≤ 1048576) (h6 : n.f6.length ≤ 1048576) : topiaryref02_Node.f n.f0 n.f1 n.f2 n.f3 n.f4 n.f5 n.f6 = some (n.f0, n.f1, n.f2, n.f3, n.f4, n.f5, n.f6) := by
  simp only [topiaryref02_Node.f, Option.bind_some, List.length_nil, List.nil_append, Nat.zero_add]
  rw [if_pos (by omega), if_pos (by omega), if_pos (by omega)]
theorem refTwin_ev (nx : Int) (l : List S76) (hs : SmallL l) : Ev (fun k => topiaryref02_Twin.f k nx l) (nx, l) := by
  have key : ∀ (d i : Nat), i + d = l.length → Ev (fun k => topiaryref02_Twin.l0 k i nx l nx (l.take i)) (nx, l) := by
    intro d
    induction d with
    | zero =>
      intro i hi
      obtain rfl : i = l.length := by omega
      refine Ev.step (f := fun _ => some (nx, l)) (fun k => ?_) (Ev.now _)
      simp only [topiaryref02_Twin.l0]
      rw [if_neg (by omega), List.take_length]
    | succ d ih =>
      intro i hi
      refine Ev.step (f := fun k => topiaryref02_Twin.l0 k ((i + 1 : Nat) : Int) nx l nx (l.take (i + 1))) (fun k => ?_) (ih (i + 1) (by omega))
      have hn := hs.n
      simp only [topiaryref02_Twin.l0]
      rw [if_pos (by omega), if_pos (by omega), node_copy (rd_T76 l i) (hs.p i (by omega)) (hs.k i (by omega)) (hs.r i (by omega))]
      simp only [Option.bind_some]
      rw [if_pos (by rw [List.length_take]; omega), wrap_up (by omega), List.take_succ_eq_append_getElem (show i < l.length by omega)]
      congr 3
      simp [rd_T76, List.getD_eq_getElem?_getD, List.getElem?_eq_getElem (show i < l.length by omega)]
  have := key l.length 0 (by omega)
  simpa [topiaryref02_Twin.f] using this
theorem refTwin_any (nx : Int) (A : Option Addr) (l : List S76) (c : Nat) (w : World) (hr : Kd.C k76 w A l.length l) (hc : l.length ≤ c) (hs : SmallL l) :
    Calls Try.prog 10 #[.agg #[.int .i64 nx, .slice A l.length c]] w (TwinPost nx l w) := by
  obtain ⟨k, h⟩ := (refTwin_ev nx l hs).rounds
  refine (topiaryref02_Twin.calls k nx A c l nx l w hr hc h).mono ?_
  rintro e w' ⟨v, rfl, hv, hb⟩
  exact ⟨v, rfl, Kd.S_R hv, hb⟩
theorem great_some (l : List S27) : ∃ r, Ev (fun k => topiarylaw27_great.f k l) r := by
  have key : ∀ (d i : Nat), i + d = l.length → ∀ x : Int, ∃ r, Ev (fun k => topiarylaw27_great.l0 k l x i) r := by
    intro d
    induction d with
    | zero =>
      intro i hi x
      refine ⟨decide (x > 3000), Ev.step (f := fun k => topiarylaw27_great.j1 k l x i false) (fun k => ?_) (Ev.step (f := fun _ => some (decide (x > 3000))) (fun k => ?_) (Ev.now _))⟩
      · simp only [topiarylaw27_great.l0]; rw [if_neg (by omega)]
      · simp [topiarylaw27_great.j1]
    | succ d ih =>
      intro i hi x
      have hj1 : ∃ r, Ev (fun k => topiarylaw27_great.j1 k l x i (decide ((i : Int) < 1000))) r := by
        by_cases h : (i : Int) < 1000
        · rw [decide_eq_true h]
          have hl1 : ∀ (e j : Nat), j + e = 1000 → ∀ y : Int, ∃ r, Ev (fun k => topiarylaw27_great.l1 k l y i j) r := by
            intro e
            induction e with
            | zero =>
              intro j hj y
              obtain ⟨r, hr⟩ := ih (i + 1) (by omega) y
              refine ⟨r, Ev.step (fun k => ?_) hr⟩
              simp only [topiarylaw27_great.l1]
              have hwi : wrap64 ((i : Int) + 1) = ((i + 1 : Nat) : Int) := wrap_up (by omega)
              rw [if_pos (by omega), if_pos (by omega), hwi]
              split
              · rw [if_neg (by omega)]
              · rfl
            | succ e ih2 =>
              intro j hj y
              by_cases hlt : (j : Int) < ((rd_T27 l i).f1.length : Int)
              · obtain ⟨r, hr⟩ := ih2 (j + 1) (by omega) (wrap64 ((wrap64 (y + 1)) + (mn 1000 (wrap64 ((wrap64 ((((rd_T76 ((rd_T27 l i).f1) j).f4).length : Int) + (((rd_T76 ((rd_T27 l i).f1) j).f6).length : Int))) + (wrap64 ((((rd_T76 ((rd_T27 l i).f1) j).f5).length : Int) / 8)))))))
                refine ⟨r, Ev.step (fun k => ?_) hr⟩
                simp only [topiarylaw27_great.l1]
                rw [if_pos (by omega), if_pos (by omega), if_pos hlt, if_pos (by omega), if_pos (by omega), wrap_up (i := j) (by omega)]
              · obtain ⟨r, hr⟩ := ih (i + 1) (by omega) y
                refine ⟨r, Ev.step (fun k => ?_) hr⟩
                simp only [topiarylaw27_great.l1]
                rw [if_pos (by omega), if_pos (by omega), if_neg hlt, wrap_up (i := i) (by omega)]
          have hj2 : ∀ y : Int, ∃ r, Ev (fun k => topiarylaw27_great.j2 k l y i) r := fun y => by
            obtain ⟨r, hr⟩ := hl1 1000 0 (by omega) y
            exact ⟨r, Ev.step (f := fun k => topiarylaw27_great.l1 k l y i 0) (fun k => by simp only [topiarylaw27_great.j2]) hr⟩
          by_cases hb : (((rd_T27 l i).f1).length : Int) > 1000
          · obtain ⟨r, hr⟩ := hj2 (wrap64 ((wrap64 (x + (((rd_T27 l i).f1).length : Int))) - 1000))
            refine ⟨r, Ev.step (fun k => ?_) hr⟩
            simp only [topiarylaw27_great.j1]
            rw [if_pos trivial, if_pos (by omega), if_pos (by omega), if_pos hb]
          · obtain ⟨r, hr⟩ := hj2 x
            refine ⟨r, Ev.step (fun k => ?_) hr⟩
            simp only [topiarylaw27_great.j1]
            rw [if_pos trivial, if_pos (by omega), if_pos (by omega), if_neg hb]
        · rw [decide_eq_false h]
          exact ⟨decide (x > 3000), Ev.step (f := fun _ => some (decide (x > 3000))) (fun k => by simp [topiarylaw27_great.j1]) (Ev.now _)⟩
      obtain ⟨r, hr⟩ := hj1
      exact ⟨r, Ev.step (fun k => by simp only [topiarylaw27_great.l0]; rw [if_pos (by omega)]) hr⟩
  exact key l.length 0 (by omega) 0
theorem great_any (A : Option Addr) (l : List S27) (c : Nat) (w : World) (hr : Kd.C k27 w A l.length l) (hc : l.length ≤ c) :
    ∃ r : Bool, Calls Try.prog 9 #[.slice A l.length c] w fun e w' => e = .returned (.bool r) ∧ Below w.heap.size w w' := by
  obtain ⟨r, h⟩ := great_some l
  obtain ⟨k, h⟩ := h.rounds
  exact ⟨r, topiarylaw27_great.calls k A c l r w hr hc h⟩
set_option maxRecDepth 100000 in
set_option maxHeartbeats 1000000 in
theorem index_any (n : Int) (m : Nat) (w : World) (hn : I64 n) (h0 : 0 < m) (hm : m ≤ 1048576) : ∃ q : Nat, q < m ∧ Calls Try.prog 14 #[.int .i64 n, .int .i64 (m : Int)] w fun e w' => e = .returned (.int .i64 (q : Int)) ∧ w' = w := by
  have hlo := hn.lo
  have hhi := hn.hi
  clear hn
  have habs : (n.tmod m).natAbs < m := by
    have := Int.natAbs_tmod n m
    rw [this]
    exact Nat.mod_lt _ (by simpa using h0)
  refine ⟨(n.tmod m).natAbs, habs, ?_⟩
  have hm0 : ¬ ((m : Int) = 0) := by omega
  have HQ : Hid (∀ t : Int, t = n.tmod m → (t < 0 → ((n.tmod m).natAbs : Int) = -t) ∧ (¬ t < 0 → ((n.tmod m).natAbs : Int) = t)) := by
    intro t ht; subst ht; omega
  have HA : Hid ((n.tmod m).natAbs < m) := habs
  generalize ((n.tmod m).natAbs : Int) = Q at HQ ⊢
  have hb : -(m : Int) < n.tmod m ∧ n.tmod m < m := by
    have := HA.out; omega
  go_enter Try.func14, Try.ntmps14
  go_wp2_with fail
  all_goals (go_ret; exact ⟨by first | (rw [(HQ.out _ rfl).1 (by assumption)]; rfl) | (rw [(HQ.out _ rfl).2 (by omega)]; rfl), rfl⟩)
structure RefR (W : World) (D : Nat → Prop) (qb : Nat) (ah : List S27) (h : S27) (be : List S27) : Prop where
  ex : ∃ A1 c1 A2 c2 A3 c3, W.heap[qb]? = some (refO A1 ah.length c1 h.f0 A2 h.f1.length c2 A3 be.length c3) ∧ ah.length ≤ c1 ∧ h.f1.length ≤ c2 ∧ be.length ≤ c3 ∧
    Kd.F k27 W D A1 ah.length ah ∧ Kd.F k76 W D A2 h.f1.length h.f1 ∧ Kd.F k27 W D A3 be.length be
theorem RefR.step {W W' : World} {D : Nat → Prop} {qb : Nat} {ah be : List S27} {h : S27} (hr : RefR W D qb ah h be) (hq : W'.heap[qb]? = W.heap[qb]?) (hD : ∀ k, D k → k < W.heap.size → W'.heap[k]? = W.heap[k]?) : RefR W' D qb ah h be := by
  obtain ⟨A1, c1, A2, c2, A3, c3, h0, l1, l2, l3, f1, f2, f3⟩ := hr.ex
  exact ⟨A1, c1, A2, c2, A3, c3, hq.trans h0, l1, l2, l3, Kd.F_step f1 hD, Kd.F_step f2 hD, Kd.F_step f3 hD⟩
theorem RefR.below {W W' : World} {D : Nat → Prop} {qb : Nat} {ah be : List S27} {h : S27} (hr : RefR W D qb ah h be) (hb : Below W.heap.size W W') : RefR W' D qb ah h be :=
  hr.step (by
    obtain ⟨A1, c1, A2, c2, A3, c3, h0, _⟩ := hr.ex
    exact hb.block qb (blk_lt h0)) (fun k _ hk => hb.block k hk)
theorem RefR.mono {W : World} {D D' : Nat → Prop} {qb : Nat} {ah be : List S27} {h : S27} (hr : RefR W D qb ah h be) (hD : ∀ k, k < W.heap.size → D k → D' k) : RefR W D' qb ah h be := by
  obtain ⟨A1, c1, A2, c2, A3, c3, h0, l1, l2, l3, f1, f2, f3⟩ := hr.ex
  exact ⟨A1, c1, A2, c2, A3, c3, h0, l1, l2, l3, Kd.F_mono (Kd.F_bound f1) (fun k hk => hD k hk.2 hk.1), Kd.F_mono (Kd.F_bound f2) (fun k hk => hD k hk.2 hk.1), Kd.F_mono (Kd.F_bound f3) (fun k hk => hD k hk.2 hk.1)⟩
def RefNewPost (m : S27) (b : Bool) (w : World) (e : Ending) (w' : World) : Prop := ∃ qb, e = .returned (.tuple #[.pointer (some ⟨qb, 0, none⟩), .bool b]) ∧ w.heap.size ≤ qb ∧
  RefR w' (fun k => w.heap.size ≤ k ∧ k < w'.heap.size ∧ k ≠ qb) qb [] m [] ∧ Below w.heap.size w w'
theorem refNew_done {w w3 w5 : World} {qb : Nat} {nx : Int} {l : List S76} {A' : Option Addr} {cap : Nat} {b : Bool} (hcap : l.length ≤ cap) (hV : k76.R 76 w3 w.heap.size (fun _ => True) (.slice A' l.length cap) l) (hb : Below w.heap.size w w3) (h35 : Below w3.heap.size w3 w5) (hqb : w3.heap.size ≤ qb)
    (hblk : w5.heap[qb]? = some (.cells #[.slice none 0 0, .int .i64 nx, .slice A' l.length cap, .slice none 0 0] 49 (0, 0))) : RefNewPost ⟨nx, l⟩ b w (.returned (.tuple #[.pointer (some ⟨qb, 0, none⟩), .bool b])) w5 := by
  have hF : Kd.F k76 w5 (fun k => w.heap.size ≤ k ∧ k < w5.heap.size ∧ k ≠ qb) A' l.length l := by
    obtain ⟨A9, c9, e9, _, h9⟩ := (Kd.R_V (d := k76) (base' := 0) (Kd.R_mono (Kd.R_bound hV) (ok' := fun k => w.heap.size ≤ k ∧ k < w5.heap.size ∧ k ≠ qb) (fun k hk => ⟨hk.2.1, by have := hk.2.2.1; have := h35.size; omega, by have := hk.2.2.1; omega⟩)))
    injection e9 with e1 _ _
    subst e1
    exact Kd.F_below h9 h35
  exact ⟨qb, rfl, by have := hb.size; omega, ⟨none, 0, A', cap, none, 0, hblk, Nat.le_refl _, hcap, Nat.le_refl _, Kd.F_nil _ _ _, hF, Kd.F_nil _ _ _⟩, below_step hb h35⟩
set_option maxRecDepth 100000 in
set_option maxHeartbeats 2000000 in
theorem refNew_any (nx : Int) (A : Option Addr) (l : List S76) (c : Nat) (w : World) (hr : Kd.C k76 w A l.length l) (hc : l.length ≤ c) (hs : SmallL l) :
    Calls Try.prog 12 #[.agg #[.int .i64 nx, .slice A l.length c]] w (RefNewPost ⟨nx, l⟩ (tv (CheckP nx l)) w) := by
  have HR : Hid (Kd.C k76 w A l.length l) := hr
  have HC : Hid (l.length ≤ c) := hc
  have HS : Hid (SmallL l) := hs
  clear hr hc hs
  have HW : Hid (Boxed1 w (.cells #[.int .i64 nx, .slice A l.length c] 27) (w.alloc (.cells #[.int .i64 nx, .slice A l.length c] 27))) := ⟨below_alloc (Below.refl _ _) _, blk_new _ _⟩
  go_enter Try.func12, Try.ntmps12
  go_wp2_with fail
  generalize (w.alloc (.cells #[.int .i64 nx, .slice A l.length c] 27)) = W at HW ⊢
  have s0 : ∀ x : BW W, x.1.cell? ⟨w.heap.size, 0, none⟩ = some (.int .i64 nx) := bw_cell (blk_cell HW.out.k1 0)
  have s1 : ∀ x : BW W, x.1.cell? ⟨w.heap.size, 1, none⟩ = some (.slice A l.length c) := bw_cell (blk_cell HW.out.k1 1)
  refine wp_region_noPanic ?_
  refine wp_region_holdX (C := fun w' => ∃ x : BW W, w' = x.1) 6 [] [2] [0, 4] [1, 2, 3, 5] (by kernel_rfl) (by kernel_rfl) (by kernel_rfl) (by kernel_rfl) (fun _ _ _ _ _ h => (h : False).elim) ⟨⟨{ W with drawn := W.drawn + 1 }, ⟨rfl, rfl, rfl, Nat.le_refl _, fun _ _ => rfl⟩⟩, rfl⟩ ?_
  simp only [pickOps, Option.elim_some, List.getElem?_cons_succ, List.getElem?_cons_zero, List.drop_succ_cons, List.drop_zero]
  repeat (go_big_quiet_step (fail))
  refine wpQuiet_nil ?_
  rintro _ ⟨x, rfl⟩
  have H1 : Hid (Boxed1 w (.cells #[.int .i64 nx, .slice A l.length c] 27) x.1) := HW.out.below x.2
  clear s0 s1 HW
  refine runX_step (crem := [1, 2, 3, 5]) (rs := [1]) (by kernel_rfl) ⟨?_, trivial⟩
  refine ⟨_, rfl, rfl, .inl ⟨10, #[.agg #[.int .i64 nx, .slice A l.length c]], ?_, ?_⟩⟩
  · go_simp
  refine (refTwin_any nx A l c x.1 (Kd.C_below HR.out H1.out.b) HC.out HS.out).mono ?_
  rintro e w3 ⟨v, rfl, hv, hb3⟩
  refine ⟨_, rfl, ⟨⟨w3, below_step x.2 hb3⟩, rfl⟩, ?_⟩
  simp only [Act.put, List.getElem_toArray, List.getElem_cons_succ, List.getElem_cons_zero, List.setIfInBounds_toArray, List.set_cons_zero, List.set_cons_succ]
  obtain ⟨A', cap, rfl, hcap, _⟩ := Kd.R_reads hv
  have HV : Hid (k76.R 76 w3 w.heap.size (fun _ => True) (.slice A' l.length cap) l) := Kd.R_lower hv H1.out.b.size
  have HB3 : Hid (Below w.heap.size w w3) := below_step H1.out.b hb3
  have HX3 : Hid (Below W.heap.size W w3) := below_step x.2 hb3
  have H33 : Hid (Below w3.heap.size w3 w3) := Below.refl _ _
  have HCAP : Hid (l.length ≤ cap) := hcap
  clear hv hb3 H1 hcap
  refine runX_step (crem := [2, 3, 5]) (rs := [2, 5]) (by kernel_rfl) ⟨?_, ?_, trivial⟩
  · refine ⟨_, rfl, rfl, .inr (.inl ⟨.agg #[.slice none 0 0, .int .i64 nx, .slice A' l.length cap, .slice none 0 0], w3, by go_simp, ⟨⟨w3, HX3.out⟩, rfl⟩, ?_⟩)⟩
    simp only [Act.put, List.getElem_toArray, List.getElem_cons_succ, List.getElem_cons_zero, List.setIfInBounds_toArray, List.set_cons_zero, List.set_cons_succ]
    refine runX_step (crem := [3, 5]) (rs := [3, 5]) (by kernel_rfl) ⟨?_, ?_, trivial⟩
    · refine ⟨_, rfl, rfl, .inr (.inl ⟨.pointer (some ⟨w3.heap.size, 0, none⟩), (w3.alloc (.cells #[.slice none 0 0, .int .i64 nx, .slice A' l.length cap, .slice none 0 0] 49)), by go_simp, ⟨⟨_, below_alloc HX3.out _⟩, rfl⟩, ?_⟩)⟩
      simp only [Act.put, List.getElem_toArray, List.getElem_cons_succ, List.getElem_cons_zero, List.setIfInBounds_toArray, List.set_cons_zero, List.set_cons_succ]
      have HQ : Hid ((w3.alloc (.cells #[.slice none 0 0, .int .i64 nx, .slice A' l.length cap, .slice none 0 0] 49)).heap[w3.heap.size]? = some (.cells #[.slice none 0 0, .int .i64 nx, .slice A' l.length cap, .slice none 0 0] 49 (0, 0))) := blk_new _ _
      obtain ⟨qb, hqb⟩ : ∃ qb, w3.heap.size = qb := ⟨_, rfl⟩
      have hle : w3.heap.size ≤ qb := by rw [← hqb]; exact H33.out.size
      have HLE := hidm hle
      clear hle
      replace HX3 : Hid (Below W.heap.size W (w3.alloc (.cells #[.slice none 0 0, .int .i64 nx, .slice A' l.length cap, .slice none 0 0] 49))) := below_alloc HX3.out _
      replace H33 : Hid (Below w3.heap.size w3 (w3.alloc (.cells #[.slice none 0 0, .int .i64 nx, .slice A' l.length cap, .slice none 0 0] 49))) := below_alloc H33.out _
      rw [hqb] at HQ ⊢
      clear hqb
      generalize (w3.alloc (.cells #[.slice none 0 0, .int .i64 nx, .slice A' l.length cap, .slice none 0 0] 49)) = w4 at HQ HX3 H33 ⊢
      refine runX_step (crem := [5]) (rs := [5]) (by kernel_rfl) ⟨?_, trivial⟩
      · refine ⟨_, rfl, rfl, .inl ⟨39, #[.agg #[.int .i64 nx, .slice A l.length c]], ?_, ?_⟩⟩
        · go_simp
        refine (right_check nx l A c w4 (Kd.C_below HR.out (below_step HB3.out H33.out)) HC.out).mono ?_
        rintro e w5 ⟨rfl, hb5⟩
        refine ⟨_, rfl, ⟨⟨w5, below_step HX3.out hb5⟩, rfl⟩, ?_⟩
        simp only [Act.put, List.getElem_toArray, List.getElem_cons_succ, List.getElem_cons_zero, List.setIfInBounds_toArray, List.set_cons_zero, List.set_cons_succ]
        replace HX3 : Hid (Below W.heap.size W w5) := below_step HX3.out hb5
        replace H33 : Hid (Below w3.heap.size w3 w5) := below_step H33.out hb5
        replace HQ := hidm (blk_below HQ.out hb5)
        clear hb5
        have HP := hidm (refNew_done (b := tv (CheckP nx l)) HCAP.out HV.out HB3.out H33.out HLE.out HQ.out)
        clear HV HB3 HX3 H33 HQ HLE
        show wpList _ _ _ _ _ _
        go_wp2_with fail
        refine NoPanic.normal ?_
        go_wp2_with fail
        simp [bodyPost, results, Try.results12, go_sem]
        exact HP.out
    · refine ⟨_, rfl, rfl, .inl ⟨39, #[.agg #[.int .i64 nx, .slice A l.length c]], ?_, ?_⟩⟩
      · go_simp
      refine (right_check nx l A c w3 (Kd.C_below HR.out (below_step HB3.out H33.out)) HC.out).mono ?_
      rintro e w5 ⟨rfl, hb5⟩
      refine ⟨_, rfl, ⟨⟨w5, below_step HX3.out hb5⟩, rfl⟩, ?_⟩
      simp only [Act.put, List.getElem_toArray, List.getElem_cons_succ, List.getElem_cons_zero, List.setIfInBounds_toArray, List.set_cons_zero, List.set_cons_succ]
      replace HX3 : Hid (Below W.heap.size W w5) := below_step HX3.out hb5
      replace H33 : Hid (Below w3.heap.size w3 w5) := below_step H33.out hb5
      clear hb5
      refine runX_step (crem := [3]) (rs := [3]) (by kernel_rfl) ⟨?_, trivial⟩
      · refine ⟨_, rfl, rfl, .inr (.inl ⟨.pointer (some ⟨w5.heap.size, 0, none⟩), (w5.alloc (.cells #[.slice none 0 0, .int .i64 nx, .slice A' l.length cap, .slice none 0 0] 49)), by go_simp, ⟨⟨_, below_alloc HX3.out _⟩, rfl⟩, ?_⟩)⟩
        simp only [Act.put, List.getElem_toArray, List.getElem_cons_succ, List.getElem_cons_zero, List.setIfInBounds_toArray, List.set_cons_zero, List.set_cons_succ]
        have HQ : Hid ((w5.alloc (.cells #[.slice none 0 0, .int .i64 nx, .slice A' l.length cap, .slice none 0 0] 49)).heap[w5.heap.size]? = some (.cells #[.slice none 0 0, .int .i64 nx, .slice A' l.length cap, .slice none 0 0] 49 (0, 0))) := blk_new _ _
        obtain ⟨qb, hqb⟩ : ∃ qb, w5.heap.size = qb := ⟨_, rfl⟩
        have hle : w3.heap.size ≤ qb := by rw [← hqb]; exact H33.out.size
        have HLE := hidm hle
        clear hle
        replace HX3 : Hid (Below W.heap.size W (w5.alloc (.cells #[.slice none 0 0, .int .i64 nx, .slice A' l.length cap, .slice none 0 0] 49))) := below_alloc HX3.out _
        replace H33 : Hid (Below w3.heap.size w3 (w5.alloc (.cells #[.slice none 0 0, .int .i64 nx, .slice A' l.length cap, .slice none 0 0] 49))) := below_alloc H33.out _
        rw [hqb] at HQ ⊢
        clear hqb
        generalize (w5.alloc (.cells #[.slice none 0 0, .int .i64 nx, .slice A' l.length cap, .slice none 0 0] 49)) = w4 at HQ HX3 H33 ⊢
        have HP := hidm (refNew_done (b := tv (CheckP nx l)) HCAP.out HV.out HB3.out H33.out HLE.out HQ.out)
        clear HV HB3 HX3 H33 HQ HLE
        show wpList _ _ _ _ _ _
        go_wp2_with fail
        refine NoPanic.normal ?_
        go_wp2_with fail
        simp [bodyPost, results, Try.results12, go_sem]
        exact HP.out
  · refine ⟨_, rfl, rfl, .inl ⟨39, #[.agg #[.int .i64 nx, .slice A l.length c]], ?_, ?_⟩⟩
    · go_simp
    refine (right_check nx l A c w3 (Kd.C_below HR.out (below_step HB3.out H33.out)) HC.out).mono ?_
    rintro e w5 ⟨rfl, hb5⟩
    refine ⟨_, rfl, ⟨⟨w5, below_step HX3.out hb5⟩, rfl⟩, ?_⟩
    simp only [Act.put, List.getElem_toArray, List.getElem_cons_succ, List.getElem_cons_zero, List.setIfInBounds_toArray, List.set_cons_zero, List.set_cons_succ]
    replace HX3 : Hid (Below W.heap.size W w5) := below_step HX3.out hb5
    replace H33 : Hid (Below w3.heap.size w3 w5) := below_step H33.out hb5
    clear hb5
    refine runX_step (crem := [2, 3]) (rs := [2]) (by kernel_rfl) ⟨?_, trivial⟩
    · refine ⟨_, rfl, rfl, .inr (.inl ⟨.agg #[.slice none 0 0, .int .i64 nx, .slice A' l.length cap, .slice none 0 0], w5, by go_simp, ⟨⟨w5, HX3.out⟩, rfl⟩, ?_⟩)⟩
      simp only [Act.put, List.getElem_toArray, List.getElem_cons_succ, List.getElem_cons_zero, List.setIfInBounds_toArray, List.set_cons_zero, List.set_cons_succ]
      refine runX_step (crem := [3]) (rs := [3]) (by kernel_rfl) ⟨?_, trivial⟩
      · refine ⟨_, rfl, rfl, .inr (.inl ⟨.pointer (some ⟨w5.heap.size, 0, none⟩), (w5.alloc (.cells #[.slice none 0 0, .int .i64 nx, .slice A' l.length cap, .slice none 0 0] 49)), by go_simp, ⟨⟨_, below_alloc HX3.out _⟩, rfl⟩, ?_⟩)⟩
        simp only [Act.put, List.getElem_toArray, List.getElem_cons_succ, List.getElem_cons_zero, List.setIfInBounds_toArray, List.set_cons_zero, List.set_cons_succ]
        have HQ : Hid ((w5.alloc (.cells #[.slice none 0 0, .int .i64 nx, .slice A' l.length cap, .slice none 0 0] 49)).heap[w5.heap.size]? = some (.cells #[.slice none 0 0, .int .i64 nx, .slice A' l.length cap, .slice none 0 0] 49 (0, 0))) := blk_new _ _
        obtain ⟨qb, hqb⟩ : ∃ qb, w5.heap.size = qb := ⟨_, rfl⟩
        have hle : w3.heap.size ≤ qb := by rw [← hqb]; exact H33.out.size
        have HLE := hidm hle
        clear hle
        replace HX3 : Hid (Below W.heap.size W (w5.alloc (.cells #[.slice none 0 0, .int .i64 nx, .slice A' l.length cap, .slice none 0 0] 49))) := below_alloc HX3.out _
        replace H33 : Hid (Below w3.heap.size w3 (w5.alloc (.cells #[.slice none 0 0, .int .i64 nx, .slice A' l.length cap, .slice none 0 0] 49))) := below_alloc H33.out _
        rw [hqb] at HQ ⊢
        clear hqb
        generalize (w5.alloc (.cells #[.slice none 0 0, .int .i64 nx, .slice A' l.length cap, .slice none 0 0] 49)) = w4 at HQ HX3 H33 ⊢
        have HP := hidm (refNew_done (b := tv (CheckP nx l)) HCAP.out HV.out HB3.out H33.out HLE.out HQ.out)
        clear HV HB3 HX3 H33 HQ HLE
        show wpList _ _ _ _ _ _
        go_wp2_with fail
        refine NoPanic.normal ?_
        go_wp2_with fail
        simp [bodyPost, results, Try.results12, go_sem]
        exact HP.out
end Go.Proofs.Ytlopfkkegjajlaa
namespace Go.Proofs.Ytlopfkkegjajlaa
open Go.RowKit Go.Proofs.YtlopfkkegjajlaaW.PrintWords PHistoryTouched
structure RefC (W : World) (D : Nat → Prop) (qb : Nat) (ah : List S27) (h : S27) (be : List S27) (A1 : Option Addr) (c1 : Nat) (A2 : Option Addr) (c2 : Nat) (A3 : Option Addr) (c3 : Nat) : Prop where
  blk : W.heap[qb]? = some (refO A1 ah.length c1 h.f0 A2 h.f1.length c2 A3 be.length c3)
  l1 : ah.length ≤ c1
  l2 : h.f1.length ≤ c2
  l3 : be.length ≤ c3
  f1 : Kd.F k27 W D A1 ah.length ah
  f2 : Kd.F k76 W D A2 h.f1.length h.f1
  f3 : Kd.F k27 W D A3 be.length be
theorem RefR.open_ {W : World} {D : Nat → Prop} {qb : Nat} {ah be : List S27} {h : S27} (hr : RefR W D qb ah h be) : ∃ A1 c1 A2 c2 A3 c3, RefC W D qb ah h be A1 c1 A2 c2 A3 c3 := by
  obtain ⟨A1, c1, A2, c2, A3, c3, h0, l1, l2, l3, f1, f2, f3⟩ := hr.ex
  exact ⟨A1, c1, A2, c2, A3, c3, h0, l1, l2, l3, f1, f2, f3⟩
theorem RefC.below {W W' : World} {D : Nat → Prop} {qb : Nat} {ah be : List S27} {h : S27} {A1 A2 A3 : Option Addr} {c1 c2 c3 : Nat} (hr : RefC W D qb ah h be A1 c1 A2 c2 A3 c3) (hb : Below W.heap.size W W') : RefC W' D qb ah h be A1 c1 A2 c2 A3 c3 :=
  ⟨blk_below hr.blk hb, hr.l1, hr.l2, hr.l3, Kd.F_below hr.f1 hb, Kd.F_below hr.f2 hb, Kd.F_below hr.f3 hb⟩
def RefPost (qb : Nat) (D : Nat → Prop) (er : Int) (ah : List S27) (h : S27) (be : List S27) (w : World) (e : Ending) (w' : World) : Prop :=
  e = .returned (.int .i64 er) ∧ RefR w' (fun k => D k ∨ (w.heap.size ≤ k ∧ k < w'.heap.size)) qb ah h be ∧ Wr (· = qb) w w'
set_option maxRecDepth 100000 in
set_option maxHeartbeats 1000000 in
theorem refUndo_no (qb : Nat) (D : Nat → Prop) (h : S27) (be : List S27) (w : World) (hq : RefR w D qb [] h be) :
    Calls Try.prog 18 #[.pointer (some ⟨qb, 0, none⟩)] w (RefPost qb D 270 [] h be w) := by
  obtain ⟨A1, c1, A2, c2, A3, c3, hc⟩ := hq.open_
  have q0 : w.cell? ⟨qb, 0, none⟩ = some (.slice A1 0 c1) := blk_cell hc.blk 0
  have HP : Hid (RefPost qb D 270 [] h be w (.returned (.int .i64 270)) w) := ⟨rfl, hq.mono (fun k _ hk => .inl hk), Wr.refl _ _⟩
  clear hq hc
  go_enter Try.func18, Try.ntmps18
  go_wp2_with fail
  go_ret
  exact HP.out
theorem one_row {W : World} {D : Nat → Prop} {base : Nat} {nx : Int} {A2 : Option Addr} {c2 : Nat} {l : List S76} (hb : base ≤ W.heap.size) (hD : ∀ k, D k → k < base) (h2 : l.length ≤ c2) (f2 : Kd.F k76 W D A2 l.length l) :
    Kd.N k27 27 (W.alloc (.cells #[.int .i64 nx, .slice A2 l.length c2] 27)) base (fun k => D k ∨ base ≤ k) (.slice (some ⟨W.heap.size, 0, none⟩) 1 1) [⟨nx, l⟩] := by
  have hk1 : (W.alloc (.cells #[.int .i64 nx, .slice A2 l.length c2] 27)).heap[W.heap.size]? = some (.cells #[.int .i64 nx, .slice A2 l.length c2] 27 (0, 0)) := blk_new _ _
  refine ⟨fun k hk => ?_, [[.int .i64 nx, .slice A2 l.length c2]], rfl, ⟨fun k hk => hk.symm, [.int .i64 nx, .slice A2 l.length c2], ⟨rfl, .inr ⟨W.heap.size, 1, _, rfl, hb, hk1, Nat.le_refl _, by simp [maxLen], rfl, rfl⟩⟩, ⟨rfl, fun j p hj => ?_⟩⟩, fun j x c hx hc => ?_⟩
  · obtain rfl : W.heap.size = k := by simpa [Value.ownBlock] using hk
    exact .inr hb
  · cases j with
    | zero =>
      obtain rfl : _ = p := Option.some.inj hj
      refine ⟨rfl, rfl, fun u hu => ?_⟩
      rcases List.mem_cons.1 hu with rfl | hu
      · rfl
      · rw [List.mem_singleton.1 hu]; rfl
    | succ j => simp at hj
  · cases j with
    | zero =>
      obtain rfl : _ = x := Option.some.inj hx
      obtain rfl : _ = c := Option.some.inj hc
      exact Kd.FK_mono (k27_mkF _ D ⟨nx, l⟩ h2 (Kd.F_alloc f2 _)) (fun k hk => ⟨.inl hk, fun e => by
        have := hD k hk
        have e' : k = W.heap.size := by simpa [Value.ownBlock] using e
        omega⟩)
    | succ j => simp at hx
end Go.Proofs.Ytlopfkkegjajlaa
namespace Go.Proofs.Ytlopfkkegjajlaa
open Go.RowKit Go.Proofs.YtlopfkkegjajlaaW.PrintWords PHistoryTouched
theorem Addr_add_off (ad : Addr) (n : Nat) : (⟨(ad.add n).block, (ad.add n).off + 1, none⟩ : Addr) = ad.add (n + 1) := by
  unfold Addr.add
  by_cases h : n = 0
  · subst h; simp
  · simp [h, Nat.add_assoc]
theorem addr_block (ad : Addr) (n : Nat) : (ad.add n).block = ad.block := by
  unfold Addr.add
  split <;> rfl
theorem step_append27 {C : World → Prop} {K : Act → World → Prop} {o : Oper} {a : Act} {W w0 : World} (base : Nat) (hgd : o.guard = none) (s x : Operand)
    (ho : o.op = .call { callee := .builtin .append, args := #[s, x], argTypes := #[22, 22] }) (v : Value) (xs ys : List S27) (A : Option Addr) (m c : Nat) (ok okp : Nat → Prop) (hs : a.eval s = v) (hx : a.eval x = .slice A m c)
    (HO : Kd.N k27 27 W base ok v xs) (HR : Kd.F k27 W okp A m ys) (hokp : ∀ k, okp k → ok k ∧ some k ≠ v.ownBlock) (hfresh : ∀ k, W.heap.size ≤ k → ok k) (HB : Below base w0 W) (hbase : base ≤ W.heap.size) (hl : (xs.length + m) * 32 ≤ 140737488355328)
    (h : ∀ v1 w1, Kd.N k27 27 w1 base ok v1 (xs ++ ys) → Below base w0 w1 → W.grownBy w1 v.ownBlock → (v1.ownBlock = v.ownBlock ∨ ∃ b, v1.ownBlock = some b ∧ W.heap.size ≤ b) → C w1 ∧ K (a.put o.dst v1) w1) :
    o.wp Try.prog a W (fun a' w' => C w' ∧ K a' w') (fun _ _ _ => False) := by
  have hw : Region.wanted o (yielded #[] a.tmps) = true := by unfold Region.wanted; rw [hgd]
  have := Kd.N_append_rows_step (P := Try.prog) (Q := fun _ _ _ => False) (Kc := fun a' w' => C w' ∧ K a' w') (ops := #[]) k27 base hw s x 22 27 (.agg #[.int .i64 0, .slice none 0 0]) 32 ho Try.underlying22 info27 rfl (by decide) (by decide) v xs ys A m c ok okp hs hx HO HR hokp hfresh HB hbase hl h
  rwa [if_pos hw] at this
set_option maxRecDepth 100000 in
set_option maxHeartbeats 4000000 in
theorem refUndo_yes (qb : Nat) (D : Nat → Prop) (ah : List S27) (h x : S27) (be : List S27) (w : World) (hq : RefR w D qb (ah ++ [x]) h be) (hD : ∀ k, D k → k < w.heap.size) (hqD : ¬ D qb) (hl : ah.length ≤ 1000) (hl3 : be.length ≤ 1000) :
    Calls Try.prog 18 #[.pointer (some ⟨qb, 0, none⟩)] w (RefPost qb D 0 ah x (h :: be) w) := by
  obtain ⟨A1, c1, A2, c2, A3, c3, hc⟩ := hq.open_
  have HC0 : Hid (RefC w D qb (ah ++ [x]) h be A1 c1 A2 c2 A3 c3) := hc
  have HD : Hid (∀ k, D k → k < w.heap.size) := hD
  have HQD : Hid (¬ D qb) := hqD
  have hn : (ah ++ [x]).length = ah.length + 1 := by simp
  have q0 : w.cell? ⟨qb, 0, none⟩ = some (.slice A1 (ah.length + 1) c1) := (blk_cell hc.blk 0).trans (by rw [hn]; rfl)
  clear hq hc hD hqD
  have hz : ((ah.length : Int) + 1 == 0) = false := by rw [beq_eq_false_iff_ne]; omega
  have HN : Hid ((ah ++ [x]).length = ah.length + 1) := hn
  clear hn
  go_enter Try.func18, Try.ntmps18
  go_wp2_with fail
  have s1 : ∀ y : BW w, y.1.cell? ⟨qb, 1, none⟩ = some (.int .i64 h.f0) := bw_cell (blk_cell HC0.out.blk 1)
  have s2 : ∀ y : BW w, y.1.cell? ⟨qb, 2, none⟩ = some (.slice A2 h.f1.length c2) := bw_cell (blk_cell HC0.out.blk 2)
  have s3 : ∀ y : BW w, y.1.cell? ⟨qb, 3, none⟩ = some (.slice A3 be.length c3) := bw_cell (blk_cell HC0.out.blk 3)
  refine wp_region_noPanic ?_
  refine wp_region_holdX (C := fun w' => ∃ x : BW w, w' = x.1) 11 [] [] [0, 1, 2, 3, 4, 6, 7, 8, 9] [5, 10] (by kernel_rfl) (by kernel_rfl) (by kernel_rfl) (by kernel_rfl) (fun _ _ _ _ _ h => (h : False).elim) ⟨⟨{ w with drawn := w.drawn + 1 }, ⟨rfl, rfl, rfl, Nat.le_refl _, fun _ _ => rfl⟩⟩, rfl⟩ ?_
  simp only [pickOps, Option.elim_some, List.getElem?_cons_succ, List.getElem?_cons_zero, List.drop_succ_cons, List.drop_zero]
  repeat (go_big_quiet_step (fail))
  refine wpQuiet_nil ?_
  rintro _ ⟨y, rfl⟩
  have HB1 : Hid (Below w.heap.size w y.1) := y.2
  have HC1 : Hid (RefC y.1 D qb (ah ++ [x]) h be A1 c1 A2 c2 A3 c3) := HC0.out.below y.2
  clear s1 s2 s3 q0
  obtain ⟨w1, hw1⟩ := y
  dsimp only at HB1 HC1 ⊢
  clear hw1
  refine runX_step (crem := [5, 10]) (rs := [5]) (by kernel_rfl) ⟨?_, trivial⟩
  refine ⟨_, rfl, rfl, .inr (.inl ⟨.slice (some ⟨w1.heap.size, 0, none⟩) 1 1, w1.alloc (.cells #[.int .i64 h.f0, .slice A2 h.f1.length c2] 27), ?_, ⟨⟨_, below_alloc HB1.out _⟩, rfl⟩, ?_⟩)⟩
  · go_simp
  simp only [Act.put, List.getElem_toArray, List.getElem_cons_succ, List.getElem_cons_zero, List.setIfInBounds_toArray, List.set_cons_zero, List.set_cons_succ]
  have HN2 : Hid (Kd.N k27 27 (w1.alloc (.cells #[.int .i64 h.f0, .slice A2 h.f1.length c2] 27)) w.heap.size (fun k => D k ∨ w.heap.size ≤ k) (.slice (some ⟨w1.heap.size, 0, none⟩) 1 1) [h]) := one_row HB1.out.size HD.out HC1.out.l2 HC1.out.f2
  have HB2 : Hid (Below w.heap.size w (w1.alloc (.cells #[.int .i64 h.f0, .slice A2 h.f1.length c2] 27))) := below_alloc HB1.out _
  have HC2 : Hid (RefC (w1.alloc (.cells #[.int .i64 h.f0, .slice A2 h.f1.length c2] 27)) D qb (ah ++ [x]) h be A1 c1 A2 c2 A3 c3) := HC1.out.below (below_alloc (Below.refl _ _) _)
  have HG : Hid (w.heap.size ≤ w1.heap.size) := HB1.out.size
  generalize (w1.alloc (.cells #[.int .i64 h.f0, .slice A2 h.f1.length c2] 27)) = w2 at HN2 HB2 HC2 ⊢
  generalize w1.heap.size = g1 at HN2 HG ⊢
  clear HB1 HC1
  refine runX_step (crem := [10]) (rs := [10]) (by kernel_rfl) ⟨?_, trivial⟩
  refine ⟨_, rfl, rfl, .inr (.inr ?_)⟩
  refine step_append27 (w0 := w) w.heap.size rfl (.tmp 16) (.tmp 20) rfl (.slice (some ⟨g1, 0, none⟩) 1 1) [h] be A3 be.length c3 (fun k => D k ∨ w.heap.size ≤ k) D rfl rfl HN2.out HC2.out.f3
    (fun k hk => ⟨.inl hk, fun e => by
      have h1 := HD.out k hk
      have h2 := HG.out
      have e' : k = g1 := by simpa [Value.ownBlock] using e
      omega⟩) (fun k hk => .inr (Nat.le_trans HB2.out.size hk)) HB2.out HB2.out.size (by simp; omega) ?_
  intro v1 w3 hN hB hg _
  refine ⟨⟨⟨w3, hB⟩, rfl⟩, ?_⟩
  simp only [Act.put, List.getElem_toArray, List.getElem_cons_succ, List.getElem_cons_zero, List.setIfInBounds_toArray, List.set_cons_zero, List.set_cons_succ]
  obtain ⟨A9, c9, rfl⟩ := Kd.N_slice hN
  have HB3 : Hid (Below w.heap.size w w3) := hB
  have HC3 : Hid (RefC w3 D qb (ah ++ [x]) h be A1 c1 A2 c2 A3 c3) := HC0.out.below hB
  have HF3 : Hid (Kd.F k27 w3 (fun k => D k ∨ w.heap.size ≤ k) A9 (be.length + 1) (h :: be)) := Kd.N_F hN
  have hc9 : (be.length + 1) ≤ c9 := by
    obtain ⟨A8, c8, e8, h8, _⟩ := Kd.N_reads hN
    injection e8 with _ _ e3
    have h9 : ([h] ++ be).length ≤ c9 := by rw [e3]; exact h8
    exact h9
  have HC9 := hidm hc9
  clear hN hB hg HN2 HB2 HC2 HG hc9
  obtain ⟨ad, Ax, cx, hade, z0, z1, hlx, _⟩ := at_T27 (Kd.F_now HC3.out.f1) (ah.length : Int) (by omega) (by have := HN.out; omega)
  have hA : A1 = some ad := hade
  subst hA
  clear hade
  have hx : rd_T27 (ah ++ [x]) (ah.length : Int) = x := by simp [rd_T27, List.getD_eq_getElem?_getD]
  rw [hx] at z0 z1 hlx
  simp only [Int.toNat_natCast] at z0 z1
  have HLX := hidm hlx
  obtain ⟨ad', cs', hae, hcl, hFK, hcc, _⟩ := Kd.F_get HC3.out.f1 z27 (ah.length : Int) (by omega) (by have := HN.out; omega)
  have HFX : Hid (Kd.F k76 w3 D Ax x.f1.length x.f1) := by
    obtain ⟨A7, c7, he7, _, hF7⟩ := k27_openF hFK
    have e0 : (ah ++ [x]).getD (ah.length : Int).toNat z27 = x := by simp [List.getD_eq_getElem?_getD]
    rw [e0] at he7 hF7
    injection hae with hae
    subst hae
    have h1 := hcc 1 (.slice A7 x.f1.length c7) (by rw [he7]; rfl)
    have h2 : w3.cell? (ad.add (ah.length * 2 + 1)) = some (.slice Ax x.f1.length cx) := by
      rw [← Addr_add_off]; exact z1
    have h3 : (ah.length : Int).toNat * k27.sz + 1 = ah.length * 2 + 1 := rfl
    rw [h3, h2] at h1
    injection h1 with h1
    injection h1 with h1 _ _
    rw [h1]; exact hF7
  clear hlx hae hcl hFK hcc
  have hne : ad.block ≠ qb := fun e => by
    have := Kd.F_in HC3.out.f1 rfl (by have := HN.out; omega) (by decide)
    rw [e] at this
    exact HQD.out this
  have hb3 : w3.heap[qb]? = some (refO (some ad) (ah.length + 1) c1 h.f0 A2 h.f1.length c2 A3 be.length c3) := by have := HC3.out.blk; rwa [HN.out] at this
  have HK3 := hidm hb3
  have HK4 : Hid ((w3.setCell ⟨qb, 3, none⟩ (.slice A9 (be.length + 1) c9)).heap[qb]? = some (refO (some ad) (ah.length + 1) c1 h.f0 A2 h.f1.length c2 A9 (be.length + 1) c9)) := blk_put hb3 3 _ rfl
  have HK5 : Hid ((((w3.setCell ⟨qb, 3, none⟩ (.slice A9 (be.length + 1) c9)).setCell ⟨qb, 1, none⟩ (.int .i64 x.f0)).setCell ⟨qb, 2, none⟩ (.slice Ax x.f1.length cx)).heap[qb]? = some (refO (some ad) (ah.length + 1) c1 x.f0 Ax x.f1.length cx A9 (be.length + 1) c9)) := blk_put (blk_put HK4.out 1 _ rfl) 2 _ rfl
  have HK6 : Hid (((((w3.setCell ⟨qb, 3, none⟩ (.slice A9 (be.length + 1) c9)).setCell ⟨qb, 1, none⟩ (.int .i64 x.f0)).setCell ⟨qb, 2, none⟩ (.slice Ax x.f1.length cx)).setCell ⟨qb, 0, none⟩ (.slice (some ad) ah.length c1)).heap[qb]? = some (refO (some ad) ah.length c1 x.f0 Ax x.f1.length cx A9 (be.length + 1) c9)) := blk_put HK5.out 0 _ rfl
  clear hb3
  have q0 : w3.cell? ⟨qb, 3, none⟩ = some (.slice A3 be.length c3) := blk_cell HK3.out 3
  have f0 : ∀ i, w3.frozen? ⟨qb, i, none⟩ = false := blk_frozen HK3.out
  have q1 : (w3.setCell ⟨qb, 3, none⟩ (.slice A9 (be.length + 1) c9)).cell? ⟨qb, 0, none⟩ = some (.slice (some ad) (ah.length + 1) c1) := blk_cell HK4.out 0
  have q2 : (w3.setCell ⟨qb, 3, none⟩ (.slice A9 (be.length + 1) c9)).cell? ⟨qb, 1, none⟩ = some (.int .i64 h.f0) := blk_cell HK4.out 1
  have q3 : (w3.setCell ⟨qb, 3, none⟩ (.slice A9 (be.length + 1) c9)).cell? ⟨qb, 2, none⟩ = some (.slice A2 h.f1.length c2) := blk_cell HK4.out 2
  have f1 : ∀ i, (w3.setCell ⟨qb, 3, none⟩ (.slice A9 (be.length + 1) c9)).frozen? ⟨qb, i, none⟩ = false := blk_frozen HK4.out
  have y0 : (w3.setCell ⟨qb, 3, none⟩ (.slice A9 (be.length + 1) c9)).cell? (ad.add (ah.length * 2)) = some (.int .i64 x.f0) := by
    rw [cell_far (by rw [addr_block]; exact hne)]; exact z0
  have y1 : (w3.setCell ⟨qb, 3, none⟩ (.slice A9 (be.length + 1) c9)).cell? ⟨(ad.add (ah.length * 2)).block, (ad.add (ah.length * 2)).off + 1, none⟩ = some (.slice Ax x.f1.length cx) := by
    rw [cell_far (by show (ad.add (ah.length * 2)).block ≠ qb; rw [addr_block]; exact hne)]; exact z1
  have q5 : (((w3.setCell ⟨qb, 3, none⟩ (.slice A9 (be.length + 1) c9)).setCell ⟨qb, 1, none⟩ (.int .i64 x.f0)).setCell ⟨qb, 2, none⟩ (.slice Ax x.f1.length cx)).cell? ⟨qb, 0, none⟩ = some (.slice (some ad) (ah.length + 1) c1) := blk_cell HK5.out 0
  have f2 : ∀ i, (((w3.setCell ⟨qb, 3, none⟩ (.slice A9 (be.length + 1) c9)).setCell ⟨qb, 1, none⟩ (.int .i64 x.f0)).setCell ⟨qb, 2, none⟩ (.slice Ax x.f1.length cx)).frozen? ⟨qb, i, none⟩ = false := blk_frozen HK5.out
  have HO : Hid (RefPost qb D 0 ah x (h :: be) w (.returned (.int .i64 0)) ((((w3.setCell ⟨qb, 3, none⟩ (.slice A9 (be.length + 1) c9)).setCell ⟨qb, 1, none⟩ (.int .i64 x.f0)).setCell ⟨qb, 2, none⟩ (.slice Ax x.f1.length cx)).setCell ⟨qb, 0, none⟩ (.slice (some ad) ah.length c1))) := by
    have hDne : ∀ k, (D k ∨ (w.heap.size ≤ k ∧ k < w3.heap.size)) → k ≠ qb := by
      rintro k (hk | hk) rfl
      · exact HQD.out hk
      · have := blk_lt HC0.out.blk; omega
    have hmv : ∀ k, (D k ∨ (w.heap.size ≤ k ∧ k < w3.heap.size)) → ((((w3.setCell ⟨qb, 3, none⟩ (.slice A9 (be.length + 1) c9)).setCell ⟨qb, 1, none⟩ (.int .i64 x.f0)).setCell ⟨qb, 2, none⟩ (.slice Ax x.f1.length cx)).setCell ⟨qb, 0, none⟩ (.slice (some ad) ah.length c1)).heap[k]? = w3.heap[k]? := fun k hk => by
      rw [Below.heap_setCell _ ⟨qb, 0, none⟩ _ k (hDne k hk), Below.heap_setCell _ ⟨qb, 2, none⟩ _ k (hDne k hk), Below.heap_setCell _ ⟨qb, 1, none⟩ _ k (hDne k hk), Below.heap_setCell _ ⟨qb, 3, none⟩ _ k (hDne k hk)]
    have hsz : ((((w3.setCell ⟨qb, 3, none⟩ (.slice A9 (be.length + 1) c9)).setCell ⟨qb, 1, none⟩ (.int .i64 x.f0)).setCell ⟨qb, 2, none⟩ (.slice Ax x.f1.length cx)).setCell ⟨qb, 0, none⟩ (.slice (some ad) ah.length c1)).heap.size = w3.heap.size := by simp
    refine ⟨rfl, ⟨_, _, _, _, _, _, HK6.out, by have := HC3.out.l1; rw [HN.out] at this; omega, HLX.out, HC9.out, ?_, ?_, ?_⟩, ((((Wr.of_below (S := (· = qb)) HB3.out).set qb 3 _ (.inl rfl)).set qb 1 _ (.inl rfl)).set qb 2 _ (.inl rfl)).set qb 0 _ (.inl rfl)⟩
    · have h1 := Kd.F_take (m := ah.length) HC3.out.f1 (by rw [HN.out]; omega)
      rw [List.take_left] at h1
      exact Kd.F_mono (Kd.F_step h1 (fun k hk _ => hmv k (.inl hk))) (fun k hk => .inl hk)
    · exact Kd.F_mono (Kd.F_step HFX.out (fun k hk _ => hmv k (.inl hk))) (fun k hk => .inl hk)
    · exact Kd.F_mono (Kd.F_step (Kd.F_bound HF3.out) (fun k hk hlt => hmv k (hk.1.imp id (fun h => ⟨h, hlt⟩)))) (fun k hk => hk.1.imp id (fun h => ⟨h, by rw [hsz]; exact hk.2⟩))
  have h20 : (0 : Int) ≤ (ah.length : Int) := by omega
  have h21 : (ah.length : Int) < (ah.length : Int) + 1 := by omega
  have h22 : (ah.length : Int) ≤ (c1 : Int) := by have := HC3.out.l1; rw [HN.out] at this; omega
  have hw9 : IntKind.i64.wrap ((ah.length : Int) + 1 - 1) = (ah.length : Int) := by rw [show (ah.length : Int) + 1 - 1 = (ah.length : Int) by omega]; exact IntWalk.i64_in _ (by omega)
  clear HK3 HK4 HK5 HK6 HC3 HF3 HB3 z0 z1 hx HFX HLX
  show wpList _ _ _ _ _ _
  go_wp2_with fail
  refine NoPanic.normal ?_
  go_wp2_with fail
  go_ret
  exact HO.out
end Go.Proofs.Ytlopfkkegjajlaa
namespace Go.Proofs.Ytlopfkkegjajlaa
open Go.RowKit Go.Proofs.YtlopfkkegjajlaaW.PrintWords PHistoryTouched
theorem empty_row (W : World) (base : Nat) (D : Nat → Prop) (hb : base ≤ W.heap.size) : Kd.N k27 27 (W.alloc (.cells #[] 27)) base (fun k => D k ∨ base ≤ k) (.slice (some ⟨W.heap.size, 0, none⟩) 0 0) [] :=
  Kd.N_mono (Kd.N_lower (Kd.R_N (Kd.R_mono (Kd.R_bound (R_empty k27 W 27)) (ok' := fun k => D k ∨ base ≤ k) (fun _ hk => .inr (Nat.le_trans hb hk.2.1)))) hb) (fun _ h => h)
theorem one_row' {W : World} {D : Nat → Prop} {base : Nat} {nx : Int} {A2 : Option Addr} {c2 : Nat} {l : List S76} (hb : base ≤ W.heap.size) (h2 : l.length ≤ c2) (f2 : Kd.F k76 W D A2 l.length l) :
    Kd.F k27 (W.alloc (.cells #[.int .i64 nx, .slice A2 l.length c2] 27)) (fun k => D k ∨ k = W.heap.size) (some ⟨W.heap.size, 0, none⟩) 1 [⟨nx, l⟩] := by
  have hk1 : (W.alloc (.cells #[.int .i64 nx, .slice A2 l.length c2] 27)).heap[W.heap.size]? = some (.cells #[.int .i64 nx, .slice A2 l.length c2] 27 (0, 0)) := blk_new _ _
  obtain ⟨A, c, he, _, hF⟩ := F_own (d := k27) (base := base) (e := 27) (w := W.alloc (.cells #[.int .i64 nx, .slice A2 l.length c2] 27)) (ok := fun k => D k ∨ k = W.heap.size) (v := .slice (some ⟨W.heap.size, 0, none⟩) 1 1) (xs := [⟨nx, l⟩]) (inner := [.int .i64 nx, .slice A2 l.length c2])
    ⟨rfl, .inr ⟨W.heap.size, 1, _, rfl, hb, hk1, Nat.le_refl _, by simp [maxLen], rfl, rfl⟩⟩
    ⟨rfl, fun j p hj => by
      cases j with
      | zero =>
        obtain rfl : _ = p := Option.some.inj hj
        exact Kd.FK_mono (k27_mkF _ D ⟨nx, l⟩ h2 (Kd.F_alloc f2 _)) (fun k hk => .inl hk)
      | succ j => simp at hj⟩
    (fun k hk => .inr (by simpa [Value.ownBlock] using hk.symm))
  injection he with h1 _ _
  subst h1
  exact hF
set_option maxRecDepth 100000 in
set_option maxHeartbeats 1000000 in
theorem refRedo_no (qb : Nat) (D : Nat → Prop) (ah : List S27) (h : S27) (w : World) (hq : RefR w D qb ah h []) :
    Calls Try.prog 21 #[.pointer (some ⟨qb, 0, none⟩)] w (RefPost qb D 270 ah h [] w) := by
  obtain ⟨A1, c1, A2, c2, A3, c3, hc⟩ := hq.open_
  have q0 : w.cell? ⟨qb, 3, none⟩ = some (.slice A3 0 c3) := blk_cell hc.blk 3
  have HP : Hid (RefPost qb D 270 ah h [] w (.returned (.int .i64 270)) w) := ⟨rfl, hq.mono (fun k _ hk => .inl hk), Wr.refl _ _⟩
  clear hq hc
  go_enter Try.func21, Try.ntmps21
  go_wp2_with fail
  go_ret
  exact HP.out
theorem redo_done {w w9 : World} {D : Nat → Prop} {qb : Nat} {ah be : List S27} {h x : S27} {A1 A2 A8 Ax A3' : Option Addr} {c1 c2 c3 c8 cx : Nat} {ad : Addr} (hq : qb < w.heap.size) (hqD : ¬ D qb) (hX : Below w.heap.size w w9)
    (HC : RefC w9 D qb ah h (x :: be) A1 c1 A2 c2 (some ad) c3) (HF : Kd.F k27 w9 (fun k => D k ∨ w.heap.size ≤ k) A8 (ah.length + 1) (ah ++ [h])) (hc8 : ah.length + 1 ≤ c8) (hlx : x.f1.length ≤ cx)
    (z1 : w9.cell? ⟨ad.block, ad.off + 1, none⟩ = some (.slice Ax x.f1.length cx)) (h3 : A3' = if c3 = 1 then some ad else some (ad.add 2)) : RefPost qb D 0 (ah ++ [h]) x be w (.returned (.int .i64 0)) ((((w9.setCell ⟨qb, 0, none⟩ (.slice A8 (ah.length + 1) c8)).setCell ⟨qb, 1, none⟩ (.int .i64 x.f0)).setCell ⟨qb, 2, none⟩ (.slice Ax x.f1.length cx)).setCell ⟨qb, 3, none⟩ (.slice A3' be.length (c3 - 1))) := by
  have HFX : Kd.F k76 w9 D Ax x.f1.length x.f1 := by
    obtain ⟨ad', cs', hae, hcl, hFK, hcc, _⟩ := Kd.F_get HC.f3 z27 0 (by omega) (by simp)
    obtain ⟨A7, c7, he7, _, hF7⟩ := k27_openF hFK
    have e0 : (x :: be).getD (0 : Int).toNat z27 = x := rfl
    rw [e0] at he7 hF7
    injection hae with hae
    subst hae
    have h1 := hcc 1 (.slice A7 x.f1.length c7) (by rw [he7]; rfl)
    have h2 : w9.cell? (ad.add 1) = some (.slice Ax x.f1.length cx) := by simpa [Addr.add] using z1
    have h3 : (0 : Int).toNat * k27.sz + 1 = 1 := rfl
    rw [h3, h2] at h1
    injection h1 with h1
    injection h1 with h1 _ _
    rw [h1]; exact hF7
  have hDne : ∀ k, (D k ∨ (w.heap.size ≤ k ∧ k < w9.heap.size)) → k ≠ qb := by
    rintro k (hk | hk) rfl
    · exact hqD hk
    · omega
  have hmv : ∀ k, (D k ∨ (w.heap.size ≤ k ∧ k < w9.heap.size)) → ((((w9.setCell ⟨qb, 0, none⟩ (.slice A8 (ah.length + 1) c8)).setCell ⟨qb, 1, none⟩ (.int .i64 x.f0)).setCell ⟨qb, 2, none⟩ (.slice Ax x.f1.length cx)).setCell ⟨qb, 3, none⟩ (.slice A3' be.length (c3 - 1))).heap[k]? = w9.heap[k]? := fun k hk => by
    rw [Below.heap_setCell _ ⟨qb, 3, none⟩ _ k (hDne k hk), Below.heap_setCell _ ⟨qb, 2, none⟩ _ k (hDne k hk), Below.heap_setCell _ ⟨qb, 1, none⟩ _ k (hDne k hk), Below.heap_setCell _ ⟨qb, 0, none⟩ _ k (hDne k hk)]
  have hsz : ((((w9.setCell ⟨qb, 0, none⟩ (.slice A8 (ah.length + 1) c8)).setCell ⟨qb, 1, none⟩ (.int .i64 x.f0)).setCell ⟨qb, 2, none⟩ (.slice Ax x.f1.length cx)).setCell ⟨qb, 3, none⟩ (.slice A3' be.length (c3 - 1))).heap.size = w9.heap.size := by simp
  have hl3 : be.length + 1 ≤ c3 := HC.l3
  have hb : ((((w9.setCell ⟨qb, 0, none⟩ (.slice A8 (ah.length + 1) c8)).setCell ⟨qb, 1, none⟩ (.int .i64 x.f0)).setCell ⟨qb, 2, none⟩ (.slice Ax x.f1.length cx)).setCell ⟨qb, 3, none⟩ (.slice A3' be.length (c3 - 1))).heap[qb]? = some (refO A8 (ah ++ [h]).length c8 x.f0 Ax x.f1.length cx A3' be.length (c3 - 1)) := by
    rw [show (ah ++ [h]).length = ah.length + 1 by simp]
    exact blk_put (blk_put (blk_put (blk_put HC.blk 0 _ rfl) 1 _ rfl) 2 _ rfl) 3 _ rfl
  refine ⟨rfl, ⟨_, _, _, _, _, _, hb, by simpa using hc8, hlx, by omega, ?_, ?_, ?_⟩, ((((Wr.of_below (S := (· = qb)) hX).set qb 0 _ (.inl rfl)).set qb 1 _ (.inl rfl)).set qb 2 _ (.inl rfl)).set qb 3 _ (.inl rfl)⟩
  · rw [show (ah ++ [h]).length = ah.length + 1 by simp]
    exact Kd.F_mono (Kd.F_step (Kd.F_bound HF) (fun k hk hlt => hmv k (hk.1.imp id (fun h => ⟨h, hlt⟩)))) (fun k hk => hk.1.imp id (fun h => ⟨h, by rw [hsz]; exact hk.2⟩))
  · exact Kd.F_mono (Kd.F_step HFX (fun k hk _ => hmv k (.inl hk))) (fun k hk => .inl hk)
  · have h1 := Kd.F_cut (m := 1) (c := c3) HC.f3 (by simp) HC.l3
    have h4 : (if c3 = 1 then some ad else (some ad).map (·.add (1 * k27.sz))) = A3' := by rw [h3]; rfl
    rw [h4] at h1
    exact Kd.F_mono (Kd.F_step h1 (fun k hk _ => hmv k (.inl hk))) (fun k hk => .inl hk)
set_option maxRecDepth 100000 in
set_option maxHeartbeats 8000000 in
theorem refRedo_yes (qb : Nat) (D : Nat → Prop) (ah : List S27) (h x : S27) (be : List S27) (w : World) (hq : RefR w D qb ah h (x :: be)) (hD : ∀ k, D k → k < w.heap.size) (hqD : ¬ D qb) (hl : ah.length ≤ 1000) (hl3 : be.length ≤ 1000) :
    Calls Try.prog 21 #[.pointer (some ⟨qb, 0, none⟩)] w (RefPost qb D 0 (ah ++ [h]) x be w) := by
  obtain ⟨A1, c1, A2, c2, A3, c3, hc⟩ := hq.open_
  have HC0 : Hid (RefC w D qb ah h (x :: be) A1 c1 A2 c2 A3 c3) := hc
  have HD : Hid (∀ k, D k → k < w.heap.size) := hD
  have HQD : Hid (¬ D qb) := hqD
  have q0 : w.cell? ⟨qb, 3, none⟩ = some (.slice A3 (be.length + 1) c3) := blk_cell hc.blk 3
  clear hq hc hD hqD
  have hz : ((be.length : Int) + 1 == 0) = false := by rw [beq_eq_false_iff_ne]; omega
  go_enter Try.func21, Try.ntmps21
  go_wp2_with fail
  have s0 : ∀ y : BW w, y.1.cell? ⟨qb, 0, none⟩ = some (.slice A1 ah.length c1) := bw_cell (blk_cell HC0.out.blk 0)
  have s1 : ∀ y : BW w, y.1.cell? ⟨qb, 1, none⟩ = some (.int .i64 h.f0) := bw_cell (blk_cell HC0.out.blk 1)
  have s2 : ∀ y : BW w, y.1.cell? ⟨qb, 2, none⟩ = some (.slice A2 h.f1.length c2) := bw_cell (blk_cell HC0.out.blk 2)
  refine wp_region_noPanic ?_
  refine wp_region_holdX (C := fun w' => ∃ x : BW w, w' = x.1) 13 [] [] [0, 2, 3, 4, 5, 7, 8, 9, 10] [1, 6, 11, 12] (by kernel_rfl) (by kernel_rfl) (by kernel_rfl) (by kernel_rfl) (fun _ _ _ _ _ h => (h : False).elim) ⟨⟨{ w with drawn := w.drawn + 1 }, ⟨rfl, rfl, rfl, Nat.le_refl _, fun _ _ => rfl⟩⟩, rfl⟩ ?_
  simp only [pickOps, Option.elim_some, List.getElem?_cons_succ, List.getElem?_cons_zero, List.drop_succ_cons, List.drop_zero]
  repeat (go_big_quiet_step (fail))
  refine wpQuiet_nil ?_
  rintro _ ⟨y, rfl⟩
  have HX : Hid (Below w.heap.size w y.1) := y.2
  clear s0 s1 s2 q0
  obtain ⟨w1, hw1⟩ := y
  dsimp only at HX ⊢
  clear hw1
  refine runX_step (crem := [1, 6, 11, 12]) (rs := [1, 11]) (by kernel_rfl) ⟨?_, ?_, trivial⟩
  · refine ⟨_, rfl, rfl, .inr (.inl ⟨.slice (some ⟨w1.heap.size, 0, none⟩) 0 0, (w1.alloc (.cells #[] 27)), by go_simp, ⟨⟨_, below_alloc HX.out _⟩, rfl⟩, ?_⟩)⟩
    simp only [Act.put, List.getElem_toArray, List.getElem_cons_succ, List.getElem_cons_zero, List.setIfInBounds_toArray, List.set_cons_zero, List.set_cons_succ]
    have HE : Hid (Kd.N k27 27 (w1.alloc (.cells #[] 27)) w.heap.size (fun k => D k ∨ w.heap.size ≤ k) (.slice (some ⟨w1.heap.size, 0, none⟩) 0 0) []) := empty_row w1 w.heap.size D HX.out.size
    have HGE : Hid (w.heap.size ≤ w1.heap.size) := HX.out.size
    replace HX := hidm (below_alloc HX.out (.cells #[] 27))
    generalize (w1.alloc (.cells #[] 27)) = wE at HE HX ⊢
    generalize w1.heap.size = gE at HE HGE ⊢
    refine runX_step (crem := [6, 11, 12]) (rs := [6, 11]) (by kernel_rfl) ⟨?_, ?_, trivial⟩
    · refine ⟨_, rfl, rfl, .inr (.inr ?_)⟩
      refine step_append27 (w0 := w) w.heap.size rfl (.tmp 10) (.tmp 14) rfl (.slice (some ⟨gE, 0, none⟩) 0 0) [] ah A1 ah.length c1 (fun k => D k ∨ w.heap.size ≤ k) D rfl rfl HE.out (Kd.F_below HC0.out.f1 HX.out)
        (fun k hk => ⟨.inl hk, fun e => by
          have h1 := HD.out k hk
          have h2 := HGE.out
          have e' : k = gE := by simpa [Value.ownBlock] using e
          omega⟩) (fun k hk => .inr (Nat.le_trans HX.out.size hk)) HX.out HX.out.size (by simp; omega) ?_
      intro v1 wA hN hX hg hat
      refine ⟨⟨⟨wA, hX⟩, rfl⟩, ?_⟩
      simp only [Act.put, List.getElem_toArray, List.getElem_cons_succ, List.getElem_cons_zero, List.setIfInBounds_toArray, List.set_cons_zero, List.set_cons_succ]
      obtain ⟨A9, c9, rfl⟩ := Kd.N_slice hN
      have HV : Hid (Kd.N k27 27 wA w.heap.size (fun k => D k ∨ w.heap.size ≤ k) (.slice A9 (([] : List S27) ++ ah).length c9) (([] : List S27) ++ ah)) := hN
      replace HX : Hid (Below w.heap.size w wA) := hX
      clear hN hX hg hat HE HGE 
      refine runX_step (crem := [11, 12]) (rs := [11]) (by kernel_rfl) ⟨?_, trivial⟩
      · refine ⟨_, rfl, rfl, .inr (.inl ⟨.slice (some ⟨wA.heap.size, 0, none⟩) 1 1, (wA.alloc (.cells #[.int .i64 h.f0, .slice A2 h.f1.length c2] 27)), by go_simp, ⟨⟨_, below_alloc HX.out _⟩, rfl⟩, ?_⟩)⟩
        simp only [Act.put, List.getElem_toArray, List.getElem_cons_succ, List.getElem_cons_zero, List.setIfInBounds_toArray, List.set_cons_zero, List.set_cons_succ]
        have HH : Hid (Kd.F k27 (wA.alloc (.cells #[.int .i64 h.f0, .slice A2 h.f1.length c2] 27)) (fun k => D k ∨ k = wA.heap.size) (some ⟨wA.heap.size, 0, none⟩) 1 [h]) := one_row' HX.out.size HC0.out.l2 (Kd.F_below HC0.out.f2 HX.out)
        have HGB : Hid (w.heap.size ≤ wA.heap.size) := HX.out.size
        have HGL : Hid (wA.heap.size < (wA.alloc (.cells #[.int .i64 h.f0, .slice A2 h.f1.length c2] 27)).heap.size) := blk_lt (blk_new _ _)
        have HNV : Hid (∀ k, (Value.slice A9 (([] : List S27) ++ ah).length c9).ownBlock = some k → k ≠ wA.heap.size) := fun k hk => by have := Kd.N_lt HV.out k hk; omega
        replace HV := hidm (Kd.N_alloc HV.out (.cells #[.int .i64 h.f0, .slice A2 h.f1.length c2] 27))
        replace HX := hidm (below_alloc HX.out (.cells #[.int .i64 h.f0, .slice A2 h.f1.length c2] 27))
        generalize (wA.alloc (.cells #[.int .i64 h.f0, .slice A2 h.f1.length c2] 27)) = wH at HH HX HGL HV ⊢
        generalize wA.heap.size = gH at HH HGB HGL HNV ⊢
        refine runX_step (crem := [12]) (rs := [12]) (by kernel_rfl) ⟨?_, trivial⟩
        · refine ⟨_, rfl, rfl, .inr (.inr ?_)⟩
          refine step_append27 (w0 := w) w.heap.size rfl (.tmp 15) (.tmp 20) rfl (.slice A9 (([] : List S27) ++ ah).length c9) (([] : List S27) ++ ah) [h] (some ⟨gH, 0, none⟩) 1 1 (fun k => D k ∨ w.heap.size ≤ k) (fun k => D k ∨ k = gH) rfl rfl HV.out HH.out
            (fun k hk => ⟨hk.imp id (fun e => by rw [e]; exact HGB.out), fun e => by
              rcases hk with hk | hk
              · have h1 := HD.out k hk; have h2 := Kd.N_base HV.out k e.symm; omega
              · exact HNV.out k e.symm hk⟩) (fun k hk => .inr (Nat.le_trans HX.out.size hk)) HX.out HX.out.size (by simp; omega) ?_
          intro v1 w9 hN hX hg hat
          refine ⟨⟨⟨w9, hX⟩, rfl⟩, ?_⟩
          simp only [Act.put, List.getElem_toArray, List.getElem_cons_succ, List.getElem_cons_zero, List.setIfInBounds_toArray, List.set_cons_zero, List.set_cons_succ]
          obtain ⟨A8, c8, rfl⟩ := Kd.N_slice hN
          clear HV HH HGB HGL HNV HX hg hat
          have HX9 : Hid (Below w.heap.size w w9) := hX
          have HC9 : Hid (RefC w9 D qb ah h (x :: be) A1 c1 A2 c2 A3 c3) := HC0.out.below hX
          have hF9 : Kd.F k27 w9 (fun k => D k ∨ w.heap.size ≤ k) A8 (ah.length + 1) (ah ++ [h]) := by
            have := Kd.N_F hN
            simpa using this
          have HF9 := hidm hF9
          clear hF9
          have hc8 : ah.length + 1 ≤ c8 := by
            obtain ⟨A7, c7, e7, h7, _⟩ := Kd.N_reads hN
            injection e7 with _ _ e3
            rw [← e3] at h7
            simpa using h7
          have HC8 := hidm hc8
          clear hN hX hc8
          obtain ⟨ad, Ax, cx, hade, z0, z1, hlx, _⟩ := at_T27 (Kd.F_now HC9.out.f3) 0 (by omega) (by simp)
          have hA : A3 = some ad := hade
          subst hA
          clear hade
          have hx : rd_T27 (x :: be) 0 = x := rfl
          rw [hx] at z0 z1 hlx
          have HK3 : Hid (w9.heap[qb]? = some (refO A1 ah.length c1 h.f0 A2 h.f1.length c2 (some ad) (be.length + 1) c3)) := HC9.out.blk
          have HK4 : Hid ((w9.setCell ⟨qb, 0, none⟩ (.slice A8 (ah.length + 1) c8)).heap[qb]? = some (refO A8 (ah.length + 1) c8 h.f0 A2 h.f1.length c2 (some ad) (be.length + 1) c3)) := blk_put HK3.out 0 _ rfl
          have HK5 : Hid ((((w9.setCell ⟨qb, 0, none⟩ (.slice A8 (ah.length + 1) c8)).setCell ⟨qb, 1, none⟩ (.int .i64 x.f0)).setCell ⟨qb, 2, none⟩ (.slice Ax x.f1.length cx)).heap[qb]? = some (refO A8 (ah.length + 1) c8 x.f0 Ax x.f1.length cx (some ad) (be.length + 1) c3)) := blk_put (blk_put HK4.out 1 _ rfl) 2 _ rfl
          have hne : ad.block ≠ qb := fun e => by
            have := Kd.F_in HC9.out.f3 rfl (by simp) (by decide)
            rw [e] at this
            exact HQD.out this
          have q0 : w9.cell? ⟨qb, 0, none⟩ = some (.slice A1 ah.length c1) := blk_cell HK3.out 0
          have f0 : ∀ i, w9.frozen? ⟨qb, i, none⟩ = false := blk_frozen HK3.out
          have q1 : (w9.setCell ⟨qb, 0, none⟩ (.slice A8 (ah.length + 1) c8)).cell? ⟨qb, 3, none⟩ = some (.slice (some ad) (be.length + 1) c3) := blk_cell HK4.out 3
          have q2 : (w9.setCell ⟨qb, 0, none⟩ (.slice A8 (ah.length + 1) c8)).cell? ⟨qb, 1, none⟩ = some (.int .i64 h.f0) := blk_cell HK4.out 1
          have q3 : (w9.setCell ⟨qb, 0, none⟩ (.slice A8 (ah.length + 1) c8)).cell? ⟨qb, 2, none⟩ = some (.slice A2 h.f1.length c2) := blk_cell HK4.out 2
          have f1 : ∀ i, (w9.setCell ⟨qb, 0, none⟩ (.slice A8 (ah.length + 1) c8)).frozen? ⟨qb, i, none⟩ = false := blk_frozen HK4.out
          have y0 : (w9.setCell ⟨qb, 0, none⟩ (.slice A8 (ah.length + 1) c8)).cell? ad = some (.int .i64 x.f0) := by
            rw [cell_far hne]; simpa [Addr.add] using z0
          have y1 : (w9.setCell ⟨qb, 0, none⟩ (.slice A8 (ah.length + 1) c8)).cell? ⟨ad.block, ad.off + 1, none⟩ = some (.slice Ax x.f1.length cx) := by
            rw [cell_far hne]; simpa [Addr.add] using z1
          have q5 : (((w9.setCell ⟨qb, 0, none⟩ (.slice A8 (ah.length + 1) c8)).setCell ⟨qb, 1, none⟩ (.int .i64 x.f0)).setCell ⟨qb, 2, none⟩ (.slice Ax x.f1.length cx)).cell? ⟨qb, 3, none⟩ = some (.slice (some ad) (be.length + 1) c3) := blk_cell HK5.out 3
          have f2 : ∀ i, (((w9.setCell ⟨qb, 0, none⟩ (.slice A8 (ah.length + 1) c8)).setCell ⟨qb, 1, none⟩ (.int .i64 x.f0)).setCell ⟨qb, 2, none⟩ (.slice Ax x.f1.length cx)).frozen? ⟨qb, i, none⟩ = false := blk_frozen HK5.out
          have h20 : (1 : Int) ≤ (be.length : Int) + 1 := by omega
          have h22 : (be.length : Int) + 1 ≤ (c3 : Int) := by have := HC9.out.l3; simp at this; omega
          have HZ : Hid (w9.cell? ⟨ad.block, ad.off + 1, none⟩ = some (.slice Ax x.f1.length cx)) := by have := z1; simp [Addr.add] at this; exact this
          have HDONE := hidm (fun A3' h3 => redo_done (A3' := A3') (blk_lt HC0.out.blk) HQD.out HX9.out HC9.out HF9.out HC8.out hlx HZ.out h3)
          clear z0 z1 hlx hx HK3 HK4 HK5 HC9 HF9 HX9 HC0
          by_cases hc31 : c3 = 1
          · have HD1 := hidm (HDONE.out (some ad) (by rw [if_pos hc31]))
            show wpList _ _ _ _ _ _
            go_wp2_with fail
            refine NoPanic.normal ?_
            go_wp2_with fail
            go_ret
            have := HD1.out
            simpa [hc31] using this
          · have HD1 := hidm (HDONE.out (some ⟨ad.block, ad.off + 2, none⟩) (by rw [if_neg hc31]; simp [Addr.add]))
            show wpList _ _ _ _ _ _
            go_wp2_with fail
            refine NoPanic.normal ?_
            go_wp2_with fail
            go_ret
            exact HD1.out
    · refine ⟨_, rfl, rfl, .inr (.inl ⟨.slice (some ⟨wE.heap.size, 0, none⟩) 1 1, (wE.alloc (.cells #[.int .i64 h.f0, .slice A2 h.f1.length c2] 27)), by go_simp, ⟨⟨_, below_alloc HX.out _⟩, rfl⟩, ?_⟩)⟩
      simp only [Act.put, List.getElem_toArray, List.getElem_cons_succ, List.getElem_cons_zero, List.setIfInBounds_toArray, List.set_cons_zero, List.set_cons_succ]
      have HH : Hid (Kd.F k27 (wE.alloc (.cells #[.int .i64 h.f0, .slice A2 h.f1.length c2] 27)) (fun k => D k ∨ k = wE.heap.size) (some ⟨wE.heap.size, 0, none⟩) 1 [h]) := one_row' HX.out.size HC0.out.l2 (Kd.F_below HC0.out.f2 HX.out)
      have HGB : Hid (w.heap.size ≤ wE.heap.size) := HX.out.size
      have HGL : Hid (wE.heap.size < (wE.alloc (.cells #[.int .i64 h.f0, .slice A2 h.f1.length c2] 27)).heap.size) := blk_lt (blk_new _ _)
      have HNE : Hid (gE ≠ wE.heap.size) := by have := Kd.N_lt HE.out gE rfl; show gE ≠ wE.heap.size; omega
      replace HE := hidm (Kd.N_alloc HE.out (.cells #[.int .i64 h.f0, .slice A2 h.f1.length c2] 27))
      replace HX := hidm (below_alloc HX.out (.cells #[.int .i64 h.f0, .slice A2 h.f1.length c2] 27))
      generalize (wE.alloc (.cells #[.int .i64 h.f0, .slice A2 h.f1.length c2] 27)) = wH at HH HX HGL HE ⊢
      generalize wE.heap.size = gH at HH HGB HGL HNE ⊢
      refine runX_step (crem := [6, 12]) (rs := [6]) (by kernel_rfl) ⟨?_, trivial⟩
      · refine ⟨_, rfl, rfl, .inr (.inr ?_)⟩
        refine step_append27 (w0 := w) w.heap.size rfl (.tmp 10) (.tmp 14) rfl (.slice (some ⟨gE, 0, none⟩) 0 0) [] ah A1 ah.length c1 (fun k => D k ∨ w.heap.size ≤ k) D rfl rfl HE.out (Kd.F_below HC0.out.f1 HX.out)
          (fun k hk => ⟨.inl hk, fun e => by
            have h1 := HD.out k hk
            have h2 := HGE.out
            have e' : k = gE := by simpa [Value.ownBlock] using e
            omega⟩) (fun k hk => .inr (Nat.le_trans HX.out.size hk)) HX.out HX.out.size (by simp; omega) ?_
        intro v1 wA hN hX hg hat
        refine ⟨⟨⟨wA, hX⟩, rfl⟩, ?_⟩
        simp only [Act.put, List.getElem_toArray, List.getElem_cons_succ, List.getElem_cons_zero, List.setIfInBounds_toArray, List.set_cons_zero, List.set_cons_succ]
        obtain ⟨A9, c9, rfl⟩ := Kd.N_slice hN
        have HV : Hid (Kd.N k27 27 wA w.heap.size (fun k => D k ∨ w.heap.size ≤ k) (.slice A9 (([] : List S27) ++ ah).length c9) (([] : List S27) ++ ah)) := hN
        have HNV : Hid (∀ k, (Value.slice A9 (([] : List S27) ++ ah).length c9).ownBlock = some k → k ≠ gH) := fun k hk => by
          have h2 := HNE.out
          have h3 := HGL.out
          rcases hat with h1 | ⟨b, h1, h4⟩
          · rw [h1] at hk
            obtain rfl : gE = k := by simpa [Value.ownBlock] using hk
            exact h2
          · rw [h1] at hk
            obtain rfl : b = k := by simpa using hk
            omega
        replace HGL : Hid (gH < wA.heap.size) := Nat.lt_of_lt_of_le HGL.out hg.size
        replace HH := hidm (Kd.F_grown HH.out hg (fun k hk e => by
          have e' : k = gE := by simpa [Value.ownBlock] using e
          rcases hk with hk | hk
          · have h1 := HD.out k hk; have h2 := HGE.out; omega
          · exact HNE.out (e'.symm.trans hk)))
        replace HX : Hid (Below w.heap.size w wA) := hX
        clear hN hX hg hat HE HGE HNE
        refine runX_step (crem := [12]) (rs := [12]) (by kernel_rfl) ⟨?_, trivial⟩
        · refine ⟨_, rfl, rfl, .inr (.inr ?_)⟩
          refine step_append27 (w0 := w) w.heap.size rfl (.tmp 15) (.tmp 20) rfl (.slice A9 (([] : List S27) ++ ah).length c9) (([] : List S27) ++ ah) [h] (some ⟨gH, 0, none⟩) 1 1 (fun k => D k ∨ w.heap.size ≤ k) (fun k => D k ∨ k = gH) rfl rfl HV.out HH.out
            (fun k hk => ⟨hk.imp id (fun e => by rw [e]; exact HGB.out), fun e => by
              rcases hk with hk | hk
              · have h1 := HD.out k hk; have h2 := Kd.N_base HV.out k e.symm; omega
              · exact HNV.out k e.symm hk⟩) (fun k hk => .inr (Nat.le_trans HX.out.size hk)) HX.out HX.out.size (by simp; omega) ?_
          intro v1 w9 hN hX hg hat
          refine ⟨⟨⟨w9, hX⟩, rfl⟩, ?_⟩
          simp only [Act.put, List.getElem_toArray, List.getElem_cons_succ, List.getElem_cons_zero, List.setIfInBounds_toArray, List.set_cons_zero, List.set_cons_succ]
          obtain ⟨A8, c8, rfl⟩ := Kd.N_slice hN
          clear HV HH HGB HGL HNV HX hg hat
          have HX9 : Hid (Below w.heap.size w w9) := hX
          have HC9 : Hid (RefC w9 D qb ah h (x :: be) A1 c1 A2 c2 A3 c3) := HC0.out.below hX
          have hF9 : Kd.F k27 w9 (fun k => D k ∨ w.heap.size ≤ k) A8 (ah.length + 1) (ah ++ [h]) := by
            have := Kd.N_F hN
            simpa using this
          have HF9 := hidm hF9
          clear hF9
          have hc8 : ah.length + 1 ≤ c8 := by
            obtain ⟨A7, c7, e7, h7, _⟩ := Kd.N_reads hN
            injection e7 with _ _ e3
            rw [← e3] at h7
            simpa using h7
          have HC8 := hidm hc8
          clear hN hX hc8
          obtain ⟨ad, Ax, cx, hade, z0, z1, hlx, _⟩ := at_T27 (Kd.F_now HC9.out.f3) 0 (by omega) (by simp)
          have hA : A3 = some ad := hade
          subst hA
          clear hade
          have hx : rd_T27 (x :: be) 0 = x := rfl
          rw [hx] at z0 z1 hlx
          have HK3 : Hid (w9.heap[qb]? = some (refO A1 ah.length c1 h.f0 A2 h.f1.length c2 (some ad) (be.length + 1) c3)) := HC9.out.blk
          have HK4 : Hid ((w9.setCell ⟨qb, 0, none⟩ (.slice A8 (ah.length + 1) c8)).heap[qb]? = some (refO A8 (ah.length + 1) c8 h.f0 A2 h.f1.length c2 (some ad) (be.length + 1) c3)) := blk_put HK3.out 0 _ rfl
          have HK5 : Hid ((((w9.setCell ⟨qb, 0, none⟩ (.slice A8 (ah.length + 1) c8)).setCell ⟨qb, 1, none⟩ (.int .i64 x.f0)).setCell ⟨qb, 2, none⟩ (.slice Ax x.f1.length cx)).heap[qb]? = some (refO A8 (ah.length + 1) c8 x.f0 Ax x.f1.length cx (some ad) (be.length + 1) c3)) := blk_put (blk_put HK4.out 1 _ rfl) 2 _ rfl
          have hne : ad.block ≠ qb := fun e => by
            have := Kd.F_in HC9.out.f3 rfl (by simp) (by decide)
            rw [e] at this
            exact HQD.out this
          have q0 : w9.cell? ⟨qb, 0, none⟩ = some (.slice A1 ah.length c1) := blk_cell HK3.out 0
          have f0 : ∀ i, w9.frozen? ⟨qb, i, none⟩ = false := blk_frozen HK3.out
          have q1 : (w9.setCell ⟨qb, 0, none⟩ (.slice A8 (ah.length + 1) c8)).cell? ⟨qb, 3, none⟩ = some (.slice (some ad) (be.length + 1) c3) := blk_cell HK4.out 3
          have q2 : (w9.setCell ⟨qb, 0, none⟩ (.slice A8 (ah.length + 1) c8)).cell? ⟨qb, 1, none⟩ = some (.int .i64 h.f0) := blk_cell HK4.out 1
          have q3 : (w9.setCell ⟨qb, 0, none⟩ (.slice A8 (ah.length + 1) c8)).cell? ⟨qb, 2, none⟩ = some (.slice A2 h.f1.length c2) := blk_cell HK4.out 2
          have f1 : ∀ i, (w9.setCell ⟨qb, 0, none⟩ (.slice A8 (ah.length + 1) c8)).frozen? ⟨qb, i, none⟩ = false := blk_frozen HK4.out
          have y0 : (w9.setCell ⟨qb, 0, none⟩ (.slice A8 (ah.length + 1) c8)).cell? ad = some (.int .i64 x.f0) := by
            rw [cell_far hne]; simpa [Addr.add] using z0
          have y1 : (w9.setCell ⟨qb, 0, none⟩ (.slice A8 (ah.length + 1) c8)).cell? ⟨ad.block, ad.off + 1, none⟩ = some (.slice Ax x.f1.length cx) := by
            rw [cell_far hne]; simpa [Addr.add] using z1
          have q5 : (((w9.setCell ⟨qb, 0, none⟩ (.slice A8 (ah.length + 1) c8)).setCell ⟨qb, 1, none⟩ (.int .i64 x.f0)).setCell ⟨qb, 2, none⟩ (.slice Ax x.f1.length cx)).cell? ⟨qb, 3, none⟩ = some (.slice (some ad) (be.length + 1) c3) := blk_cell HK5.out 3
          have f2 : ∀ i, (((w9.setCell ⟨qb, 0, none⟩ (.slice A8 (ah.length + 1) c8)).setCell ⟨qb, 1, none⟩ (.int .i64 x.f0)).setCell ⟨qb, 2, none⟩ (.slice Ax x.f1.length cx)).frozen? ⟨qb, i, none⟩ = false := blk_frozen HK5.out
          have h20 : (1 : Int) ≤ (be.length : Int) + 1 := by omega
          have h22 : (be.length : Int) + 1 ≤ (c3 : Int) := by have := HC9.out.l3; simp at this; omega
          have HZ : Hid (w9.cell? ⟨ad.block, ad.off + 1, none⟩ = some (.slice Ax x.f1.length cx)) := by have := z1; simp [Addr.add] at this; exact this
          have HDONE := hidm (fun A3' h3 => redo_done (A3' := A3') (blk_lt HC0.out.blk) HQD.out HX9.out HC9.out HF9.out HC8.out hlx HZ.out h3)
          clear z0 z1 hlx hx HK3 HK4 HK5 HC9 HF9 HX9 HC0
          by_cases hc31 : c3 = 1
          · have HD1 := hidm (HDONE.out (some ad) (by rw [if_pos hc31]))
            show wpList _ _ _ _ _ _
            go_wp2_with fail
            refine NoPanic.normal ?_
            go_wp2_with fail
            go_ret
            have := HD1.out
            simpa [hc31] using this
          · have HD1 := hidm (HDONE.out (some ⟨ad.block, ad.off + 2, none⟩) (by rw [if_neg hc31]; simp [Addr.add]))
            show wpList _ _ _ _ _ _
            go_wp2_with fail
            refine NoPanic.normal ?_
            go_wp2_with fail
            go_ret
            exact HD1.out
  · refine ⟨_, rfl, rfl, .inr (.inl ⟨.slice (some ⟨w1.heap.size, 0, none⟩) 1 1, (w1.alloc (.cells #[.int .i64 h.f0, .slice A2 h.f1.length c2] 27)), by go_simp, ⟨⟨_, below_alloc HX.out _⟩, rfl⟩, ?_⟩)⟩
    simp only [Act.put, List.getElem_toArray, List.getElem_cons_succ, List.getElem_cons_zero, List.setIfInBounds_toArray, List.set_cons_zero, List.set_cons_succ]
    have HH : Hid (Kd.F k27 (w1.alloc (.cells #[.int .i64 h.f0, .slice A2 h.f1.length c2] 27)) (fun k => D k ∨ k = w1.heap.size) (some ⟨w1.heap.size, 0, none⟩) 1 [h]) := one_row' HX.out.size HC0.out.l2 (Kd.F_below HC0.out.f2 HX.out)
    have HGB : Hid (w.heap.size ≤ w1.heap.size) := HX.out.size
    have HGL : Hid (w1.heap.size < (w1.alloc (.cells #[.int .i64 h.f0, .slice A2 h.f1.length c2] 27)).heap.size) := blk_lt (blk_new _ _)
    replace HX := hidm (below_alloc HX.out (.cells #[.int .i64 h.f0, .slice A2 h.f1.length c2] 27))
    generalize (w1.alloc (.cells #[.int .i64 h.f0, .slice A2 h.f1.length c2] 27)) = wH at HH HX HGL ⊢
    generalize w1.heap.size = gH at HH HGB HGL ⊢
    refine runX_step (crem := [1, 6, 12]) (rs := [1]) (by kernel_rfl) ⟨?_, trivial⟩
    · refine ⟨_, rfl, rfl, .inr (.inl ⟨.slice (some ⟨wH.heap.size, 0, none⟩) 0 0, (wH.alloc (.cells #[] 27)), by go_simp, ⟨⟨_, below_alloc HX.out _⟩, rfl⟩, ?_⟩)⟩
      simp only [Act.put, List.getElem_toArray, List.getElem_cons_succ, List.getElem_cons_zero, List.setIfInBounds_toArray, List.set_cons_zero, List.set_cons_succ]
      have HE : Hid (Kd.N k27 27 (wH.alloc (.cells #[] 27)) w.heap.size (fun k => D k ∨ w.heap.size ≤ k) (.slice (some ⟨wH.heap.size, 0, none⟩) 0 0) []) := empty_row wH w.heap.size D HX.out.size
      have HGE : Hid (w.heap.size ≤ wH.heap.size) := HX.out.size
      have HNE : Hid (wH.heap.size ≠ gH) := by have := HGL.out; show wH.heap.size ≠ gH; omega
      replace HGL : Hid (gH < (wH.alloc (.cells #[] 27)).heap.size) := Nat.lt_of_lt_of_le HGL.out (below_alloc (Below.refl _ _) _).size
      replace HH := hidm (Kd.F_alloc HH.out (.cells #[] 27))
      replace HX := hidm (below_alloc HX.out (.cells #[] 27))
      generalize (wH.alloc (.cells #[] 27)) = wE at HE HX HH HGL ⊢
      generalize wH.heap.size = gE at HE HGE HNE ⊢
      refine runX_step (crem := [6, 12]) (rs := [6]) (by kernel_rfl) ⟨?_, trivial⟩
      · refine ⟨_, rfl, rfl, .inr (.inr ?_)⟩
        refine step_append27 (w0 := w) w.heap.size rfl (.tmp 10) (.tmp 14) rfl (.slice (some ⟨gE, 0, none⟩) 0 0) [] ah A1 ah.length c1 (fun k => D k ∨ w.heap.size ≤ k) D rfl rfl HE.out (Kd.F_below HC0.out.f1 HX.out)
          (fun k hk => ⟨.inl hk, fun e => by
            have h1 := HD.out k hk
            have h2 := HGE.out
            have e' : k = gE := by simpa [Value.ownBlock] using e
            omega⟩) (fun k hk => .inr (Nat.le_trans HX.out.size hk)) HX.out HX.out.size (by simp; omega) ?_
        intro v1 wA hN hX hg hat
        refine ⟨⟨⟨wA, hX⟩, rfl⟩, ?_⟩
        simp only [Act.put, List.getElem_toArray, List.getElem_cons_succ, List.getElem_cons_zero, List.setIfInBounds_toArray, List.set_cons_zero, List.set_cons_succ]
        obtain ⟨A9, c9, rfl⟩ := Kd.N_slice hN
        have HV : Hid (Kd.N k27 27 wA w.heap.size (fun k => D k ∨ w.heap.size ≤ k) (.slice A9 (([] : List S27) ++ ah).length c9) (([] : List S27) ++ ah)) := hN
        have HNV : Hid (∀ k, (Value.slice A9 (([] : List S27) ++ ah).length c9).ownBlock = some k → k ≠ gH) := fun k hk => by
          have h2 := HNE.out
          have h3 := HGL.out
          rcases hat with h1 | ⟨b, h1, h4⟩
          · rw [h1] at hk
            obtain rfl : gE = k := by simpa [Value.ownBlock] using hk
            exact h2
          · rw [h1] at hk
            obtain rfl : b = k := by simpa using hk
            omega
        replace HGL : Hid (gH < wA.heap.size) := Nat.lt_of_lt_of_le HGL.out hg.size
        replace HH := hidm (Kd.F_grown HH.out hg (fun k hk e => by
          have e' : k = gE := by simpa [Value.ownBlock] using e
          rcases hk with hk | hk
          · have h1 := HD.out k hk; have h2 := HGE.out; omega
          · exact HNE.out (e'.symm.trans hk)))
        replace HX : Hid (Below w.heap.size w wA) := hX
        clear hN hX hg hat HE HGE HNE
        refine runX_step (crem := [12]) (rs := [12]) (by kernel_rfl) ⟨?_, trivial⟩
        · refine ⟨_, rfl, rfl, .inr (.inr ?_)⟩
          refine step_append27 (w0 := w) w.heap.size rfl (.tmp 15) (.tmp 20) rfl (.slice A9 (([] : List S27) ++ ah).length c9) (([] : List S27) ++ ah) [h] (some ⟨gH, 0, none⟩) 1 1 (fun k => D k ∨ w.heap.size ≤ k) (fun k => D k ∨ k = gH) rfl rfl HV.out HH.out
            (fun k hk => ⟨hk.imp id (fun e => by rw [e]; exact HGB.out), fun e => by
              rcases hk with hk | hk
              · have h1 := HD.out k hk; have h2 := Kd.N_base HV.out k e.symm; omega
              · exact HNV.out k e.symm hk⟩) (fun k hk => .inr (Nat.le_trans HX.out.size hk)) HX.out HX.out.size (by simp; omega) ?_
          intro v1 w9 hN hX hg hat
          refine ⟨⟨⟨w9, hX⟩, rfl⟩, ?_⟩
          simp only [Act.put, List.getElem_toArray, List.getElem_cons_succ, List.getElem_cons_zero, List.setIfInBounds_toArray, List.set_cons_zero, List.set_cons_succ]
          obtain ⟨A8, c8, rfl⟩ := Kd.N_slice hN
          clear HV HH HGB HGL HNV HX hg hat
          have HX9 : Hid (Below w.heap.size w w9) := hX
          have HC9 : Hid (RefC w9 D qb ah h (x :: be) A1 c1 A2 c2 A3 c3) := HC0.out.below hX
          have hF9 : Kd.F k27 w9 (fun k => D k ∨ w.heap.size ≤ k) A8 (ah.length + 1) (ah ++ [h]) := by
            have := Kd.N_F hN
            simpa using this
          have HF9 := hidm hF9
          clear hF9
          have hc8 : ah.length + 1 ≤ c8 := by
            obtain ⟨A7, c7, e7, h7, _⟩ := Kd.N_reads hN
            injection e7 with _ _ e3
            rw [← e3] at h7
            simpa using h7
          have HC8 := hidm hc8
          clear hN hX hc8
          obtain ⟨ad, Ax, cx, hade, z0, z1, hlx, _⟩ := at_T27 (Kd.F_now HC9.out.f3) 0 (by omega) (by simp)
          have hA : A3 = some ad := hade
          subst hA
          clear hade
          have hx : rd_T27 (x :: be) 0 = x := rfl
          rw [hx] at z0 z1 hlx
          have HK3 : Hid (w9.heap[qb]? = some (refO A1 ah.length c1 h.f0 A2 h.f1.length c2 (some ad) (be.length + 1) c3)) := HC9.out.blk
          have HK4 : Hid ((w9.setCell ⟨qb, 0, none⟩ (.slice A8 (ah.length + 1) c8)).heap[qb]? = some (refO A8 (ah.length + 1) c8 h.f0 A2 h.f1.length c2 (some ad) (be.length + 1) c3)) := blk_put HK3.out 0 _ rfl
          have HK5 : Hid ((((w9.setCell ⟨qb, 0, none⟩ (.slice A8 (ah.length + 1) c8)).setCell ⟨qb, 1, none⟩ (.int .i64 x.f0)).setCell ⟨qb, 2, none⟩ (.slice Ax x.f1.length cx)).heap[qb]? = some (refO A8 (ah.length + 1) c8 x.f0 Ax x.f1.length cx (some ad) (be.length + 1) c3)) := blk_put (blk_put HK4.out 1 _ rfl) 2 _ rfl
          have hne : ad.block ≠ qb := fun e => by
            have := Kd.F_in HC9.out.f3 rfl (by simp) (by decide)
            rw [e] at this
            exact HQD.out this
          have q0 : w9.cell? ⟨qb, 0, none⟩ = some (.slice A1 ah.length c1) := blk_cell HK3.out 0
          have f0 : ∀ i, w9.frozen? ⟨qb, i, none⟩ = false := blk_frozen HK3.out
          have q1 : (w9.setCell ⟨qb, 0, none⟩ (.slice A8 (ah.length + 1) c8)).cell? ⟨qb, 3, none⟩ = some (.slice (some ad) (be.length + 1) c3) := blk_cell HK4.out 3
          have q2 : (w9.setCell ⟨qb, 0, none⟩ (.slice A8 (ah.length + 1) c8)).cell? ⟨qb, 1, none⟩ = some (.int .i64 h.f0) := blk_cell HK4.out 1
          have q3 : (w9.setCell ⟨qb, 0, none⟩ (.slice A8 (ah.length + 1) c8)).cell? ⟨qb, 2, none⟩ = some (.slice A2 h.f1.length c2) := blk_cell HK4.out 2
          have f1 : ∀ i, (w9.setCell ⟨qb, 0, none⟩ (.slice A8 (ah.length + 1) c8)).frozen? ⟨qb, i, none⟩ = false := blk_frozen HK4.out
          have y0 : (w9.setCell ⟨qb, 0, none⟩ (.slice A8 (ah.length + 1) c8)).cell? ad = some (.int .i64 x.f0) := by
            rw [cell_far hne]; simpa [Addr.add] using z0
          have y1 : (w9.setCell ⟨qb, 0, none⟩ (.slice A8 (ah.length + 1) c8)).cell? ⟨ad.block, ad.off + 1, none⟩ = some (.slice Ax x.f1.length cx) := by
            rw [cell_far hne]; simpa [Addr.add] using z1
          have q5 : (((w9.setCell ⟨qb, 0, none⟩ (.slice A8 (ah.length + 1) c8)).setCell ⟨qb, 1, none⟩ (.int .i64 x.f0)).setCell ⟨qb, 2, none⟩ (.slice Ax x.f1.length cx)).cell? ⟨qb, 3, none⟩ = some (.slice (some ad) (be.length + 1) c3) := blk_cell HK5.out 3
          have f2 : ∀ i, (((w9.setCell ⟨qb, 0, none⟩ (.slice A8 (ah.length + 1) c8)).setCell ⟨qb, 1, none⟩ (.int .i64 x.f0)).setCell ⟨qb, 2, none⟩ (.slice Ax x.f1.length cx)).frozen? ⟨qb, i, none⟩ = false := blk_frozen HK5.out
          have h20 : (1 : Int) ≤ (be.length : Int) + 1 := by omega
          have h22 : (be.length : Int) + 1 ≤ (c3 : Int) := by have := HC9.out.l3; simp at this; omega
          have HZ : Hid (w9.cell? ⟨ad.block, ad.off + 1, none⟩ = some (.slice Ax x.f1.length cx)) := by have := z1; simp [Addr.add] at this; exact this
          have HDONE := hidm (fun A3' h3 => redo_done (A3' := A3') (blk_lt HC0.out.blk) HQD.out HX9.out HC9.out HF9.out HC8.out hlx HZ.out h3)
          clear z0 z1 hlx hx HK3 HK4 HK5 HC9 HF9 HX9 HC0
          by_cases hc31 : c3 = 1
          · have HD1 := hidm (HDONE.out (some ad) (by rw [if_pos hc31]))
            show wpList _ _ _ _ _ _
            go_wp2_with fail
            refine NoPanic.normal ?_
            go_wp2_with fail
            go_ret
            have := HD1.out
            simpa [hc31] using this
          · have HD1 := hidm (HDONE.out (some ⟨ad.block, ad.off + 2, none⟩) (by rw [if_neg hc31]; simp [Addr.add]))
            show wpList _ _ _ _ _ _
            go_wp2_with fail
            refine NoPanic.normal ?_
            go_wp2_with fail
            go_ret
            exact HD1.out
end Go.Proofs.Ytlopfkkegjajlaa
namespace Go.Proofs.Ytlopfkkegjajlaa
open Go.RowKit Go.Proofs.YtlopfkkegjajlaaW.PrintWords PHistoryTouched
set_option maxRecDepth 100000 in
set_option maxHeartbeats 1000000 in
theorem refPush_no (qb : Nat) (nx : Int) (A : Option Addr) (l : List S76) (cl : Nat) (w : World) (hr : Kd.C k76 w A l.length l) (hcl : l.length ≤ cl) (hk : ¬ CheckP nx l) :
    Calls Try.prog 16 #[.pointer (some ⟨qb, 0, none⟩), .agg #[.int .i64 nx, .slice A l.length cl]] w fun e w' => e = .returned (.int .i64 29) ∧ Below w.heap.size w w' := by
  have HR : Hid (Kd.C k76 w A l.length l) := hr
  have HCL : Hid (l.length ≤ cl) := hcl
  have HK : Hid (¬ CheckP nx l) := hk
  clear hr hcl hk
  have HW : Hid (Boxed1 w (.cells #[.int .i64 nx, .slice A l.length cl] 27) (w.alloc (.cells #[.int .i64 nx, .slice A l.length cl] 27))) := ⟨below_alloc (Below.refl _ _) _, blk_new _ _⟩
  go_enter Try.func16, Try.ntmps16
  go_wp2_with fail
  generalize (w.alloc (.cells #[.int .i64 nx, .slice A l.length cl] 27)) = W at HW ⊢
  have hcall := right_check nx l A cl W (Kd.C_below HR.out HW.out.b) HCL.out
  rw [tv_no HK.out] at hcall
  refine hcall.mono ?_
  clear hcall
  rintro e w1 ⟨rfl, hb⟩
  have HB : Hid (Below w.heap.size w w1) := below_step HW.out.b hb
  clear hb HW
  go_wp2_with fail
  go_ret
  exact ⟨rfl, HB.out⟩
theorem push_done {w w2 w5 w6 : World} {D : Nat → Prop} {qb : Nat} {X be : List S27} {h : S27} {nx : Int} {l : List S76} {A8 A2 A3 A7 : Option Addr} {c8 c2 c3 c7 : Nat} (hq : qb < w.heap.size) (hqD : ¬ D qb) (h2 : w.heap.size ≤ w2.heap.size) (hW : Wr (· = qb) w w5)
    (hk : w5.heap[qb]? = some (refO A8 X.length c8 h.f0 A2 h.f1.length c2 A3 be.length c3)) (hF : Kd.F k27 w5 (fun k => D k ∨ w2.heap.size ≤ k) A8 X.length X) (hc8 : X.length ≤ c8) (hb : Below w5.heap.size w5 w6)
    (hV : k76.R 76 w6 w5.heap.size (fun _ => True) (.slice A7 l.length c7) l) (hc7 : l.length ≤ c7) : RefPost qb D 0 X ⟨nx, l⟩ [] w (.returned (.int .i64 0)) (((w6.setCell ⟨qb, 1, none⟩ (.int .i64 nx)).setCell ⟨qb, 2, none⟩ (.slice A7 l.length c7)).setCell ⟨qb, 3, none⟩ (.slice none 0 0)) := by
  have hFV : Kd.F k76 w6 (fun k => w5.heap.size ≤ k ∧ k < w6.heap.size) A7 l.length l := by
    obtain ⟨A9, c9, e9, _, h9⟩ := (Kd.R_V (d := k76) (base' := 0) (Kd.R_mono (Kd.R_bound hV) (ok' := fun k => w5.heap.size ≤ k ∧ k < w6.heap.size) (fun k hk => ⟨hk.2.1, hk.2.2.1⟩)))
    injection e9 with e1 _ _
    subst e1
    exact h9
  have hsz5 := hW.size
  have hDne : ∀ k, (D k ∨ (w.heap.size ≤ k ∧ k < w6.heap.size)) → k ≠ qb := by
    rintro k (hd | hd) rfl
    · exact hqD hd
    · omega
  have hmv : ∀ k, (D k ∨ (w.heap.size ≤ k ∧ k < w6.heap.size)) → (((w6.setCell ⟨qb, 1, none⟩ (.int .i64 nx)).setCell ⟨qb, 2, none⟩ (.slice A7 l.length c7)).setCell ⟨qb, 3, none⟩ (.slice none 0 0)).heap[k]? = w6.heap[k]? := fun k hk => by
    rw [Below.heap_setCell _ ⟨qb, 3, none⟩ _ k (hDne k hk), Below.heap_setCell _ ⟨qb, 2, none⟩ _ k (hDne k hk), Below.heap_setCell _ ⟨qb, 1, none⟩ _ k (hDne k hk)]
  have hsz : (((w6.setCell ⟨qb, 1, none⟩ (.int .i64 nx)).setCell ⟨qb, 2, none⟩ (.slice A7 l.length c7)).setCell ⟨qb, 3, none⟩ (.slice none 0 0)).heap.size = w6.heap.size := by simp
  have hb7 : (((w6.setCell ⟨qb, 1, none⟩ (.int .i64 nx)).setCell ⟨qb, 2, none⟩ (.slice A7 l.length c7)).setCell ⟨qb, 3, none⟩ (.slice none 0 0)).heap[qb]? = some (refO A8 X.length c8 nx A7 l.length c7 none 0 0) := blk_put (blk_put (blk_put (blk_below hk hb) 1 _ rfl) 2 _ rfl) 3 _ rfl
  refine ⟨rfl, ⟨_, _, _, _, _, _, hb7, hc8, hc7, Nat.le_refl _, ?_, ?_, Kd.F_nil _ _ _⟩, (((hW.step hb).set qb 1 _ (.inl rfl)).set qb 2 _ (.inl rfl)).set qb 3 _ (.inl rfl)⟩
  · exact Kd.F_mono (Kd.F_step (Kd.F_bound (Kd.F_below hF hb)) (fun k hk hlt => hmv k (hk.1.imp id (fun h => ⟨by omega, hlt⟩)))) (fun k hk => hk.1.imp id (fun h => ⟨by omega, by rw [hsz]; exact hk.2⟩))
  · exact Kd.F_mono (Kd.F_step hFV (fun k hk hlt => hmv k (.inr ⟨by omega, hlt⟩))) (fun k hk => .inr ⟨by omega, by rw [hsz]; exact hk.2⟩)
def ahead (ah : List S27) (h : S27) : List S27 := if 64 < (ah ++ [h]).length then (ah ++ [h]).drop 1 else ah ++ [h]
set_option maxRecDepth 100000 in
set_option maxHeartbeats 8000000 in
theorem refPush_new (qb : Nat) (D : Nat → Prop) (ah : List S27) (h : S27) (be : List S27) (nx : Int) (A : Option Addr) (l : List S76) (cl : Nat) (w : World) (hq : RefR w D qb ah h be) (hD : ∀ k, D k → k < w.heap.size) (hqD : ¬ D qb) (hl : ah.length ≤ 1000)
    (DL : Nat → Prop) (hrF : Kd.F k76 w DL A l.length l) (hDL : ¬ DL qb) (hcl : l.length ≤ cl) (hk : CheckP nx l) (hs : SmallL l) (hne : ¬ (nx = h.f0 ∧ l = h.f1)) :
    Calls Try.prog 16 #[.pointer (some ⟨qb, 0, none⟩), .agg #[.int .i64 nx, .slice A l.length cl]] w (RefPost qb D 0 (ahead ah h) ⟨nx, l⟩ [] w) := by
  obtain ⟨A1, c1, A2, c2, A3, c3, hc⟩ := hq.open_
  have HCw : Hid (RefC w D qb ah h be A1 c1 A2 c2 A3 c3) := hc
  have HDw : Hid (∀ k, D k → k < w.heap.size) := hD
  have HQD : Hid (¬ D qb) := hqD
  have HR : Hid (Kd.C k76 w A l.length l) := Kd.F_now hrF
  have HRF : Hid (Kd.F k76 w DL A l.length l) := hrF
  have HDL : Hid (¬ DL qb) := hDL
  have HCL : Hid (l.length ≤ cl) := hcl
  have HK : Hid (CheckP nx l) := hk
  have HS : Hid (SmallL l) := hs
  have HNE0 : Hid (¬ (nx = h.f0 ∧ l = h.f1)) := hne
  clear hq hc hD hqD hrF hDL hcl hk hs hne
  have HW : Hid (Boxed1 w (.cells #[.int .i64 nx, .slice A l.length cl] 27) (w.alloc (.cells #[.int .i64 nx, .slice A l.length cl] 27))) := ⟨below_alloc (Below.refl _ _) _, blk_new _ _⟩
  go_enter Try.func16, Try.ntmps16
  go_wp2_with fail
  generalize (w.alloc (.cells #[.int .i64 nx, .slice A l.length cl] 27)) = W at HW ⊢
  have hcall := right_check nx l A cl W (Kd.C_below HR.out HW.out.b) HCL.out
  rw [tv_yes HK.out] at hcall
  refine hcall.mono ?_
  clear hcall
  rintro e w1 ⟨rfl, hb⟩
  have HW1 : Hid (Boxed1 w (.cells #[.int .i64 nx, .slice A l.length cl] 27) w1) := HW.out.below hb
  clear hb HW
  go_wp2_with fail
  have HC1 : Hid (RefC w1 D qb ah h be A1 c1 A2 c2 A3 c3) := HCw.out.below HW1.out.b
  have s0 : ∀ y : BW w1, y.1.cell? ⟨w.heap.size, 0, none⟩ = some (.int .i64 nx) := bw_cell (blk_cell HW1.out.k1 0)
  have s1 : ∀ y : BW w1, y.1.cell? ⟨w.heap.size, 1, none⟩ = some (.slice A l.length cl) := bw_cell (blk_cell HW1.out.k1 1)
  have s2 : ∀ y : BW w1, y.1.cell? ⟨qb, 1, none⟩ = some (.int .i64 h.f0) := bw_cell (blk_cell HC1.out.blk 1)
  have s3 : ∀ y : BW w1, y.1.cell? ⟨qb, 2, none⟩ = some (.slice A2 h.f1.length c2) := bw_cell (blk_cell HC1.out.blk 2)
  have HSC : Hid (∀ y : BW w1, Calls Try.prog 19 #[.agg #[.int .i64 nx, .slice A l.length cl], .agg #[.int .i64 h.f0, .slice A2 h.f1.length c2]] y.1 fun e w' => e = .returned (.bool false) ∧ Below y.1.heap.size y.1 w') := fun y => by
    have := refSame_any nx h.f0 l h.f1 A A2 cl c2 y.1 (Kd.C_below HR.out (below_step HW1.out.b y.2)) HCL.out (Kd.C_below (Kd.F_now HC1.out.f2) y.2) HC1.out.l2
    rw [tv_no HNE0.out] at this
    exact this
  refine wp_region_bw (by kernel_rfl) (by kernel_rfl) ?_
  repeat (go_big_quiet_step ((go_at_call 19; exact calls_bw (HSC.out _))))
  refine wpQuiet_nil ?_
  rintro _ ⟨y, rfl⟩
  have HW2 : Hid (Boxed1 w (.cells #[.int .i64 nx, .slice A l.length cl] 27) y.1) := HW1.out.below y.2
  have HC0 : Hid (RefC y.1 D qb ah h be A1 c1 A2 c2 A3 c3) := HC1.out.below y.2
  clear s0 s1 s2 s3 HSC HC1 HW1
  obtain ⟨w2, hw2⟩ := y
  dsimp only at HW2 HC0 ⊢
  clear hw2
  go_wp2_with fail
  have HD : Hid (∀ k, D k → k < w2.heap.size) := fun k hk => Nat.lt_of_lt_of_le (HDw.out k hk) HW2.out.b.size
  have s0 : ∀ y : BW w2, y.1.cell? ⟨qb, 0, none⟩ = some (.slice A1 ah.length c1) := bw_cell (blk_cell HC0.out.blk 0)
  have s1 : ∀ y : BW w2, y.1.cell? ⟨qb, 1, none⟩ = some (.int .i64 h.f0) := bw_cell (blk_cell HC0.out.blk 1)
  have s2 : ∀ y : BW w2, y.1.cell? ⟨qb, 2, none⟩ = some (.slice A2 h.f1.length c2) := bw_cell (blk_cell HC0.out.blk 2)
  refine wp_region_noPanic ?_
  refine wp_region_holdX (C := fun w' => ∃ x : BW w2, w' = x.1) 13 [] [] [0, 2, 3, 4, 5, 7, 8, 9, 10] [1, 6, 11, 12] (by kernel_rfl) (by kernel_rfl) (by kernel_rfl) (by kernel_rfl) (fun _ _ _ _ _ h => (h : False).elim) ⟨⟨{ w2 with drawn := w2.drawn + 1 }, ⟨rfl, rfl, rfl, Nat.le_refl _, fun _ _ => rfl⟩⟩, rfl⟩ ?_
  simp only [pickOps, Option.elim_some, List.getElem?_cons_succ, List.getElem?_cons_zero, List.drop_succ_cons, List.drop_zero]
  repeat (go_big_quiet_step (fail))
  refine wpQuiet_nil ?_
  rintro _ ⟨y, rfl⟩
  have HX : Hid (Below w2.heap.size w2 y.1) := y.2
  clear s0 s1 s2
  obtain ⟨w3, hw3⟩ := y
  dsimp only at HX ⊢
  clear hw3
  refine runX_step (crem := [1, 6, 11, 12]) (rs := [1, 11]) (by kernel_rfl) ⟨?_, ?_, trivial⟩
  · refine ⟨_, rfl, rfl, .inr (.inl ⟨.slice (some ⟨w3.heap.size, 0, none⟩) 0 0, (w3.alloc (.cells #[] 27)), by go_simp, ⟨⟨_, below_alloc HX.out _⟩, rfl⟩, ?_⟩)⟩
    simp only [Act.put, List.getElem_toArray, List.getElem_cons_succ, List.getElem_cons_zero, List.setIfInBounds_toArray, List.set_cons_zero, List.set_cons_succ]
    have HE : Hid (Kd.N k27 27 (w3.alloc (.cells #[] 27)) w2.heap.size (fun k => D k ∨ w2.heap.size ≤ k) (.slice (some ⟨w3.heap.size, 0, none⟩) 0 0) []) := empty_row w3 w2.heap.size D HX.out.size
    have HGE : Hid (w2.heap.size ≤ w3.heap.size) := HX.out.size
    replace HX := hidm (below_alloc HX.out (.cells #[] 27))
    generalize (w3.alloc (.cells #[] 27)) = wE at HE HX ⊢
    generalize w3.heap.size = gE at HE HGE ⊢
    refine runX_step (crem := [6, 11, 12]) (rs := [6, 11]) (by kernel_rfl) ⟨?_, ?_, trivial⟩
    · refine ⟨_, rfl, rfl, .inr (.inr ?_)⟩
      refine step_append27 (w0 := w2) w2.heap.size rfl (.tmp 15) (.tmp 19) rfl (.slice (some ⟨gE, 0, none⟩) 0 0) [] ah A1 ah.length c1 (fun k => D k ∨ w2.heap.size ≤ k) D rfl rfl HE.out (Kd.F_below HC0.out.f1 HX.out)
        (fun k hk => ⟨.inl hk, fun e => by
          have h1 := HD.out k hk
          have h2 := HGE.out
          have e' : k = gE := by simpa [Value.ownBlock] using e
          omega⟩) (fun k hk => .inr (Nat.le_trans HX.out.size hk)) HX.out HX.out.size (by simp; omega) ?_
      intro v1 wA hN hX hg hat
      refine ⟨⟨⟨wA, hX⟩, rfl⟩, ?_⟩
      simp only [Act.put, List.getElem_toArray, List.getElem_cons_succ, List.getElem_cons_zero, List.setIfInBounds_toArray, List.set_cons_zero, List.set_cons_succ]
      obtain ⟨A9, c9, rfl⟩ := Kd.N_slice hN
      have HV : Hid (Kd.N k27 27 wA w2.heap.size (fun k => D k ∨ w2.heap.size ≤ k) (.slice A9 (([] : List S27) ++ ah).length c9) (([] : List S27) ++ ah)) := hN
      replace HX : Hid (Below w2.heap.size w2 wA) := hX
      clear hN hX hg hat HE HGE 
      refine runX_step (crem := [11, 12]) (rs := [11]) (by kernel_rfl) ⟨?_, trivial⟩
      · refine ⟨_, rfl, rfl, .inr (.inl ⟨.slice (some ⟨wA.heap.size, 0, none⟩) 1 1, (wA.alloc (.cells #[.int .i64 h.f0, .slice A2 h.f1.length c2] 27)), by go_simp, ⟨⟨_, below_alloc HX.out _⟩, rfl⟩, ?_⟩)⟩
        simp only [Act.put, List.getElem_toArray, List.getElem_cons_succ, List.getElem_cons_zero, List.setIfInBounds_toArray, List.set_cons_zero, List.set_cons_succ]
        have HH : Hid (Kd.F k27 (wA.alloc (.cells #[.int .i64 h.f0, .slice A2 h.f1.length c2] 27)) (fun k => D k ∨ k = wA.heap.size) (some ⟨wA.heap.size, 0, none⟩) 1 [h]) := one_row' HX.out.size HC0.out.l2 (Kd.F_below HC0.out.f2 HX.out)
        have HGB : Hid (w2.heap.size ≤ wA.heap.size) := HX.out.size
        have HGL : Hid (wA.heap.size < (wA.alloc (.cells #[.int .i64 h.f0, .slice A2 h.f1.length c2] 27)).heap.size) := blk_lt (blk_new _ _)
        have HNV : Hid (∀ k, (Value.slice A9 (([] : List S27) ++ ah).length c9).ownBlock = some k → k ≠ wA.heap.size) := fun k hk => by have := Kd.N_lt HV.out k hk; omega
        replace HV := hidm (Kd.N_alloc HV.out (.cells #[.int .i64 h.f0, .slice A2 h.f1.length c2] 27))
        replace HX := hidm (below_alloc HX.out (.cells #[.int .i64 h.f0, .slice A2 h.f1.length c2] 27))
        generalize (wA.alloc (.cells #[.int .i64 h.f0, .slice A2 h.f1.length c2] 27)) = wH at HH HX HGL HV ⊢
        generalize wA.heap.size = gH at HH HGB HGL HNV ⊢
        refine runX_step (crem := [12]) (rs := [12]) (by kernel_rfl) ⟨?_, trivial⟩
        · refine ⟨_, rfl, rfl, .inr (.inr ?_)⟩
          refine step_append27 (w0 := w2) w2.heap.size rfl (.tmp 20) (.tmp 25) rfl (.slice A9 (([] : List S27) ++ ah).length c9) (([] : List S27) ++ ah) [h] (some ⟨gH, 0, none⟩) 1 1 (fun k => D k ∨ w2.heap.size ≤ k) (fun k => D k ∨ k = gH) rfl rfl HV.out HH.out
            (fun k hk => ⟨hk.imp id (fun e => by rw [e]; exact HGB.out), fun e => by
              rcases hk with hk | hk
              · have h1 := HD.out k hk; have h2 := Kd.N_base HV.out k e.symm; omega
              · exact HNV.out k e.symm hk⟩) (fun k hk => .inr (Nat.le_trans HX.out.size hk)) HX.out HX.out.size (by simp; omega) ?_
          intro v1 w9 hN hX hg hat
          refine ⟨⟨⟨w9, hX⟩, rfl⟩, ?_⟩
          simp only [Act.put, List.getElem_toArray, List.getElem_cons_succ, List.getElem_cons_zero, List.setIfInBounds_toArray, List.set_cons_zero, List.set_cons_succ]
          obtain ⟨A8, c8, rfl⟩ := Kd.N_slice hN
          clear HV HH HGB HGL HNV HX hg hat
          have HX9 : Hid (Below w2.heap.size w2 w9) := hX
          have HC9 : Hid (RefC w9 D qb ah h be A1 c1 A2 c2 A3 c3) := HC0.out.below hX
          have hF9 : Kd.F k27 w9 (fun k => D k ∨ w2.heap.size ≤ k) A8 (ah.length + 1) (ah ++ [h]) := by
            have := Kd.N_F hN
            simpa using this
          have HF9 := hidm hF9
          have hc8 : ah.length + 1 ≤ c8 := by
            obtain ⟨A7, c7, e7, h7, _⟩ := Kd.N_reads hN
            injection e7 with _ _ e3
            rw [← e3] at h7
            simpa using h7
          have HW9 : Hid (Boxed1 w (.cells #[.int .i64 nx, .slice A l.length cl] 27) w9) := HW2.out.below hX
          clear hN hX hF9
          have HK4 : Hid ((w9.setCell ⟨qb, 0, none⟩ (.slice A8 (ah.length + 1) c8)).heap[qb]? = some (refO A8 (ah.length + 1) c8 h.f0 A2 h.f1.length c2 A3 be.length c3)) := blk_put HC9.out.blk 0 _ rfl
          have hqw : qb < w.heap.size := blk_lt HCw.out.blk
          have HK1 : Hid ((w9.setCell ⟨qb, 0, none⟩ (.slice A8 (ah.length + 1) c8)).heap[w.heap.size]? = some (.cells #[.int .i64 nx, .slice A l.length cl] 27 (0, 0))) := blk_far HW9.out.k1 (by show w.heap.size ≠ qb; omega) _
          have HWR : Hid (Wr (· = qb) w (w9.setCell ⟨qb, 0, none⟩ (.slice A8 (ah.length + 1) c8))) := (Wr.of_below (S := (· = qb)) HW9.out.b).set qb 0 _ (.inl rfl)
          have hDne : ∀ k, (D k ∨ w2.heap.size ≤ k) → k ≠ qb := by
            rintro k (hk | hk) rfl
            · exact HQD.out hk
            · have := HW2.out.b.size; omega
          have HF4 : Hid (Kd.F k27 (w9.setCell ⟨qb, 0, none⟩ (.slice A8 (ah.length + 1) c8)) (fun k => D k ∨ w2.heap.size ≤ k) A8 (ah.length + 1) (ah ++ [h])) := Kd.F_far HF9.out (p := ⟨qb, 0, none⟩) hDne _
          have q0 : w9.cell? ⟨qb, 0, none⟩ = some (.slice A1 ah.length c1) := blk_cell HC9.out.blk 0
          have f0 : ∀ i, w9.frozen? ⟨qb, i, none⟩ = false := blk_frozen HC9.out.blk
          have q1 : (w9.setCell ⟨qb, 0, none⟩ (.slice A8 (ah.length + 1) c8)).cell? ⟨qb, 0, none⟩ = some (.slice A8 (ah.length + 1) c8) := blk_cell HK4.out 0
          have q2 : (w9.setCell ⟨qb, 0, none⟩ (.slice A8 (ah.length + 1) c8)).cell? ⟨w.heap.size, 0, none⟩ = some (.int .i64 nx) := blk_cell HK1.out 0
          have q3 : (w9.setCell ⟨qb, 0, none⟩ (.slice A8 (ah.length + 1) c8)).cell? ⟨w.heap.size, 1, none⟩ = some (.slice A l.length cl) := blk_cell HK1.out 1
          clear HC9 HF9 HX9 HW9
          by_cases hbig : 64 < ah.length + 1
          · have hd : decide ((64 : Int) < (ah.length : Int) + 1) = true := decide_eq_true (by omega)
            obtain ⟨ad, _, hae, _, _, _, _⟩ := Kd.F_get HF4.out z27 0 (by omega) (by omega)
            have hA : A8 = some ad := hae
            subst hA
            clear hae
            have hc81 : ¬ c8 = 1 := by omega
            have h20 : (1 : Int) ≤ (ah.length : Int) + 1 := by omega
            have h22 : (ah.length : Int) + 1 ≤ (c8 : Int) := by omega
            have hdl : ((ah ++ [h]).drop 1).length = ah.length := by rw [List.length_drop]; simp
            have hxl : (ah ++ [h]).length = ah.length + 1 := by simp
            have hF5 : Kd.F k27 ((w9.setCell ⟨qb, 0, none⟩ (.slice (some ad) (ah.length + 1) c8)).setCell ⟨qb, 0, none⟩ (.slice (some ⟨ad.block, ad.off + 2, none⟩) ah.length (c8 - 1))) (fun k => D k ∨ w2.heap.size ≤ k) (some ⟨ad.block, ad.off + 2, none⟩) ah.length ((ah ++ [h]).drop 1) := by
              have h1 : Kd.F k27 (w9.setCell ⟨qb, 0, none⟩ (.slice (some ad) (ah.length + 1) c8)) (fun k => D k ∨ w2.heap.size ≤ k) (some ad) (ah ++ [h]).length (ah ++ [h]) := by rw [hxl]; exact HF4.out
              have h2 := Kd.F_cut (m := 1) (c := c8) h1 (by omega) (by omega)
              rw [if_neg hc81, hdl] at h2
              have h3 : (some ad).map (·.add (1 * k27.sz)) = some (⟨ad.block, ad.off + 2, none⟩ : Addr) := by
                show some (ad.add 2) = _
                simp [Addr.add]
              rw [h3] at h2
              exact Kd.F_far h2 (p := ⟨qb, 0, none⟩) hDne _
            have HF5 := hidm hF5
            have HK5 : Hid (((w9.setCell ⟨qb, 0, none⟩ (.slice (some ad) (ah.length + 1) c8)).setCell ⟨qb, 0, none⟩ (.slice (some ⟨ad.block, ad.off + 2, none⟩) ah.length (c8 - 1))).heap[qb]? = some (refO (some ⟨ad.block, ad.off + 2, none⟩) ah.length (c8 - 1) h.f0 A2 h.f1.length c2 A3 be.length c3)) := blk_put HK4.out 0 _ rfl
            have HK1' : Hid (((w9.setCell ⟨qb, 0, none⟩ (.slice (some ad) (ah.length + 1) c8)).setCell ⟨qb, 0, none⟩ (.slice (some ⟨ad.block, ad.off + 2, none⟩) ah.length (c8 - 1))).heap[w.heap.size]? = some (.cells #[.int .i64 nx, .slice A l.length cl] 27 (0, 0))) := blk_far HK1.out (by show w.heap.size ≠ qb; omega) _
            have HWR5 : Hid (Wr (· = qb) w ((w9.setCell ⟨qb, 0, none⟩ (.slice (some ad) (ah.length + 1) c8)).setCell ⟨qb, 0, none⟩ (.slice (some ⟨ad.block, ad.off + 2, none⟩) ah.length (c8 - 1)))) := HWR.out.set qb 0 _ (.inl rfl)
            have f1 : ∀ i, (w9.setCell ⟨qb, 0, none⟩ (.slice (some ad) (ah.length + 1) c8)).frozen? ⟨qb, i, none⟩ = false := blk_frozen HK4.out
            have q4 : ((w9.setCell ⟨qb, 0, none⟩ (.slice (some ad) (ah.length + 1) c8)).setCell ⟨qb, 0, none⟩ (.slice (some ⟨ad.block, ad.off + 2, none⟩) ah.length (c8 - 1))).cell? ⟨w.heap.size, 0, none⟩ = some (.int .i64 nx) := blk_cell HK1'.out 0
            have q5 : ((w9.setCell ⟨qb, 0, none⟩ (.slice (some ad) (ah.length + 1) c8)).setCell ⟨qb, 0, none⟩ (.slice (some ⟨ad.block, ad.off + 2, none⟩) ah.length (c8 - 1))).cell? ⟨w.heap.size, 1, none⟩ = some (.slice A l.length cl) := blk_cell HK1'.out 1
            have HAH : Hid (ahead ah h = (ah ++ [h]).drop 1) := if_pos (by rw [hxl]; exact hbig)
            have HDL2 := hidm hdl
            clear hF5 hdl hxl HK4 HK1 HWR HF4
            show wpList _ _ _ _ _ _
            go_wp2_with fail
            refine NoPanic.normal ?_
            go_wp2_with fail
            clear q0 q1 q2 q3 q4 q5 f0 f1
            generalize ((w9.setCell ⟨qb, 0, none⟩ (.slice (some ad) (ah.length + 1) c8)).setCell ⟨qb, 0, none⟩ (.slice (some ⟨ad.block, ad.off + 2, none⟩) ah.length (c8 - 1))) = w5 at HK5 HK1' HWR5 HF5 ⊢
            refine (refTwin_any nx A l cl w5 (Kd.F_now (Kd.F_step HRF.out (fun k hk hlt => HWR5.out.block k hlt (fun e => HDL.out (by rw [← e]; exact hk))))) HCL.out HS.out).mono ?_
            rintro e w6 ⟨v, rfl, hv, hb6⟩
            obtain ⟨A7, c7, rfl, hc7, _⟩ := Kd.R_reads hv
            have HO := hidm (push_done (nx := nx) (X := (ah ++ [h]).drop 1) (h := h) (be := be) (A8 := some ⟨ad.block, ad.off + 2, none⟩) (c8 := c8 - 1) (A2 := A2) (c2 := c2) (A3 := A3) (c3 := c3) hqw HQD.out HW2.out.b.size HWR5.out (by rw [HDL2.out]; exact HK5.out) (by rw [HDL2.out]; exact HF5.out) (by rw [HDL2.out]; omega) hb6 hv hc7)
            have HK6 := hidm (blk_below HK5.out hb6)
            have q1 : w6.cell? ⟨qb, 1, none⟩ = some (.int .i64 h.f0) := blk_cell HK6.out 1
            have q2 : w6.cell? ⟨qb, 2, none⟩ = some (.slice A2 h.f1.length c2) := blk_cell HK6.out 2
            have q3 : w6.cell? ⟨qb, 3, none⟩ = some (.slice A3 be.length c3) := blk_cell HK6.out 3
            have ff : ∀ i, w6.frozen? ⟨qb, i, none⟩ = false := blk_frozen HK6.out
            clear hv hb6 HK5 HK1' HWR5 HF5
            go_wp2_with fail
            go_ret
            rw [HAH.out]
            exact HO.out
          · have hd : decide ((64 : Int) < (ah.length : Int) + 1) = false := decide_eq_false (by omega)
            show wpList _ _ _ _ _ _
            go_wp2_with fail
            refine NoPanic.normal ?_
            go_wp2_with fail
            generalize (w9.setCell ⟨qb, 0, none⟩ (.slice A8 (ah.length + 1) c8)) = w5 at HK4 HK1 HWR HF4 ⊢
            refine (refTwin_any nx A l cl w5 (Kd.F_now (Kd.F_step HRF.out (fun k hk hlt => HWR.out.block k hlt (fun e => HDL.out (by rw [← e]; exact hk))))) HCL.out HS.out).mono ?_
            rintro e w6 ⟨v, rfl, hv, hb6⟩
            obtain ⟨A7, c7, rfl, hc7, _⟩ := Kd.R_reads hv
            have hxl : (ah ++ [h]).length = ah.length + 1 := by simp
            have HO := hidm (push_done (nx := nx) (X := ah ++ [h]) (h := h) (be := be) (A8 := A8) (c8 := c8) (A2 := A2) (c2 := c2) (A3 := A3) (c3 := c3) hqw HQD.out HW2.out.b.size HWR.out (by rw [hxl]; exact HK4.out) (by rw [hxl]; exact HF4.out) (by rw [hxl]; exact hc8) hb6 hv hc7)
            have HK6 := hidm (blk_below HK4.out hb6)
            have q1 : w6.cell? ⟨qb, 1, none⟩ = some (.int .i64 h.f0) := blk_cell HK6.out 1
            have q2 : w6.cell? ⟨qb, 2, none⟩ = some (.slice A2 h.f1.length c2) := blk_cell HK6.out 2
            have q3 : w6.cell? ⟨qb, 3, none⟩ = some (.slice A3 be.length c3) := blk_cell HK6.out 3
            have ff : ∀ i, w6.frozen? ⟨qb, i, none⟩ = false := blk_frozen HK6.out
            have HAH : Hid (ahead ah h = ah ++ [h]) := if_neg (by rw [hxl]; exact hbig)
            clear hv hb6 HK4 HK1 HWR HF4 hxl
            go_wp2_with fail
            go_ret
            rw [HAH.out]
            exact HO.out
    · refine ⟨_, rfl, rfl, .inr (.inl ⟨.slice (some ⟨wE.heap.size, 0, none⟩) 1 1, (wE.alloc (.cells #[.int .i64 h.f0, .slice A2 h.f1.length c2] 27)), by go_simp, ⟨⟨_, below_alloc HX.out _⟩, rfl⟩, ?_⟩)⟩
      simp only [Act.put, List.getElem_toArray, List.getElem_cons_succ, List.getElem_cons_zero, List.setIfInBounds_toArray, List.set_cons_zero, List.set_cons_succ]
      have HH : Hid (Kd.F k27 (wE.alloc (.cells #[.int .i64 h.f0, .slice A2 h.f1.length c2] 27)) (fun k => D k ∨ k = wE.heap.size) (some ⟨wE.heap.size, 0, none⟩) 1 [h]) := one_row' HX.out.size HC0.out.l2 (Kd.F_below HC0.out.f2 HX.out)
      have HGB : Hid (w2.heap.size ≤ wE.heap.size) := HX.out.size
      have HGL : Hid (wE.heap.size < (wE.alloc (.cells #[.int .i64 h.f0, .slice A2 h.f1.length c2] 27)).heap.size) := blk_lt (blk_new _ _)
      have HNE : Hid (gE ≠ wE.heap.size) := by have := Kd.N_lt HE.out gE rfl; show gE ≠ wE.heap.size; omega
      replace HE := hidm (Kd.N_alloc HE.out (.cells #[.int .i64 h.f0, .slice A2 h.f1.length c2] 27))
      replace HX := hidm (below_alloc HX.out (.cells #[.int .i64 h.f0, .slice A2 h.f1.length c2] 27))
      generalize (wE.alloc (.cells #[.int .i64 h.f0, .slice A2 h.f1.length c2] 27)) = wH at HH HX HGL HE ⊢
      generalize wE.heap.size = gH at HH HGB HGL HNE ⊢
      refine runX_step (crem := [6, 12]) (rs := [6]) (by kernel_rfl) ⟨?_, trivial⟩
      · refine ⟨_, rfl, rfl, .inr (.inr ?_)⟩
        refine step_append27 (w0 := w2) w2.heap.size rfl (.tmp 15) (.tmp 19) rfl (.slice (some ⟨gE, 0, none⟩) 0 0) [] ah A1 ah.length c1 (fun k => D k ∨ w2.heap.size ≤ k) D rfl rfl HE.out (Kd.F_below HC0.out.f1 HX.out)
          (fun k hk => ⟨.inl hk, fun e => by
            have h1 := HD.out k hk
            have h2 := HGE.out
            have e' : k = gE := by simpa [Value.ownBlock] using e
            omega⟩) (fun k hk => .inr (Nat.le_trans HX.out.size hk)) HX.out HX.out.size (by simp; omega) ?_
        intro v1 wA hN hX hg hat
        refine ⟨⟨⟨wA, hX⟩, rfl⟩, ?_⟩
        simp only [Act.put, List.getElem_toArray, List.getElem_cons_succ, List.getElem_cons_zero, List.setIfInBounds_toArray, List.set_cons_zero, List.set_cons_succ]
        obtain ⟨A9, c9, rfl⟩ := Kd.N_slice hN
        have HV : Hid (Kd.N k27 27 wA w2.heap.size (fun k => D k ∨ w2.heap.size ≤ k) (.slice A9 (([] : List S27) ++ ah).length c9) (([] : List S27) ++ ah)) := hN
        have HNV : Hid (∀ k, (Value.slice A9 (([] : List S27) ++ ah).length c9).ownBlock = some k → k ≠ gH) := fun k hk => by
          have h2 := HNE.out
          have h3 := HGL.out
          rcases hat with h1 | ⟨b, h1, h4⟩
          · rw [h1] at hk
            obtain rfl : gE = k := by simpa [Value.ownBlock] using hk
            exact h2
          · rw [h1] at hk
            obtain rfl : b = k := by simpa using hk
            omega
        replace HGL : Hid (gH < wA.heap.size) := Nat.lt_of_lt_of_le HGL.out hg.size
        replace HH := hidm (Kd.F_grown HH.out hg (fun k hk e => by
          have e' : k = gE := by simpa [Value.ownBlock] using e
          rcases hk with hk | hk
          · have h1 := HD.out k hk; have h2 := HGE.out; omega
          · exact HNE.out (e'.symm.trans hk)))
        replace HX : Hid (Below w2.heap.size w2 wA) := hX
        clear hN hX hg hat HE HGE HNE
        refine runX_step (crem := [12]) (rs := [12]) (by kernel_rfl) ⟨?_, trivial⟩
        · refine ⟨_, rfl, rfl, .inr (.inr ?_)⟩
          refine step_append27 (w0 := w2) w2.heap.size rfl (.tmp 20) (.tmp 25) rfl (.slice A9 (([] : List S27) ++ ah).length c9) (([] : List S27) ++ ah) [h] (some ⟨gH, 0, none⟩) 1 1 (fun k => D k ∨ w2.heap.size ≤ k) (fun k => D k ∨ k = gH) rfl rfl HV.out HH.out
            (fun k hk => ⟨hk.imp id (fun e => by rw [e]; exact HGB.out), fun e => by
              rcases hk with hk | hk
              · have h1 := HD.out k hk; have h2 := Kd.N_base HV.out k e.symm; omega
              · exact HNV.out k e.symm hk⟩) (fun k hk => .inr (Nat.le_trans HX.out.size hk)) HX.out HX.out.size (by simp; omega) ?_
          intro v1 w9 hN hX hg hat
          refine ⟨⟨⟨w9, hX⟩, rfl⟩, ?_⟩
          simp only [Act.put, List.getElem_toArray, List.getElem_cons_succ, List.getElem_cons_zero, List.setIfInBounds_toArray, List.set_cons_zero, List.set_cons_succ]
          obtain ⟨A8, c8, rfl⟩ := Kd.N_slice hN
          clear HV HH HGB HGL HNV HX hg hat
          have HX9 : Hid (Below w2.heap.size w2 w9) := hX
          have HC9 : Hid (RefC w9 D qb ah h be A1 c1 A2 c2 A3 c3) := HC0.out.below hX
          have hF9 : Kd.F k27 w9 (fun k => D k ∨ w2.heap.size ≤ k) A8 (ah.length + 1) (ah ++ [h]) := by
            have := Kd.N_F hN
            simpa using this
          have HF9 := hidm hF9
          have hc8 : ah.length + 1 ≤ c8 := by
            obtain ⟨A7, c7, e7, h7, _⟩ := Kd.N_reads hN
            injection e7 with _ _ e3
            rw [← e3] at h7
            simpa using h7
          have HW9 : Hid (Boxed1 w (.cells #[.int .i64 nx, .slice A l.length cl] 27) w9) := HW2.out.below hX
          clear hN hX hF9
          have HK4 : Hid ((w9.setCell ⟨qb, 0, none⟩ (.slice A8 (ah.length + 1) c8)).heap[qb]? = some (refO A8 (ah.length + 1) c8 h.f0 A2 h.f1.length c2 A3 be.length c3)) := blk_put HC9.out.blk 0 _ rfl
          have hqw : qb < w.heap.size := blk_lt HCw.out.blk
          have HK1 : Hid ((w9.setCell ⟨qb, 0, none⟩ (.slice A8 (ah.length + 1) c8)).heap[w.heap.size]? = some (.cells #[.int .i64 nx, .slice A l.length cl] 27 (0, 0))) := blk_far HW9.out.k1 (by show w.heap.size ≠ qb; omega) _
          have HWR : Hid (Wr (· = qb) w (w9.setCell ⟨qb, 0, none⟩ (.slice A8 (ah.length + 1) c8))) := (Wr.of_below (S := (· = qb)) HW9.out.b).set qb 0 _ (.inl rfl)
          have hDne : ∀ k, (D k ∨ w2.heap.size ≤ k) → k ≠ qb := by
            rintro k (hk | hk) rfl
            · exact HQD.out hk
            · have := HW2.out.b.size; omega
          have HF4 : Hid (Kd.F k27 (w9.setCell ⟨qb, 0, none⟩ (.slice A8 (ah.length + 1) c8)) (fun k => D k ∨ w2.heap.size ≤ k) A8 (ah.length + 1) (ah ++ [h])) := Kd.F_far HF9.out (p := ⟨qb, 0, none⟩) hDne _
          have q0 : w9.cell? ⟨qb, 0, none⟩ = some (.slice A1 ah.length c1) := blk_cell HC9.out.blk 0
          have f0 : ∀ i, w9.frozen? ⟨qb, i, none⟩ = false := blk_frozen HC9.out.blk
          have q1 : (w9.setCell ⟨qb, 0, none⟩ (.slice A8 (ah.length + 1) c8)).cell? ⟨qb, 0, none⟩ = some (.slice A8 (ah.length + 1) c8) := blk_cell HK4.out 0
          have q2 : (w9.setCell ⟨qb, 0, none⟩ (.slice A8 (ah.length + 1) c8)).cell? ⟨w.heap.size, 0, none⟩ = some (.int .i64 nx) := blk_cell HK1.out 0
          have q3 : (w9.setCell ⟨qb, 0, none⟩ (.slice A8 (ah.length + 1) c8)).cell? ⟨w.heap.size, 1, none⟩ = some (.slice A l.length cl) := blk_cell HK1.out 1
          clear HC9 HF9 HX9 HW9
          by_cases hbig : 64 < ah.length + 1
          · have hd : decide ((64 : Int) < (ah.length : Int) + 1) = true := decide_eq_true (by omega)
            obtain ⟨ad, _, hae, _, _, _, _⟩ := Kd.F_get HF4.out z27 0 (by omega) (by omega)
            have hA : A8 = some ad := hae
            subst hA
            clear hae
            have hc81 : ¬ c8 = 1 := by omega
            have h20 : (1 : Int) ≤ (ah.length : Int) + 1 := by omega
            have h22 : (ah.length : Int) + 1 ≤ (c8 : Int) := by omega
            have hdl : ((ah ++ [h]).drop 1).length = ah.length := by rw [List.length_drop]; simp
            have hxl : (ah ++ [h]).length = ah.length + 1 := by simp
            have hF5 : Kd.F k27 ((w9.setCell ⟨qb, 0, none⟩ (.slice (some ad) (ah.length + 1) c8)).setCell ⟨qb, 0, none⟩ (.slice (some ⟨ad.block, ad.off + 2, none⟩) ah.length (c8 - 1))) (fun k => D k ∨ w2.heap.size ≤ k) (some ⟨ad.block, ad.off + 2, none⟩) ah.length ((ah ++ [h]).drop 1) := by
              have h1 : Kd.F k27 (w9.setCell ⟨qb, 0, none⟩ (.slice (some ad) (ah.length + 1) c8)) (fun k => D k ∨ w2.heap.size ≤ k) (some ad) (ah ++ [h]).length (ah ++ [h]) := by rw [hxl]; exact HF4.out
              have h2 := Kd.F_cut (m := 1) (c := c8) h1 (by omega) (by omega)
              rw [if_neg hc81, hdl] at h2
              have h3 : (some ad).map (·.add (1 * k27.sz)) = some (⟨ad.block, ad.off + 2, none⟩ : Addr) := by
                show some (ad.add 2) = _
                simp [Addr.add]
              rw [h3] at h2
              exact Kd.F_far h2 (p := ⟨qb, 0, none⟩) hDne _
            have HF5 := hidm hF5
            have HK5 : Hid (((w9.setCell ⟨qb, 0, none⟩ (.slice (some ad) (ah.length + 1) c8)).setCell ⟨qb, 0, none⟩ (.slice (some ⟨ad.block, ad.off + 2, none⟩) ah.length (c8 - 1))).heap[qb]? = some (refO (some ⟨ad.block, ad.off + 2, none⟩) ah.length (c8 - 1) h.f0 A2 h.f1.length c2 A3 be.length c3)) := blk_put HK4.out 0 _ rfl
            have HK1' : Hid (((w9.setCell ⟨qb, 0, none⟩ (.slice (some ad) (ah.length + 1) c8)).setCell ⟨qb, 0, none⟩ (.slice (some ⟨ad.block, ad.off + 2, none⟩) ah.length (c8 - 1))).heap[w.heap.size]? = some (.cells #[.int .i64 nx, .slice A l.length cl] 27 (0, 0))) := blk_far HK1.out (by show w.heap.size ≠ qb; omega) _
            have HWR5 : Hid (Wr (· = qb) w ((w9.setCell ⟨qb, 0, none⟩ (.slice (some ad) (ah.length + 1) c8)).setCell ⟨qb, 0, none⟩ (.slice (some ⟨ad.block, ad.off + 2, none⟩) ah.length (c8 - 1)))) := HWR.out.set qb 0 _ (.inl rfl)
            have f1 : ∀ i, (w9.setCell ⟨qb, 0, none⟩ (.slice (some ad) (ah.length + 1) c8)).frozen? ⟨qb, i, none⟩ = false := blk_frozen HK4.out
            have q4 : ((w9.setCell ⟨qb, 0, none⟩ (.slice (some ad) (ah.length + 1) c8)).setCell ⟨qb, 0, none⟩ (.slice (some ⟨ad.block, ad.off + 2, none⟩) ah.length (c8 - 1))).cell? ⟨w.heap.size, 0, none⟩ = some (.int .i64 nx) := blk_cell HK1'.out 0
            have q5 : ((w9.setCell ⟨qb, 0, none⟩ (.slice (some ad) (ah.length + 1) c8)).setCell ⟨qb, 0, none⟩ (.slice (some ⟨ad.block, ad.off + 2, none⟩) ah.length (c8 - 1))).cell? ⟨w.heap.size, 1, none⟩ = some (.slice A l.length cl) := blk_cell HK1'.out 1
            have HAH : Hid (ahead ah h = (ah ++ [h]).drop 1) := if_pos (by rw [hxl]; exact hbig)
            have HDL2 := hidm hdl
            clear hF5 hdl hxl HK4 HK1 HWR HF4
            show wpList _ _ _ _ _ _
            go_wp2_with fail
            refine NoPanic.normal ?_
            go_wp2_with fail
            clear q0 q1 q2 q3 q4 q5 f0 f1
            generalize ((w9.setCell ⟨qb, 0, none⟩ (.slice (some ad) (ah.length + 1) c8)).setCell ⟨qb, 0, none⟩ (.slice (some ⟨ad.block, ad.off + 2, none⟩) ah.length (c8 - 1))) = w5 at HK5 HK1' HWR5 HF5 ⊢
            refine (refTwin_any nx A l cl w5 (Kd.F_now (Kd.F_step HRF.out (fun k hk hlt => HWR5.out.block k hlt (fun e => HDL.out (by rw [← e]; exact hk))))) HCL.out HS.out).mono ?_
            rintro e w6 ⟨v, rfl, hv, hb6⟩
            obtain ⟨A7, c7, rfl, hc7, _⟩ := Kd.R_reads hv
            have HO := hidm (push_done (nx := nx) (X := (ah ++ [h]).drop 1) (h := h) (be := be) (A8 := some ⟨ad.block, ad.off + 2, none⟩) (c8 := c8 - 1) (A2 := A2) (c2 := c2) (A3 := A3) (c3 := c3) hqw HQD.out HW2.out.b.size HWR5.out (by rw [HDL2.out]; exact HK5.out) (by rw [HDL2.out]; exact HF5.out) (by rw [HDL2.out]; omega) hb6 hv hc7)
            have HK6 := hidm (blk_below HK5.out hb6)
            have q1 : w6.cell? ⟨qb, 1, none⟩ = some (.int .i64 h.f0) := blk_cell HK6.out 1
            have q2 : w6.cell? ⟨qb, 2, none⟩ = some (.slice A2 h.f1.length c2) := blk_cell HK6.out 2
            have q3 : w6.cell? ⟨qb, 3, none⟩ = some (.slice A3 be.length c3) := blk_cell HK6.out 3
            have ff : ∀ i, w6.frozen? ⟨qb, i, none⟩ = false := blk_frozen HK6.out
            clear hv hb6 HK5 HK1' HWR5 HF5
            go_wp2_with fail
            go_ret
            rw [HAH.out]
            exact HO.out
          · have hd : decide ((64 : Int) < (ah.length : Int) + 1) = false := decide_eq_false (by omega)
            show wpList _ _ _ _ _ _
            go_wp2_with fail
            refine NoPanic.normal ?_
            go_wp2_with fail
            generalize (w9.setCell ⟨qb, 0, none⟩ (.slice A8 (ah.length + 1) c8)) = w5 at HK4 HK1 HWR HF4 ⊢
            refine (refTwin_any nx A l cl w5 (Kd.F_now (Kd.F_step HRF.out (fun k hk hlt => HWR.out.block k hlt (fun e => HDL.out (by rw [← e]; exact hk))))) HCL.out HS.out).mono ?_
            rintro e w6 ⟨v, rfl, hv, hb6⟩
            obtain ⟨A7, c7, rfl, hc7, _⟩ := Kd.R_reads hv
            have hxl : (ah ++ [h]).length = ah.length + 1 := by simp
            have HO := hidm (push_done (nx := nx) (X := ah ++ [h]) (h := h) (be := be) (A8 := A8) (c8 := c8) (A2 := A2) (c2 := c2) (A3 := A3) (c3 := c3) hqw HQD.out HW2.out.b.size HWR.out (by rw [hxl]; exact HK4.out) (by rw [hxl]; exact HF4.out) (by rw [hxl]; exact hc8) hb6 hv hc7)
            have HK6 := hidm (blk_below HK4.out hb6)
            have q1 : w6.cell? ⟨qb, 1, none⟩ = some (.int .i64 h.f0) := blk_cell HK6.out 1
            have q2 : w6.cell? ⟨qb, 2, none⟩ = some (.slice A2 h.f1.length c2) := blk_cell HK6.out 2
            have q3 : w6.cell? ⟨qb, 3, none⟩ = some (.slice A3 be.length c3) := blk_cell HK6.out 3
            have ff : ∀ i, w6.frozen? ⟨qb, i, none⟩ = false := blk_frozen HK6.out
            have HAH : Hid (ahead ah h = ah ++ [h]) := if_neg (by rw [hxl]; exact hbig)
            clear hv hb6 HK4 HK1 HWR HF4 hxl
            go_wp2_with fail
            go_ret
            rw [HAH.out]
            exact HO.out
  · refine ⟨_, rfl, rfl, .inr (.inl ⟨.slice (some ⟨w3.heap.size, 0, none⟩) 1 1, (w3.alloc (.cells #[.int .i64 h.f0, .slice A2 h.f1.length c2] 27)), by go_simp, ⟨⟨_, below_alloc HX.out _⟩, rfl⟩, ?_⟩)⟩
    simp only [Act.put, List.getElem_toArray, List.getElem_cons_succ, List.getElem_cons_zero, List.setIfInBounds_toArray, List.set_cons_zero, List.set_cons_succ]
    have HH : Hid (Kd.F k27 (w3.alloc (.cells #[.int .i64 h.f0, .slice A2 h.f1.length c2] 27)) (fun k => D k ∨ k = w3.heap.size) (some ⟨w3.heap.size, 0, none⟩) 1 [h]) := one_row' HX.out.size HC0.out.l2 (Kd.F_below HC0.out.f2 HX.out)
    have HGB : Hid (w2.heap.size ≤ w3.heap.size) := HX.out.size
    have HGL : Hid (w3.heap.size < (w3.alloc (.cells #[.int .i64 h.f0, .slice A2 h.f1.length c2] 27)).heap.size) := blk_lt (blk_new _ _)
    replace HX := hidm (below_alloc HX.out (.cells #[.int .i64 h.f0, .slice A2 h.f1.length c2] 27))
    generalize (w3.alloc (.cells #[.int .i64 h.f0, .slice A2 h.f1.length c2] 27)) = wH at HH HX HGL ⊢
    generalize w3.heap.size = gH at HH HGB HGL ⊢
    refine runX_step (crem := [1, 6, 12]) (rs := [1]) (by kernel_rfl) ⟨?_, trivial⟩
    · refine ⟨_, rfl, rfl, .inr (.inl ⟨.slice (some ⟨wH.heap.size, 0, none⟩) 0 0, (wH.alloc (.cells #[] 27)), by go_simp, ⟨⟨_, below_alloc HX.out _⟩, rfl⟩, ?_⟩)⟩
      simp only [Act.put, List.getElem_toArray, List.getElem_cons_succ, List.getElem_cons_zero, List.setIfInBounds_toArray, List.set_cons_zero, List.set_cons_succ]
      have HE : Hid (Kd.N k27 27 (wH.alloc (.cells #[] 27)) w2.heap.size (fun k => D k ∨ w2.heap.size ≤ k) (.slice (some ⟨wH.heap.size, 0, none⟩) 0 0) []) := empty_row wH w2.heap.size D HX.out.size
      have HGE : Hid (w2.heap.size ≤ wH.heap.size) := HX.out.size
      have HNE : Hid (wH.heap.size ≠ gH) := by have := HGL.out; show wH.heap.size ≠ gH; omega
      replace HGL : Hid (gH < (wH.alloc (.cells #[] 27)).heap.size) := Nat.lt_of_lt_of_le HGL.out (below_alloc (Below.refl _ _) _).size
      replace HH := hidm (Kd.F_alloc HH.out (.cells #[] 27))
      replace HX := hidm (below_alloc HX.out (.cells #[] 27))
      generalize (wH.alloc (.cells #[] 27)) = wE at HE HX HH HGL ⊢
      generalize wH.heap.size = gE at HE HGE HNE ⊢
      refine runX_step (crem := [6, 12]) (rs := [6]) (by kernel_rfl) ⟨?_, trivial⟩
      · refine ⟨_, rfl, rfl, .inr (.inr ?_)⟩
        refine step_append27 (w0 := w2) w2.heap.size rfl (.tmp 15) (.tmp 19) rfl (.slice (some ⟨gE, 0, none⟩) 0 0) [] ah A1 ah.length c1 (fun k => D k ∨ w2.heap.size ≤ k) D rfl rfl HE.out (Kd.F_below HC0.out.f1 HX.out)
          (fun k hk => ⟨.inl hk, fun e => by
            have h1 := HD.out k hk
            have h2 := HGE.out
            have e' : k = gE := by simpa [Value.ownBlock] using e
            omega⟩) (fun k hk => .inr (Nat.le_trans HX.out.size hk)) HX.out HX.out.size (by simp; omega) ?_
        intro v1 wA hN hX hg hat
        refine ⟨⟨⟨wA, hX⟩, rfl⟩, ?_⟩
        simp only [Act.put, List.getElem_toArray, List.getElem_cons_succ, List.getElem_cons_zero, List.setIfInBounds_toArray, List.set_cons_zero, List.set_cons_succ]
        obtain ⟨A9, c9, rfl⟩ := Kd.N_slice hN
        have HV : Hid (Kd.N k27 27 wA w2.heap.size (fun k => D k ∨ w2.heap.size ≤ k) (.slice A9 (([] : List S27) ++ ah).length c9) (([] : List S27) ++ ah)) := hN
        have HNV : Hid (∀ k, (Value.slice A9 (([] : List S27) ++ ah).length c9).ownBlock = some k → k ≠ gH) := fun k hk => by
          have h2 := HNE.out
          have h3 := HGL.out
          rcases hat with h1 | ⟨b, h1, h4⟩
          · rw [h1] at hk
            obtain rfl : gE = k := by simpa [Value.ownBlock] using hk
            exact h2
          · rw [h1] at hk
            obtain rfl : b = k := by simpa using hk
            omega
        replace HGL : Hid (gH < wA.heap.size) := Nat.lt_of_lt_of_le HGL.out hg.size
        replace HH := hidm (Kd.F_grown HH.out hg (fun k hk e => by
          have e' : k = gE := by simpa [Value.ownBlock] using e
          rcases hk with hk | hk
          · have h1 := HD.out k hk; have h2 := HGE.out; omega
          · exact HNE.out (e'.symm.trans hk)))
        replace HX : Hid (Below w2.heap.size w2 wA) := hX
        clear hN hX hg hat HE HGE HNE
        refine runX_step (crem := [12]) (rs := [12]) (by kernel_rfl) ⟨?_, trivial⟩
        · refine ⟨_, rfl, rfl, .inr (.inr ?_)⟩
          refine step_append27 (w0 := w2) w2.heap.size rfl (.tmp 20) (.tmp 25) rfl (.slice A9 (([] : List S27) ++ ah).length c9) (([] : List S27) ++ ah) [h] (some ⟨gH, 0, none⟩) 1 1 (fun k => D k ∨ w2.heap.size ≤ k) (fun k => D k ∨ k = gH) rfl rfl HV.out HH.out
            (fun k hk => ⟨hk.imp id (fun e => by rw [e]; exact HGB.out), fun e => by
              rcases hk with hk | hk
              · have h1 := HD.out k hk; have h2 := Kd.N_base HV.out k e.symm; omega
              · exact HNV.out k e.symm hk⟩) (fun k hk => .inr (Nat.le_trans HX.out.size hk)) HX.out HX.out.size (by simp; omega) ?_
          intro v1 w9 hN hX hg hat
          refine ⟨⟨⟨w9, hX⟩, rfl⟩, ?_⟩
          simp only [Act.put, List.getElem_toArray, List.getElem_cons_succ, List.getElem_cons_zero, List.setIfInBounds_toArray, List.set_cons_zero, List.set_cons_succ]
          obtain ⟨A8, c8, rfl⟩ := Kd.N_slice hN
          clear HV HH HGB HGL HNV HX hg hat
          have HX9 : Hid (Below w2.heap.size w2 w9) := hX
          have HC9 : Hid (RefC w9 D qb ah h be A1 c1 A2 c2 A3 c3) := HC0.out.below hX
          have hF9 : Kd.F k27 w9 (fun k => D k ∨ w2.heap.size ≤ k) A8 (ah.length + 1) (ah ++ [h]) := by
            have := Kd.N_F hN
            simpa using this
          have HF9 := hidm hF9
          have hc8 : ah.length + 1 ≤ c8 := by
            obtain ⟨A7, c7, e7, h7, _⟩ := Kd.N_reads hN
            injection e7 with _ _ e3
            rw [← e3] at h7
            simpa using h7
          have HW9 : Hid (Boxed1 w (.cells #[.int .i64 nx, .slice A l.length cl] 27) w9) := HW2.out.below hX
          clear hN hX hF9
          have HK4 : Hid ((w9.setCell ⟨qb, 0, none⟩ (.slice A8 (ah.length + 1) c8)).heap[qb]? = some (refO A8 (ah.length + 1) c8 h.f0 A2 h.f1.length c2 A3 be.length c3)) := blk_put HC9.out.blk 0 _ rfl
          have hqw : qb < w.heap.size := blk_lt HCw.out.blk
          have HK1 : Hid ((w9.setCell ⟨qb, 0, none⟩ (.slice A8 (ah.length + 1) c8)).heap[w.heap.size]? = some (.cells #[.int .i64 nx, .slice A l.length cl] 27 (0, 0))) := blk_far HW9.out.k1 (by show w.heap.size ≠ qb; omega) _
          have HWR : Hid (Wr (· = qb) w (w9.setCell ⟨qb, 0, none⟩ (.slice A8 (ah.length + 1) c8))) := (Wr.of_below (S := (· = qb)) HW9.out.b).set qb 0 _ (.inl rfl)
          have hDne : ∀ k, (D k ∨ w2.heap.size ≤ k) → k ≠ qb := by
            rintro k (hk | hk) rfl
            · exact HQD.out hk
            · have := HW2.out.b.size; omega
          have HF4 : Hid (Kd.F k27 (w9.setCell ⟨qb, 0, none⟩ (.slice A8 (ah.length + 1) c8)) (fun k => D k ∨ w2.heap.size ≤ k) A8 (ah.length + 1) (ah ++ [h])) := Kd.F_far HF9.out (p := ⟨qb, 0, none⟩) hDne _
          have q0 : w9.cell? ⟨qb, 0, none⟩ = some (.slice A1 ah.length c1) := blk_cell HC9.out.blk 0
          have f0 : ∀ i, w9.frozen? ⟨qb, i, none⟩ = false := blk_frozen HC9.out.blk
          have q1 : (w9.setCell ⟨qb, 0, none⟩ (.slice A8 (ah.length + 1) c8)).cell? ⟨qb, 0, none⟩ = some (.slice A8 (ah.length + 1) c8) := blk_cell HK4.out 0
          have q2 : (w9.setCell ⟨qb, 0, none⟩ (.slice A8 (ah.length + 1) c8)).cell? ⟨w.heap.size, 0, none⟩ = some (.int .i64 nx) := blk_cell HK1.out 0
          have q3 : (w9.setCell ⟨qb, 0, none⟩ (.slice A8 (ah.length + 1) c8)).cell? ⟨w.heap.size, 1, none⟩ = some (.slice A l.length cl) := blk_cell HK1.out 1
          clear HC9 HF9 HX9 HW9
          by_cases hbig : 64 < ah.length + 1
          · have hd : decide ((64 : Int) < (ah.length : Int) + 1) = true := decide_eq_true (by omega)
            obtain ⟨ad, _, hae, _, _, _, _⟩ := Kd.F_get HF4.out z27 0 (by omega) (by omega)
            have hA : A8 = some ad := hae
            subst hA
            clear hae
            have hc81 : ¬ c8 = 1 := by omega
            have h20 : (1 : Int) ≤ (ah.length : Int) + 1 := by omega
            have h22 : (ah.length : Int) + 1 ≤ (c8 : Int) := by omega
            have hdl : ((ah ++ [h]).drop 1).length = ah.length := by rw [List.length_drop]; simp
            have hxl : (ah ++ [h]).length = ah.length + 1 := by simp
            have hF5 : Kd.F k27 ((w9.setCell ⟨qb, 0, none⟩ (.slice (some ad) (ah.length + 1) c8)).setCell ⟨qb, 0, none⟩ (.slice (some ⟨ad.block, ad.off + 2, none⟩) ah.length (c8 - 1))) (fun k => D k ∨ w2.heap.size ≤ k) (some ⟨ad.block, ad.off + 2, none⟩) ah.length ((ah ++ [h]).drop 1) := by
              have h1 : Kd.F k27 (w9.setCell ⟨qb, 0, none⟩ (.slice (some ad) (ah.length + 1) c8)) (fun k => D k ∨ w2.heap.size ≤ k) (some ad) (ah ++ [h]).length (ah ++ [h]) := by rw [hxl]; exact HF4.out
              have h2 := Kd.F_cut (m := 1) (c := c8) h1 (by omega) (by omega)
              rw [if_neg hc81, hdl] at h2
              have h3 : (some ad).map (·.add (1 * k27.sz)) = some (⟨ad.block, ad.off + 2, none⟩ : Addr) := by
                show some (ad.add 2) = _
                simp [Addr.add]
              rw [h3] at h2
              exact Kd.F_far h2 (p := ⟨qb, 0, none⟩) hDne _
            have HF5 := hidm hF5
            have HK5 : Hid (((w9.setCell ⟨qb, 0, none⟩ (.slice (some ad) (ah.length + 1) c8)).setCell ⟨qb, 0, none⟩ (.slice (some ⟨ad.block, ad.off + 2, none⟩) ah.length (c8 - 1))).heap[qb]? = some (refO (some ⟨ad.block, ad.off + 2, none⟩) ah.length (c8 - 1) h.f0 A2 h.f1.length c2 A3 be.length c3)) := blk_put HK4.out 0 _ rfl
            have HK1' : Hid (((w9.setCell ⟨qb, 0, none⟩ (.slice (some ad) (ah.length + 1) c8)).setCell ⟨qb, 0, none⟩ (.slice (some ⟨ad.block, ad.off + 2, none⟩) ah.length (c8 - 1))).heap[w.heap.size]? = some (.cells #[.int .i64 nx, .slice A l.length cl] 27 (0, 0))) := blk_far HK1.out (by show w.heap.size ≠ qb; omega) _
            have HWR5 : Hid (Wr (· = qb) w ((w9.setCell ⟨qb, 0, none⟩ (.slice (some ad) (ah.length + 1) c8)).setCell ⟨qb, 0, none⟩ (.slice (some ⟨ad.block, ad.off + 2, none⟩) ah.length (c8 - 1)))) := HWR.out.set qb 0 _ (.inl rfl)
            have f1 : ∀ i, (w9.setCell ⟨qb, 0, none⟩ (.slice (some ad) (ah.length + 1) c8)).frozen? ⟨qb, i, none⟩ = false := blk_frozen HK4.out
            have q4 : ((w9.setCell ⟨qb, 0, none⟩ (.slice (some ad) (ah.length + 1) c8)).setCell ⟨qb, 0, none⟩ (.slice (some ⟨ad.block, ad.off + 2, none⟩) ah.length (c8 - 1))).cell? ⟨w.heap.size, 0, none⟩ = some (.int .i64 nx) := blk_cell HK1'.out 0
            have q5 : ((w9.setCell ⟨qb, 0, none⟩ (.slice (some ad) (ah.length + 1) c8)).setCell ⟨qb, 0, none⟩ (.slice (some ⟨ad.block, ad.off + 2, none⟩) ah.length (c8 - 1))).cell? ⟨w.heap.size, 1, none⟩ = some (.slice A l.length cl) := blk_cell HK1'.out 1
            have HAH : Hid (ahead ah h = (ah ++ [h]).drop 1) := if_pos (by rw [hxl]; exact hbig)
            have HDL2 := hidm hdl
            clear hF5 hdl hxl HK4 HK1 HWR HF4
            show wpList _ _ _ _ _ _
            go_wp2_with fail
            refine NoPanic.normal ?_
            go_wp2_with fail
            clear q0 q1 q2 q3 q4 q5 f0 f1
            generalize ((w9.setCell ⟨qb, 0, none⟩ (.slice (some ad) (ah.length + 1) c8)).setCell ⟨qb, 0, none⟩ (.slice (some ⟨ad.block, ad.off + 2, none⟩) ah.length (c8 - 1))) = w5 at HK5 HK1' HWR5 HF5 ⊢
            refine (refTwin_any nx A l cl w5 (Kd.F_now (Kd.F_step HRF.out (fun k hk hlt => HWR5.out.block k hlt (fun e => HDL.out (by rw [← e]; exact hk))))) HCL.out HS.out).mono ?_
            rintro e w6 ⟨v, rfl, hv, hb6⟩
            obtain ⟨A7, c7, rfl, hc7, _⟩ := Kd.R_reads hv
            have HO := hidm (push_done (nx := nx) (X := (ah ++ [h]).drop 1) (h := h) (be := be) (A8 := some ⟨ad.block, ad.off + 2, none⟩) (c8 := c8 - 1) (A2 := A2) (c2 := c2) (A3 := A3) (c3 := c3) hqw HQD.out HW2.out.b.size HWR5.out (by rw [HDL2.out]; exact HK5.out) (by rw [HDL2.out]; exact HF5.out) (by rw [HDL2.out]; omega) hb6 hv hc7)
            have HK6 := hidm (blk_below HK5.out hb6)
            have q1 : w6.cell? ⟨qb, 1, none⟩ = some (.int .i64 h.f0) := blk_cell HK6.out 1
            have q2 : w6.cell? ⟨qb, 2, none⟩ = some (.slice A2 h.f1.length c2) := blk_cell HK6.out 2
            have q3 : w6.cell? ⟨qb, 3, none⟩ = some (.slice A3 be.length c3) := blk_cell HK6.out 3
            have ff : ∀ i, w6.frozen? ⟨qb, i, none⟩ = false := blk_frozen HK6.out
            clear hv hb6 HK5 HK1' HWR5 HF5
            go_wp2_with fail
            go_ret
            rw [HAH.out]
            exact HO.out
          · have hd : decide ((64 : Int) < (ah.length : Int) + 1) = false := decide_eq_false (by omega)
            show wpList _ _ _ _ _ _
            go_wp2_with fail
            refine NoPanic.normal ?_
            go_wp2_with fail
            generalize (w9.setCell ⟨qb, 0, none⟩ (.slice A8 (ah.length + 1) c8)) = w5 at HK4 HK1 HWR HF4 ⊢
            refine (refTwin_any nx A l cl w5 (Kd.F_now (Kd.F_step HRF.out (fun k hk hlt => HWR.out.block k hlt (fun e => HDL.out (by rw [← e]; exact hk))))) HCL.out HS.out).mono ?_
            rintro e w6 ⟨v, rfl, hv, hb6⟩
            obtain ⟨A7, c7, rfl, hc7, _⟩ := Kd.R_reads hv
            have hxl : (ah ++ [h]).length = ah.length + 1 := by simp
            have HO := hidm (push_done (nx := nx) (X := ah ++ [h]) (h := h) (be := be) (A8 := A8) (c8 := c8) (A2 := A2) (c2 := c2) (A3 := A3) (c3 := c3) hqw HQD.out HW2.out.b.size HWR.out (by rw [hxl]; exact HK4.out) (by rw [hxl]; exact HF4.out) (by rw [hxl]; exact hc8) hb6 hv hc7)
            have HK6 := hidm (blk_below HK4.out hb6)
            have q1 : w6.cell? ⟨qb, 1, none⟩ = some (.int .i64 h.f0) := blk_cell HK6.out 1
            have q2 : w6.cell? ⟨qb, 2, none⟩ = some (.slice A2 h.f1.length c2) := blk_cell HK6.out 2
            have q3 : w6.cell? ⟨qb, 3, none⟩ = some (.slice A3 be.length c3) := blk_cell HK6.out 3
            have ff : ∀ i, w6.frozen? ⟨qb, i, none⟩ = false := blk_frozen HK6.out
            have HAH : Hid (ahead ah h = ah ++ [h]) := if_neg (by rw [hxl]; exact hbig)
            clear hv hb6 HK4 HK1 HWR HF4 hxl
            go_wp2_with fail
            go_ret
            rw [HAH.out]
            exact HO.out
set_option maxRecDepth 100000 in
set_option maxHeartbeats 1000000 in
theorem refPush_same (qb : Nat) (D : Nat → Prop) (ah : List S27) (h : S27) (be : List S27) (nx : Int) (A : Option Addr) (l : List S76) (cl : Nat) (w : World) (hq : RefR w D qb ah h be)
    (hrF : Kd.C k76 w A l.length l) (hcl : l.length ≤ cl) (hk : CheckP nx l) (hne : nx = h.f0 ∧ l = h.f1) :
    Calls Try.prog 16 #[.pointer (some ⟨qb, 0, none⟩), .agg #[.int .i64 nx, .slice A l.length cl]] w fun e w' => e = .returned (.int .i64 0) ∧ Below w.heap.size w w' := by
  obtain ⟨A1, c1, A2, c2, A3, c3, hc⟩ := hq.open_
  have HCw : Hid (RefC w D qb ah h be A1 c1 A2 c2 A3 c3) := hc
  have HR : Hid (Kd.C k76 w A l.length l) := hrF
  have HCL : Hid (l.length ≤ cl) := hcl
  have HK : Hid (CheckP nx l) := hk
  have HNE0 : Hid (nx = h.f0 ∧ l = h.f1) := hne
  clear hq hc hrF hcl hk hne
  have HW : Hid (Boxed1 w (.cells #[.int .i64 nx, .slice A l.length cl] 27) (w.alloc (.cells #[.int .i64 nx, .slice A l.length cl] 27))) := ⟨below_alloc (Below.refl _ _) _, blk_new _ _⟩
  go_enter Try.func16, Try.ntmps16
  go_wp2_with fail
  generalize (w.alloc (.cells #[.int .i64 nx, .slice A l.length cl] 27)) = W at HW ⊢
  have hcall := right_check nx l A cl W (Kd.C_below HR.out HW.out.b) HCL.out
  rw [tv_yes HK.out] at hcall
  refine hcall.mono ?_
  clear hcall
  rintro e w1 ⟨rfl, hb⟩
  have HW1 : Hid (Boxed1 w (.cells #[.int .i64 nx, .slice A l.length cl] 27) w1) := HW.out.below hb
  clear hb HW
  go_wp2_with fail
  have HC1 : Hid (RefC w1 D qb ah h be A1 c1 A2 c2 A3 c3) := HCw.out.below HW1.out.b
  have s0 : ∀ y : BW w1, y.1.cell? ⟨w.heap.size, 0, none⟩ = some (.int .i64 nx) := bw_cell (blk_cell HW1.out.k1 0)
  have s1 : ∀ y : BW w1, y.1.cell? ⟨w.heap.size, 1, none⟩ = some (.slice A l.length cl) := bw_cell (blk_cell HW1.out.k1 1)
  have s2 : ∀ y : BW w1, y.1.cell? ⟨qb, 1, none⟩ = some (.int .i64 h.f0) := bw_cell (blk_cell HC1.out.blk 1)
  have s3 : ∀ y : BW w1, y.1.cell? ⟨qb, 2, none⟩ = some (.slice A2 h.f1.length c2) := bw_cell (blk_cell HC1.out.blk 2)
  have HSC : Hid (∀ y : BW w1, Calls Try.prog 19 #[.agg #[.int .i64 nx, .slice A l.length cl], .agg #[.int .i64 h.f0, .slice A2 h.f1.length c2]] y.1 fun e w' => e = .returned (.bool true) ∧ Below y.1.heap.size y.1 w') := fun y => by
    have := refSame_any nx h.f0 l h.f1 A A2 cl c2 y.1 (Kd.C_below HR.out (below_step HW1.out.b y.2)) HCL.out (Kd.C_below (Kd.F_now HC1.out.f2) y.2) HC1.out.l2
    rw [tv_yes HNE0.out] at this
    exact this
  refine wp_region_bw (by kernel_rfl) (by kernel_rfl) ?_
  repeat (go_big_quiet_step ((go_at_call 19; exact calls_bw (HSC.out _))))
  refine wpQuiet_nil ?_
  rintro _ ⟨y, rfl⟩
  have HW2 : Hid (Boxed1 w (.cells #[.int .i64 nx, .slice A l.length cl] 27) y.1) := HW1.out.below y.2
  have HC0 : Hid (RefC y.1 D qb ah h be A1 c1 A2 c2 A3 c3) := HC1.out.below y.2
  clear s0 s1 s2 s3 HSC HC1 HW1
  obtain ⟨w2, hw2⟩ := y
  dsimp only at HW2 HC0 ⊢
  clear hw2
  go_wp2_with fail
  go_ret
  exact ⟨rfl, HW2.out.b⟩
end Go.Proofs.Ytlopfkkegjajlaa
namespace Go.Proofs.Ytlopfkkegjajlaa
open Go.RowKit Go.Proofs.YtlopfkkegjajlaaW.PrintWords PHistoryTouched
theorem empty_own (W : World) : Kd.N k27 27 (W.alloc (.cells #[] 27)) W.heap.size (fun k => k = W.heap.size) (.slice (some ⟨W.heap.size, 0, none⟩) 0 0) [] := by
  obtain ⟨h1, h2⟩ := Kd.N_bound (empty_row W W.heap.size (fun _ => False) (Nat.le_refl _))
  refine ⟨fun k hk => ?_, h2.imp fun a h => ?_⟩
  · have : W.heap.size = k := by simpa [Value.ownBlock] using hk
    exact this.symm
  · exact ⟨h.1, h.2.1, fun j x c hx => by simp at hx⟩
def RefCopyPost (D : Nat → Prop) (ah : List S27) (h : S27) (be : List S27) (w : World) (e : Ending) (w' : World) : Prop :=
  ∃ qb, e = .returned (.pointer (some ⟨qb, 0, none⟩)) ∧ w.heap.size ≤ qb ∧ RefR w' (fun k => (D k ∨ (w.heap.size ≤ k ∧ k < w'.heap.size)) ∧ k ≠ qb) qb ah h be ∧ Below w.heap.size w w'
theorem refCopy_done {w w9 : World} {D : Nat → Prop} {qb : Nat} {ah be : List S27} {h : S27} {A1 A2 A3 A8 A9 : Option Addr} {c1 c2 c3 c8 c9 : Nat} (hD : ∀ k, D k → k < w.heap.size) (hX : Below w.heap.size w w9)
    (HC : RefC w D qb ah h be A1 c1 A2 c2 A3 c3) (HV : Kd.F k27 w9 (fun k => D k ∨ w.heap.size ≤ k) A9 ah.length ah) (hc9 : ah.length ≤ c9) (HB : Kd.F k27 w9 (fun k => D k ∨ w.heap.size ≤ k) A8 be.length be) (hc8 : be.length ≤ c8) :
    RefCopyPost D ah h be w (.returned (.pointer (some ⟨w9.heap.size, 0, none⟩))) (w9.alloc (.cells #[.slice A9 ah.length c9, .int .i64 h.f0, .slice A2 h.f1.length c2, .slice A8 be.length c8] 49)) := by
  have hsz := hX.size
  have hs : (w9.alloc (.cells #[.slice A9 ah.length c9, .int .i64 h.f0, .slice A2 h.f1.length c2, .slice A8 be.length c8] 49)).heap.size = w9.heap.size + 1 := by simp
  have hm : ∀ k, ((D k ∨ w.heap.size ≤ k) ∧ k < w9.heap.size) → (D k ∨ (w.heap.size ≤ k ∧ k < (w9.alloc (.cells #[.slice A9 ah.length c9, .int .i64 h.f0, .slice A2 h.f1.length c2, .slice A8 be.length c8] 49)).heap.size)) ∧ k ≠ w9.heap.size := fun k hk =>
    ⟨hk.1.imp id (fun h => ⟨h, by rw [hs]; omega⟩), by omega⟩
  refine ⟨_, rfl, hsz, ⟨_, _, _, _, _, _, blk_new _ _, hc9, HC.l2, hc8, ?_, ?_, ?_⟩, below_alloc hX _⟩
  · exact Kd.F_alloc (Kd.F_mono (Kd.F_bound HV) hm) _
  · exact Kd.F_alloc (Kd.F_mono (Kd.F_below HC.f2 hX) (fun k hk => hm k ⟨.inl hk, by have := hD k hk; omega⟩)) _
  · exact Kd.F_alloc (Kd.F_mono (Kd.F_bound HB) hm) _
set_option maxRecDepth 100000 in
set_option maxHeartbeats 8000000 in
theorem refCopy_any (qb : Nat) (D : Nat → Prop) (ah : List S27) (h : S27) (be : List S27) (w : World) (hq : RefR w D qb ah h be) (hD : ∀ k, D k → k < w.heap.size) (hl : ah.length ≤ 1000) (hl3 : be.length ≤ 1000) :
    Calls Try.prog 23 #[.pointer (some ⟨qb, 0, none⟩)] w (RefCopyPost D ah h be w) := by
  obtain ⟨A1, c1, A2, c2, A3, c3, hc⟩ := hq.open_
  have HC0 : Hid (RefC w D qb ah h be A1 c1 A2 c2 A3 c3) := hc
  have HD : Hid (∀ k, D k → k < w.heap.size) := hD
  clear hq hc hD
  go_enter Try.func23, Try.ntmps23
  go_wp2_with fail
  have s0 : ∀ y : BW w, y.1.cell? ⟨qb, 0, none⟩ = some (.slice A1 ah.length c1) := bw_cell (blk_cell HC0.out.blk 0)
  have s1 : ∀ y : BW w, y.1.cell? ⟨qb, 1, none⟩ = some (.int .i64 h.f0) := bw_cell (blk_cell HC0.out.blk 1)
  have s2 : ∀ y : BW w, y.1.cell? ⟨qb, 2, none⟩ = some (.slice A2 h.f1.length c2) := bw_cell (blk_cell HC0.out.blk 2)
  have s3 : ∀ y : BW w, y.1.cell? ⟨qb, 3, none⟩ = some (.slice A3 be.length c3) := bw_cell (blk_cell HC0.out.blk 3)
  refine wp_region_noPanic ?_
  refine wp_region_holdX (C := fun w' => ∃ x : BW w, w' = x.1) 16 [] [] [1, 2, 3, 4, 6, 7, 8, 9, 11, 12, 13, 14] [0, 5, 10, 15] (by kernel_rfl) (by kernel_rfl) (by kernel_rfl) (by kernel_rfl) (fun _ _ _ _ _ h => (h : False).elim) ⟨⟨{ w with drawn := w.drawn + 1 }, ⟨rfl, rfl, rfl, Nat.le_refl _, fun _ _ => rfl⟩⟩, rfl⟩ ?_
  simp only [pickOps, Option.elim_some, List.getElem?_cons_succ, List.getElem?_cons_zero, List.drop_succ_cons, List.drop_zero]
  repeat (go_big_quiet_step (fail))
  refine wpQuiet_nil ?_
  rintro _ ⟨y, rfl⟩
  have HX : Hid (Below w.heap.size w y.1) := y.2
  clear s0 s1 s2 s3
  obtain ⟨w1, hw1⟩ := y
  dsimp only at HX ⊢
  clear hw1
  refine runX_step (crem := [0, 5, 10, 15]) (rs := [0, 10]) (by kernel_rfl) ⟨?_, ?_, trivial⟩
  · refine ⟨_, rfl, rfl, .inr (.inl ⟨.slice (some ⟨w1.heap.size, 0, none⟩) 0 0, (w1.alloc (.cells #[] 27)), by go_simp, ⟨⟨_, below_alloc HX.out _⟩, rfl⟩, ?_⟩)⟩
    simp only [Act.put, List.getElem_toArray, List.getElem_cons_zero, List.setIfInBounds_toArray, List.set_cons_zero, List.set_cons_succ]
    have HE : Hid (Kd.N k27 27 (w1.alloc (.cells #[] 27)) w1.heap.size (fun k => k = w1.heap.size) (.slice (some ⟨w1.heap.size, 0, none⟩) 0 0) []) := empty_own w1
    have HLEE : Hid (w.heap.size ≤ w1.heap.size) := HX.out.size
    have HLTE : Hid (w1.heap.size < (w1.alloc (.cells #[] 27)).heap.size) := blk_lt (blk_new _ _)
    replace HX := hidm (below_alloc HX.out (.cells #[] 27))
    generalize (w1.alloc (.cells #[] 27)) = wE at HX HE HLTE ⊢
    generalize w1.heap.size = gE at HE HLEE HLTE ⊢
    refine runX_step (crem := [5, 10, 15]) (rs := [5, 10]) (by kernel_rfl) ⟨?_, ?_, trivial⟩
    · refine ⟨_, rfl, rfl, .inr (.inr ?_)⟩
      refine step_append27 (w0 := w) w.heap.size rfl (.tmp 3) (.tmp 7) rfl (.slice (some ⟨gE, 0, none⟩) 0 0) [] ah A1 ah.length c1 (fun k => D k ∨ w.heap.size ≤ k) D rfl rfl (Kd.N_lower (Kd.N_mono HE.out (fun k hk => .inr (by rw [hk]; exact HLEE.out))) HLEE.out) (Kd.F_below HC0.out.f1 HX.out)
        (fun k hk => ⟨.inl hk, fun e => by
          have h1 := HD.out k hk
          have h2 := HLEE.out
          have e' : k = gE := by simpa [Value.ownBlock] using e
          omega⟩) (fun k hk => .inr (Nat.le_trans HX.out.size hk)) HX.out HX.out.size (by simp; omega) ?_
      intro v1 wA hN hX hg hat
      refine ⟨⟨⟨wA, hX⟩, rfl⟩, ?_⟩
      simp only [Act.put, List.getElem_toArray, List.getElem_cons_succ, List.getElem_cons_zero, List.setIfInBounds_toArray, List.set_cons_zero, List.set_cons_succ]
      obtain ⟨A9, c9, rfl⟩ := Kd.N_slice hN
      have HC9 : Hid (ah.length ≤ c9) := by
        obtain ⟨A7, c7, e7, h7, _⟩ := Kd.N_reads hN
        injection e7 with _ _ e3
        rw [← e3] at h7
        exact h7
      have HV : Hid (Kd.F k27 wA (fun k => (D k ∨ w.heap.size ≤ k) ∧ k < wA.heap.size) A9 ah.length ah) := Kd.F_bound (Kd.N_F hN)
      replace HX : Hid (Below w.heap.size w wA) := hX
      clear hN hX hg hat HE HLEE HLTE 
      refine runX_step (crem := [10, 15]) (rs := [10]) (by kernel_rfl) ⟨?_, trivial⟩
      refine ⟨_, rfl, rfl, .inr (.inl ⟨.slice (some ⟨wA.heap.size, 0, none⟩) 0 0, (wA.alloc (.cells #[] 27)), by go_simp, ⟨⟨_, below_alloc HX.out _⟩, rfl⟩, ?_⟩)⟩
      simp only [Act.put, List.getElem_toArray, List.getElem_cons_succ, List.getElem_cons_zero, List.setIfInBounds_toArray, List.set_cons_zero, List.set_cons_succ]
      have HG : Hid (Kd.N k27 27 (wA.alloc (.cells #[] 27)) wA.heap.size (fun k => k = wA.heap.size) (.slice (some ⟨wA.heap.size, 0, none⟩) 0 0) []) := empty_own wA
      have HLEF : Hid (w.heap.size ≤ wA.heap.size) := HX.out.size
      replace HV : Hid (Kd.F k27 (wA.alloc (.cells #[] 27)) (fun k => (D k ∨ w.heap.size ≤ k) ∧ k ≠ wA.heap.size) A9 ah.length ah) := Kd.F_alloc (Kd.F_mono HV.out (fun k hk => ⟨hk.1, by omega⟩)) _
      replace HX := hidm (below_alloc HX.out (.cells #[] 27))
      generalize (wA.alloc (.cells #[] 27)) = wF at HX HG HV ⊢
      generalize wA.heap.size = gF at HG HLEF HV ⊢
      refine runX_step (crem := [15]) (rs := [15]) (by kernel_rfl) ⟨?_, trivial⟩
      refine ⟨_, rfl, rfl, .inr (.inr ?_)⟩
      refine step_append27 (w0 := w) w.heap.size rfl (.tmp 13) (.tmp 17) rfl (.slice (some ⟨gF, 0, none⟩) 0 0) [] be A3 be.length c3 (fun k => D k ∨ w.heap.size ≤ k) D rfl rfl (Kd.N_lower (Kd.N_mono HG.out (fun k hk => .inr (by rw [hk]; exact HLEF.out))) HLEF.out) (Kd.F_below HC0.out.f3 HX.out)
        (fun k hk => ⟨.inl hk, fun e => by
          have h1 := HD.out k hk
          have h2 := HLEF.out
          have e' : k = gF := by simpa [Value.ownBlock] using e
          omega⟩) (fun k hk => .inr (Nat.le_trans HX.out.size hk)) HX.out HX.out.size (by simp; omega) ?_
      intro v1 w9 hN hX hg hat
      refine ⟨⟨⟨w9, hX⟩, rfl⟩, ?_⟩
      simp only [Act.put, List.getElem_toArray, List.getElem_cons_succ, List.getElem_cons_zero, List.setIfInBounds_toArray, List.set_cons_zero, List.set_cons_succ]
      obtain ⟨A8, c8, rfl⟩ := Kd.N_slice hN
      have hVF : Kd.F k27 w9 (fun k => D k ∨ w.heap.size ≤ k) A9 ah.length ah := Kd.F_mono (Kd.F_grown HV.out hg (fun k hk e => hk.2 (by simpa [Value.ownBlock] using e))) (fun k hk => hk.1)
      have hc8 : be.length ≤ c8 := by
        obtain ⟨A7, c7, e7, h7, _⟩ := Kd.N_reads hN
        injection e7 with _ _ e3
        rw [← e3] at h7
        exact h7
      have HO := hidm (refCopy_done HD.out hX HC0.out hVF HC9.out (Kd.N_F hN) hc8)
      clear HV HG HLEF HX hX hg hat hN hVF
      show wpList _ _ _ _ _ _
      go_wp2_with fail
      refine NoPanic.normal ?_
      go_wp2_with fail
      go_ret
      exact HO.out
    · refine ⟨_, rfl, rfl, .inr (.inl ⟨.slice (some ⟨wE.heap.size, 0, none⟩) 0 0, (wE.alloc (.cells #[] 27)), by go_simp, ⟨⟨_, below_alloc HX.out _⟩, rfl⟩, ?_⟩)⟩
      simp only [Act.put, List.getElem_toArray, List.getElem_cons_succ, List.getElem_cons_zero, List.setIfInBounds_toArray, List.set_cons_zero, List.set_cons_succ]
      have HG : Hid (Kd.N k27 27 (wE.alloc (.cells #[] 27)) wE.heap.size (fun k => k = wE.heap.size) (.slice (some ⟨wE.heap.size, 0, none⟩) 0 0) []) := empty_own wE
      have HLEF : Hid (w.heap.size ≤ wE.heap.size) := HX.out.size
      have HLTF : Hid (wE.heap.size < (wE.alloc (.cells #[] 27)).heap.size) := blk_lt (blk_new _ _)
      have HNE : Hid (gE ≠ wE.heap.size) := by have := HLTE.out; show gE ≠ wE.heap.size; omega
      replace HE := hidm (Kd.N_alloc HE.out (.cells #[] 27))
      replace HLTE : Hid (gE < (wE.alloc (.cells #[] 27)).heap.size) := Nat.lt_of_lt_of_le HLTE.out (below_alloc (Below.refl _ _) _).size
      replace HX := hidm (below_alloc HX.out (.cells #[] 27))
      generalize (wE.alloc (.cells #[] 27)) = wF at HX HG HLTF HE HLTE ⊢
      generalize wE.heap.size = gF at HG HLEF HLTF HNE ⊢
      have HEF : Hid (gE ≠ gF) := HNE.out
      clear HNE
      refine runX_step (crem := [5, 15]) (rs := [5]) (by kernel_rfl) ⟨?_, trivial⟩
      refine ⟨_, rfl, rfl, .inr (.inr ?_)⟩
      refine step_append27 (w0 := w) w.heap.size rfl (.tmp 3) (.tmp 7) rfl (.slice (some ⟨gE, 0, none⟩) 0 0) [] ah A1 ah.length c1 (fun k => (D k ∨ w.heap.size ≤ k) ∧ k ≠ gF) D rfl rfl (Kd.N_lower (Kd.N_mono HE.out (fun k hk => ⟨.inr (by rw [hk]; exact HLEE.out), by rw [hk]; exact HEF.out⟩)) HLEE.out) (Kd.F_below HC0.out.f1 HX.out)
        (fun k hk => ⟨⟨.inl hk, by have h1 := HD.out k hk; have h2 := HLEF.out; omega⟩, fun e => by
          have h1 := HD.out k hk
          have h2 := HLEE.out
          have e' : k = gE := by simpa [Value.ownBlock] using e
          omega⟩) (fun k hk => ⟨.inr (Nat.le_trans HX.out.size hk), by have := HLTF.out; omega⟩) HX.out HX.out.size (by simp; omega) ?_
      intro v1 wA hN hX hg hat
      refine ⟨⟨⟨wA, hX⟩, rfl⟩, ?_⟩
      simp only [Act.put, List.getElem_toArray, List.getElem_cons_succ, List.getElem_cons_zero, List.setIfInBounds_toArray, List.set_cons_zero, List.set_cons_succ]
      obtain ⟨A9, c9, rfl⟩ := Kd.N_slice hN
      have HC9 : Hid (ah.length ≤ c9) := by
        obtain ⟨A7, c7, e7, h7, _⟩ := Kd.N_reads hN
        injection e7 with _ _ e3
        rw [← e3] at h7
        exact h7
      have HV : Hid (Kd.F k27 wA (fun k => (D k ∨ w.heap.size ≤ k) ∧ k ≠ gF) A9 ah.length ah) := Kd.N_F hN
      replace HG := hidm (Kd.N_grown HG.out hg (fun k hk e => by
        have e' : k = gE := by simpa [Value.ownBlock] using e
        exact HEF.out (e'.symm.trans hk)))
      replace HX : Hid (Below w.heap.size w wA) := hX
      clear hN hX hg hat HE HLEE HLTE HEF HLTF
      refine runX_step (crem := [15]) (rs := [15]) (by kernel_rfl) ⟨?_, trivial⟩
      refine ⟨_, rfl, rfl, .inr (.inr ?_)⟩
      refine step_append27 (w0 := w) w.heap.size rfl (.tmp 13) (.tmp 17) rfl (.slice (some ⟨gF, 0, none⟩) 0 0) [] be A3 be.length c3 (fun k => D k ∨ w.heap.size ≤ k) D rfl rfl (Kd.N_lower (Kd.N_mono HG.out (fun k hk => .inr (by rw [hk]; exact HLEF.out))) HLEF.out) (Kd.F_below HC0.out.f3 HX.out)
        (fun k hk => ⟨.inl hk, fun e => by
          have h1 := HD.out k hk
          have h2 := HLEF.out
          have e' : k = gF := by simpa [Value.ownBlock] using e
          omega⟩) (fun k hk => .inr (Nat.le_trans HX.out.size hk)) HX.out HX.out.size (by simp; omega) ?_
      intro v1 w9 hN hX hg hat
      refine ⟨⟨⟨w9, hX⟩, rfl⟩, ?_⟩
      simp only [Act.put, List.getElem_toArray, List.getElem_cons_succ, List.getElem_cons_zero, List.setIfInBounds_toArray, List.set_cons_zero, List.set_cons_succ]
      obtain ⟨A8, c8, rfl⟩ := Kd.N_slice hN
      have hVF : Kd.F k27 w9 (fun k => D k ∨ w.heap.size ≤ k) A9 ah.length ah := Kd.F_mono (Kd.F_grown HV.out hg (fun k hk e => hk.2 (by simpa [Value.ownBlock] using e))) (fun k hk => hk.1)
      have hc8 : be.length ≤ c8 := by
        obtain ⟨A7, c7, e7, h7, _⟩ := Kd.N_reads hN
        injection e7 with _ _ e3
        rw [← e3] at h7
        exact h7
      have HO := hidm (refCopy_done HD.out hX HC0.out hVF HC9.out (Kd.N_F hN) hc8)
      clear HV HG HLEF HX hX hg hat hN hVF
      show wpList _ _ _ _ _ _
      go_wp2_with fail
      refine NoPanic.normal ?_
      go_wp2_with fail
      go_ret
      exact HO.out
  · refine ⟨_, rfl, rfl, .inr (.inl ⟨.slice (some ⟨w1.heap.size, 0, none⟩) 0 0, (w1.alloc (.cells #[] 27)), by go_simp, ⟨⟨_, below_alloc HX.out _⟩, rfl⟩, ?_⟩)⟩
    simp only [Act.put, List.getElem_toArray, List.getElem_cons_succ, List.getElem_cons_zero, List.setIfInBounds_toArray, List.set_cons_zero, List.set_cons_succ]
    have HG : Hid (Kd.N k27 27 (w1.alloc (.cells #[] 27)) w1.heap.size (fun k => k = w1.heap.size) (.slice (some ⟨w1.heap.size, 0, none⟩) 0 0) []) := empty_own w1
    have HLEF : Hid (w.heap.size ≤ w1.heap.size) := HX.out.size
    have HLTF : Hid (w1.heap.size < (w1.alloc (.cells #[] 27)).heap.size) := blk_lt (blk_new _ _)
    replace HX := hidm (below_alloc HX.out (.cells #[] 27))
    generalize (w1.alloc (.cells #[] 27)) = wF at HX HG HLTF ⊢
    generalize w1.heap.size = gF at HG HLEF HLTF ⊢
    refine runX_step (crem := [0, 5, 15]) (rs := [0]) (by kernel_rfl) ⟨?_, trivial⟩
    refine ⟨_, rfl, rfl, .inr (.inl ⟨.slice (some ⟨wF.heap.size, 0, none⟩) 0 0, (wF.alloc (.cells #[] 27)), by go_simp, ⟨⟨_, below_alloc HX.out _⟩, rfl⟩, ?_⟩)⟩
    simp only [Act.put, List.getElem_toArray, List.getElem_cons_zero, List.setIfInBounds_toArray, List.set_cons_zero, List.set_cons_succ]
    have HE : Hid (Kd.N k27 27 (wF.alloc (.cells #[] 27)) wF.heap.size (fun k => k = wF.heap.size) (.slice (some ⟨wF.heap.size, 0, none⟩) 0 0) []) := empty_own wF
    have HLEE : Hid (w.heap.size ≤ wF.heap.size) := HX.out.size
    have HLTE : Hid (wF.heap.size < (wF.alloc (.cells #[] 27)).heap.size) := blk_lt (blk_new _ _)
    have HNE : Hid (gF ≠ wF.heap.size) := by have := HLTF.out; show gF ≠ wF.heap.size; omega
    replace HG := hidm (Kd.N_alloc HG.out (.cells #[] 27))
    replace HLTF : Hid (gF < (wF.alloc (.cells #[] 27)).heap.size) := Nat.lt_of_lt_of_le HLTF.out (below_alloc (Below.refl _ _) _).size
    replace HX := hidm (below_alloc HX.out (.cells #[] 27))
    generalize (wF.alloc (.cells #[] 27)) = wE at HX HE HLTE HG HLTF ⊢
    generalize wF.heap.size = gE at HE HLEE HLTE HNE ⊢
    have HEF : Hid (gE ≠ gF) := fun e => HNE.out e.symm
    clear HNE
    refine runX_step (crem := [5, 15]) (rs := [5]) (by kernel_rfl) ⟨?_, trivial⟩
    refine ⟨_, rfl, rfl, .inr (.inr ?_)⟩
    refine step_append27 (w0 := w) w.heap.size rfl (.tmp 3) (.tmp 7) rfl (.slice (some ⟨gE, 0, none⟩) 0 0) [] ah A1 ah.length c1 (fun k => (D k ∨ w.heap.size ≤ k) ∧ k ≠ gF) D rfl rfl (Kd.N_lower (Kd.N_mono HE.out (fun k hk => ⟨.inr (by rw [hk]; exact HLEE.out), by rw [hk]; exact HEF.out⟩)) HLEE.out) (Kd.F_below HC0.out.f1 HX.out)
      (fun k hk => ⟨⟨.inl hk, by have h1 := HD.out k hk; have h2 := HLEF.out; omega⟩, fun e => by
        have h1 := HD.out k hk
        have h2 := HLEE.out
        have e' : k = gE := by simpa [Value.ownBlock] using e
        omega⟩) (fun k hk => ⟨.inr (Nat.le_trans HX.out.size hk), by have := HLTF.out; omega⟩) HX.out HX.out.size (by simp; omega) ?_
    intro v1 wA hN hX hg hat
    refine ⟨⟨⟨wA, hX⟩, rfl⟩, ?_⟩
    simp only [Act.put, List.getElem_toArray, List.getElem_cons_succ, List.getElem_cons_zero, List.setIfInBounds_toArray, List.set_cons_zero, List.set_cons_succ]
    obtain ⟨A9, c9, rfl⟩ := Kd.N_slice hN
    have HC9 : Hid (ah.length ≤ c9) := by
      obtain ⟨A7, c7, e7, h7, _⟩ := Kd.N_reads hN
      injection e7 with _ _ e3
      rw [← e3] at h7
      exact h7
    have HV : Hid (Kd.F k27 wA (fun k => (D k ∨ w.heap.size ≤ k) ∧ k ≠ gF) A9 ah.length ah) := Kd.N_F hN
    replace HG := hidm (Kd.N_grown HG.out hg (fun k hk e => by
      have e' : k = gE := by simpa [Value.ownBlock] using e
      exact HEF.out (e'.symm.trans hk)))
    replace HX : Hid (Below w.heap.size w wA) := hX
    clear hN hX hg hat HE HLEE HLTE HEF HLTF
    refine runX_step (crem := [15]) (rs := [15]) (by kernel_rfl) ⟨?_, trivial⟩
    refine ⟨_, rfl, rfl, .inr (.inr ?_)⟩
    refine step_append27 (w0 := w) w.heap.size rfl (.tmp 13) (.tmp 17) rfl (.slice (some ⟨gF, 0, none⟩) 0 0) [] be A3 be.length c3 (fun k => D k ∨ w.heap.size ≤ k) D rfl rfl (Kd.N_lower (Kd.N_mono HG.out (fun k hk => .inr (by rw [hk]; exact HLEF.out))) HLEF.out) (Kd.F_below HC0.out.f3 HX.out)
      (fun k hk => ⟨.inl hk, fun e => by
        have h1 := HD.out k hk
        have h2 := HLEF.out
        have e' : k = gF := by simpa [Value.ownBlock] using e
        omega⟩) (fun k hk => .inr (Nat.le_trans HX.out.size hk)) HX.out HX.out.size (by simp; omega) ?_
    intro v1 w9 hN hX hg hat
    refine ⟨⟨⟨w9, hX⟩, rfl⟩, ?_⟩
    simp only [Act.put, List.getElem_toArray, List.getElem_cons_succ, List.getElem_cons_zero, List.setIfInBounds_toArray, List.set_cons_zero, List.set_cons_succ]
    obtain ⟨A8, c8, rfl⟩ := Kd.N_slice hN
    have hVF : Kd.F k27 w9 (fun k => D k ∨ w.heap.size ≤ k) A9 ah.length ah := Kd.F_mono (Kd.F_grown HV.out hg (fun k hk e => hk.2 (by simpa [Value.ownBlock] using e))) (fun k hk => hk.1)
    have hc8 : be.length ≤ c8 := by
      obtain ⟨A7, c7, e7, h7, _⟩ := Kd.N_reads hN
      injection e7 with _ _ e3
      rw [← e3] at h7
      exact h7
    have HO := hidm (refCopy_done HD.out hX HC0.out hVF HC9.out (Kd.N_F hN) hc8)
    clear HV HG HLEF HX hX hg hat hN hVF
    show wpList _ _ _ _ _ _
    go_wp2_with fail
    refine NoPanic.normal ?_
    go_wp2_with fail
    go_ret
    exact HO.out
end Go.Proofs.Ytlopfkkegjajlaa
namespace Go.Proofs.Ytlopfkkegjajlaa
open Go.RowKit Go.Proofs.YtlopfkkegjajlaaW.PrintWords PHistoryTouched
def PastR (W : World) (D : Nat → Prop) (pb : Nat) (ms : List S27) (now : Nat) : Prop :=
  ∃ ad c, W.heap[pb]? = some (pastO (some ad) ms.length c now) ∧ ms.length ≤ c ∧ Kd.F k27 W D (some ad) ms.length ms
theorem PastR.lt {W : World} {D : Nat → Prop} {pb : Nat} {ms : List S27} {now : Nat} (h : PastR W D pb ms now) : pb < W.heap.size := by
  obtain ⟨ad, c, hb, _⟩ := h
  exact blk_lt hb
theorem RefR.lt {W : World} {D : Nat → Prop} {qb : Nat} {ah be : List S27} {h : S27} (hr : RefR W D qb ah h be) : qb < W.heap.size := by
  obtain ⟨A1, c1, A2, c2, A3, c3, h0, _⟩ := hr.ex
  exact blk_lt h0
theorem PastR.step {W W' : World} {D : Nat → Prop} {pb : Nat} {ms : List S27} {now : Nat} (h : PastR W D pb ms now) (hp : W'.heap[pb]? = W.heap[pb]?) (hD : ∀ k, D k → k < W.heap.size → W'.heap[k]? = W.heap[k]?) : PastR W' D pb ms now := by
  obtain ⟨ad, c, hb, hc, hF⟩ := h
  exact ⟨ad, c, hp.trans hb, hc, Kd.F_step hF hD⟩
theorem PastR.mono {W : World} {D D' : Nat → Prop} {pb : Nat} {ms : List S27} {now : Nat} (h : PastR W D pb ms now) (hD : ∀ k, k < W.heap.size → D k → D' k) : PastR W D' pb ms now := by
  obtain ⟨ad, c, hb, hc, hF⟩ := h
  exact ⟨ad, c, hb, hc, Kd.F_mono (Kd.F_bound hF) (fun k hk => hD k hk.2 hk.1)⟩
theorem PastR.below {W W' : World} {D : Nat → Prop} {pb : Nat} {ms : List S27} {now : Nat} (h : PastR W D pb ms now) (hb : Below W.heap.size W W') : PastR W' D pb ms now :=
  h.step (hb.block pb h.lt) (fun k _ hk => hb.block k hk)
theorem rd_mid (ah be : List S27) (h : S27) : rd_T27 (ah ++ h :: be) ah.length = h := by
  simp [rd_T27]
theorem pushed_eq (ah be : List S27) (h m : S27) : pushed (ah ++ h :: be) ah.length m = ahead ah h ++ m :: [] := by
  have e1 : (ah ++ h :: be).take (ah.length + 1) = ah ++ [h] := by
    rw [List.take_append, List.take_of_length_le (Nat.le_succ _)]
    simp
  unfold pushed ahead
  rw [e1]
  by_cases hb : 64 < (ah ++ [h]).length
  · rw [if_pos (by simp at hb ⊢; omega), if_pos hb, List.drop_append]
    simp
  · rw [if_neg (by simp at hb ⊢; omega), if_neg hb]
theorem ahead_len (ah : List S27) (h : S27) (hl : ah.length ≤ 64) : (ahead ah h).length ≤ 64 := by
  unfold ahead
  split
  · simp; omega
  · omega
theorem ahead_mem {ah : List S27} {h m : S27} (hm : m ∈ ahead ah h) : m ∈ ah ++ [h] := by
  unfold ahead at hm
  split at hm
  · exact List.mem_of_mem_drop hm
  · exact hm
def PastPost (pb : Nat) (D : Nat → Prop) (er : Int) (ms' : List S27) (now' : Nat) (w : World) (e : Ending) (w' : World) : Prop :=
  e = .returned (.int .i64 er) ∧ PastR w' (fun k => D k ∨ (w.heap.size ≤ k ∧ k < w'.heap.size)) pb ms' now' ∧ Wr (· = pb) w w'
theorem push_both (D : Nat → Prop) (pb qb : Nat) (ah : List S27) (h : S27) (be : List S27) (nx : Int) (l : List S76) (hlen : (ah ++ h :: be).length ≤ 65) (hwf : WfL l) (hs : SmallL l) (hsm : ∀ m ∈ ah ++ h :: be, SmallL m.f1) (hnP : ¬ D pb) (hnQ : ¬ D qb) :
    ∃ er ah' h' be', (ah' ++ h' :: be').length ≤ 65 ∧ (∀ m ∈ ah' ++ h' :: be', SmallL m.f1) ∧
    (∀ W A c, PastR W D pb (ah ++ h :: be) ah.length → Kd.C k76 W A l.length l → Calls Try.prog 15 #[.pointer (some ⟨pb, 0, none⟩), .agg #[.int .i64 nx, .slice A l.length c]] W (PastPost pb D er (ah' ++ h' :: be') ah'.length W)) ∧
    (∀ W A c DL, RefR W D qb ah h be → (∀ k, D k → k < W.heap.size) → Kd.F k76 W DL A l.length l → ¬ DL qb → l.length ≤ c → Calls Try.prog 16 #[.pointer (some ⟨qb, 0, none⟩), .agg #[.int .i64 nx, .slice A l.length c]] W (RefPost qb D er ah' h' be' W)) := by
  have hah : ah.length ≤ 64 := by simp at hlen; omega
  have hnow : ah.length < (ah ++ h :: be).length := by simp
  by_cases hk : CheckP nx l
  · by_cases hsame : nx = h.f0 ∧ l = h.f1
    · refine ⟨0, ah, h, be, hlen, hsm, fun W A c hP hC => ?_, fun W A c DL hR hD hF hDL hc => ?_⟩
      · obtain ⟨ad, cp, hb, hcp, hFp⟩ := hP
        refine (push_yes nx pb D ad (ah ++ h :: be) cp ah.length A l c W hb hnow hlen hcp hFp hnP hC hwf hs hk).mono ?_
        rintro e w' (⟨_, rfl, hb'⟩ | ⟨hne, _⟩)
        · exact ⟨rfl, (PastR.below ⟨ad, cp, hb, hcp, hFp⟩ hb').mono (fun k _ hk => .inl hk), Wr.of_below hb'⟩
        · exact absurd (by rw [rd_mid]; obtain ⟨h1, h2⟩ := hsame; rw [h1, h2]) hne
      · refine (refPush_same qb D ah h be nx A l c W hR (Kd.F_now hF) hc hk hsame).mono ?_
        rintro e w' ⟨rfl, hb'⟩
        exact ⟨rfl, (hR.below hb').mono (fun k _ hk => .inl hk), Wr.of_below hb'⟩
    · refine ⟨0, ahead ah h, ⟨nx, l⟩, [], by have := ahead_len ah h hah; simp; omega, fun m hm => ?_, fun W A c hP hC => ?_, fun W A c DL hR hD hF hDL hc => ?_⟩
      · rcases List.mem_append.1 hm with hm | hm
        · have := ahead_mem hm
          refine hsm m ?_
          rcases List.mem_append.1 this with h1 | h1
          · exact List.mem_append_left _ h1
          · rw [List.mem_singleton.1 h1]; simp
        · rw [List.mem_singleton.1 hm]; exact hs
      · obtain ⟨ad, cp, hb, hcp, hFp⟩ := hP
        refine (push_yes nx pb D ad (ah ++ h :: be) cp ah.length A l c W hb hnow hlen hcp hFp hnP hC hwf hs hk).mono ?_
        rintro e w' (⟨he, _⟩ | ⟨_, A', c', rfl, hc', hb', hF', hw'⟩)
        · rw [rd_mid] at he
          exact absurd ⟨congrArg S27.f0 he, congrArg S27.f1 he⟩ hsame
        · rw [pushed_eq] at hc' hb' hF'
          have hl : (ahead ah h ++ (⟨nx, l⟩ : S27) :: []).length - 1 = (ahead ah h).length := by simp
          rw [hl] at hb'
          obtain ⟨ad', cs, hA, _⟩ := Kd.F_get hF' z27 0 (by omega) (by simp)
          subst hA
          exact ⟨rfl, ⟨ad', c', hb', hc', hF'⟩, hw'⟩
      · exact refPush_new qb D ah h be nx A l c W hR hD hnQ (by omega) DL hF hDL hc hk hs hsame
  · refine ⟨29, ah, h, be, hlen, hsm, fun W A c hP hC => ?_, fun W A c DL hR hD hF hDL hc => ?_⟩
    · obtain ⟨ad, cp, hb, hcp, hFp⟩ := hP
      refine (push_no nx pb (some ad) (ah ++ h :: be).length cp ah.length A l c W hb hnow hC hwf hk).mono ?_
      rintro e w' ⟨rfl, hb'⟩
      exact ⟨rfl, (PastR.below ⟨ad, cp, hb, hcp, hFp⟩ hb').mono (fun k _ hk => .inl hk), Wr.of_below hb'⟩
    · refine (refPush_no qb nx A l c W (Kd.F_now hF) hc hk).mono ?_
      rintro e w' ⟨rfl, hb'⟩
      exact ⟨rfl, (hR.below hb').mono (fun k _ hk => .inl hk), Wr.of_below hb'⟩
def MovePost (pb : Nat) (D : Nat → Prop) (m : S27) (er : Int) (ms : List S27) (now' : Nat) (w : World) (e : Ending) (w' : World) : Prop :=
  ∃ v, e = .returned (.tuple #[.agg #[.int .i64 m.f0, v], .int .i64 er]) ∧ k76.R 76 w' w.heap.size (fun _ => True) v m.f1 ∧ PastR w' D pb ms now' ∧ Wr (· = pb) w w'
theorem move_of_step {pb : Nat} {D : Nat → Prop} {m : S27} {er : Int} {ms : List S27} {now' c : Nat} {ad : Addr} {w : World} {e : Ending} {w' : World} (hc : ms.length ≤ c) (hF : Kd.F k27 w D (some ad) ms.length ms) (hD : ¬ D pb) (h : StepPost pb (some ad) ms.length c now' m er w e w') : MovePost pb D m er ms now' w e w' := by
  obtain ⟨v, he, hv, hw, hb⟩ := h
  exact ⟨v, he, hv, ⟨ad, c, hb, hc, Kd.F_step hF (fun k hk hlt => hw.block k hlt (fun e => hD (by rw [← e]; exact hk)))⟩, hw⟩
theorem undo_both (D : Nat → Prop) (pb qb : Nat) (ah : List S27) (h : S27) (be : List S27) (hlen : (ah ++ h :: be).length ≤ 65) (hsm : ∀ m ∈ ah ++ h :: be, SmallL m.f1) (hnP : ¬ D pb) (hnQ : ¬ D qb) :
    ∃ er m ah' h' be', (er = 0 ∧ m = h' ∨ er = 270 ∧ m = ⟨0, []⟩) ∧ ah' ++ h' :: be' = ah ++ h :: be ∧ SmallL m.f1 ∧
    (∀ W, PastR W D pb (ah ++ h :: be) ah.length → Calls Try.prog 17 #[.pointer (some ⟨pb, 0, none⟩)] W (MovePost pb D m er (ah' ++ h' :: be') ah'.length W)) ∧
    (∀ W, RefR W D qb ah h be → (∀ k, D k → k < W.heap.size) → Calls Try.prog 18 #[.pointer (some ⟨qb, 0, none⟩)] W (RefPost qb D er ah' h' be' W)) := by
  have hlen' : ah.length + (be.length + 1) ≤ 65 := by simpa using hlen
  rcases List.eq_nil_or_concat ah with rfl | ⟨ah', x, rfl⟩
  · refine ⟨270, ⟨0, []⟩, [], h, be, .inr ⟨rfl, rfl⟩, rfl, ⟨by simp, fun j hj => by simp at hj, fun j hj => by simp at hj, fun j hj => by simp at hj⟩, fun W hP => ?_, fun W hR hD => ?_⟩
    · have hlt := hP.lt
      obtain ⟨ad, cp, hb, hcp, hFp⟩ := hP
      refine (undo_any (m := ⟨0, []⟩) (er := 270) hlt (fun W' hW' => to_no (-1) pb (some ad) ([] ++ h :: be).length cp 0 W' (blk_below hb hW') (by simp) (by omega) (by omega) (.inl (by omega)))).mono ?_
      exact fun e w' hp => move_of_step hcp hFp hnP hp
    · exact refUndo_no qb D h be W hR
  · rw [List.concat_eq_append] at hlen hlen' hsm ⊢
    have e1 : ah' ++ x :: h :: be = ah' ++ [x] ++ h :: be := by simp
    have hx : SmallL x.f1 := hsm x (by simp)
    refine ⟨0, x, ah', x, h :: be, .inl ⟨rfl, rfl⟩, e1, hx, fun W hP => ?_, fun W hR hD => ?_⟩
    · have hlt := hP.lt
      rw [e1]
      obtain ⟨ad, cp, hb, hcp, hFp⟩ := hP
      have hrd : rd_T27 (ah' ++ [x] ++ h :: be) ah'.length = x := by rw [← e1]; exact rd_mid _ _ _
      refine (undo_any (m := x) (er := 0) (nw := ah'.length) hlt (fun W' hW' => ?_)).mono (fun e w' hp => move_of_step hcp hFp hnP hp)
      have := to_yes (-1) pb D (some ad) (ah' ++ [x] ++ h :: be) cp (ah' ++ [x]).length ah'.length W' (blk_below hb hW') (Kd.F_below hFp hW') hnP (by omega) (by rw [hrd]; exact hx) (by simp; omega) (by simp)
      rw [hrd] at this
      exact this
    · exact refUndo_yes qb D ah' h x be W hR hD hnQ (by simp at hlen'; omega) (by omega)
theorem redo_both (D : Nat → Prop) (pb qb : Nat) (ah : List S27) (h : S27) (be : List S27) (hlen : (ah ++ h :: be).length ≤ 65) (hsm : ∀ m ∈ ah ++ h :: be, SmallL m.f1) (hnP : ¬ D pb) (hnQ : ¬ D qb) :
    ∃ er m ah' h' be', (er = 0 ∧ m = h' ∨ er = 270 ∧ m = ⟨0, []⟩) ∧ ah' ++ h' :: be' = ah ++ h :: be ∧ SmallL m.f1 ∧
    (∀ W, PastR W D pb (ah ++ h :: be) ah.length → Calls Try.prog 20 #[.pointer (some ⟨pb, 0, none⟩)] W (MovePost pb D m er (ah' ++ h' :: be') ah'.length W)) ∧
    (∀ W, RefR W D qb ah h be → (∀ k, D k → k < W.heap.size) → Calls Try.prog 21 #[.pointer (some ⟨qb, 0, none⟩)] W (RefPost qb D er ah' h' be' W)) := by
  have hlen' : ah.length + (be.length + 1) ≤ 65 := by simpa using hlen
  cases be with
  | nil =>
    refine ⟨270, ⟨0, []⟩, ah, h, [], .inr ⟨rfl, rfl⟩, rfl, ⟨by simp, fun j hj => by simp at hj, fun j hj => by simp at hj, fun j hj => by simp at hj⟩, fun W hP => ?_, fun W hR hD => ?_⟩
    · have hlt := hP.lt
      obtain ⟨ad, cp, hb, hcp, hFp⟩ := hP
      refine (redo_any (m := ⟨0, []⟩) (er := 270) hlt (fun W' hW' => to_no 1 pb (some ad) (ah ++ [h]).length cp ah.length W' (blk_below hb hW') (by simp) (by omega) (by omega) (.inr (by simp)))).mono ?_
      exact fun e w' hp => move_of_step hcp hFp hnP hp
    · exact refRedo_no qb D ah h W hR
  | cons x be =>
    have e1 : (ah ++ [h]) ++ x :: be = ah ++ h :: x :: be := by simp
    have hx : SmallL x.f1 := hsm x (by simp)
    refine ⟨0, x, ah ++ [h], x, be, .inl ⟨rfl, rfl⟩, e1, hx, fun W hP => ?_, fun W hR hD => ?_⟩
    · have hlt := hP.lt
      rw [e1]
      obtain ⟨ad, cp, hb, hcp, hFp⟩ := hP
      have hrd : rd_T27 (ah ++ h :: x :: be) (ah ++ [h]).length = x := by rw [← e1]; exact rd_mid _ _ _
      refine (redo_any (m := x) (er := 0) (nw := (ah ++ [h]).length) hlt (fun W' hW' => ?_)).mono (fun e w' hp => move_of_step hcp hFp hnP hp)
      have := to_yes 1 pb D (some ad) (ah ++ h :: x :: be) cp ah.length (ah ++ [h]).length W' (blk_below hb hW') (Kd.F_below hFp hW') hnP (by omega) (by rw [hrd]; exact hx) (by simp) (by simp)
      rw [hrd] at this
      exact this
    · exact refRedo_yes qb D ah h x be W hR hD hnQ (by omega) (by simp at hlen'; omega)
theorem same_both (D D' : Nat → Prop) (pb qb : Nat) (ah : List S27) (h : S27) (be : List S27) (W : World) (hlen : (ah ++ h :: be).length ≤ 65) (hsm : ∀ m ∈ ah ++ h :: be, SmallL m.f1) (hP : PastR W D pb (ah ++ h :: be) ah.length) (hR : RefR W D' qb ah h be) :
    Calls Try.prog 24 #[.pointer (some ⟨pb, 0, none⟩), .pointer (some ⟨qb, 0, none⟩)] W fun e w' => e = .returned (.bool true) ∧ Below W.heap.size W w' := by
  obtain ⟨ad, cp, hb, hcp, hFp⟩ := hP
  obtain ⟨A1, c1, A2, c2, A3, c3, hC⟩ := hR.open_
  have hlen' : ah.length + (be.length + 1) ≤ 65 := by simpa using hlen
  have := same27_any pb qb (some ad) (ah ++ h :: be) cp ah.length h A1 ah.length c1 A2 c2 A3 be.length c3 W hb (Kd.F_now hFp) (by simp) (by omega) (by rw [rd_mid]; exact hsm h (by simp)) hC.blk (Kd.F_now hC.f2) hC.l2
  rwa [tv_yes ⟨rd_mid _ _ _, rfl, by simp⟩] at this
end Go.Proofs.Ytlopfkkegjajlaa
namespace Go.Proofs.Ytlopfkkegjajlaa
open Go.RowKit Go.Proofs.YtlopfkkegjajlaaW.PrintWords PHistoryTouched
def kP : Kd Nat := Kd.scalar (fun b : Nat => Value.pointer (some ⟨b, 0, none⟩)) (fun _ => rfl)
theorem info29 : (Try.prog.info? 29).map (fun i => (i.zero, i.size, i.bytes)) = some (some (.pointer none), kP.sz, 8) := by kernel_rfl
theorem info33 : (Try.prog.info? 33).map (fun i => (i.zero, i.size, i.bytes)) = some (some (.pointer none), kP.sz, 8) := by kernel_rfl
theorem kP_FK (W : World) (ok : Nat → Prop) (b : Nat) : Kd.FK kP W ok b [.pointer (some ⟨b, 0, none⟩)] := fun _ _ => rfl
theorem kP_at {W : World} {A : Option Addr} {n : Nat} {xs : List Nat} (h : Kd.C kP W A n xs) (i : Nat) (hi : i < n) : ∃ ad, A = some ad ∧ W.cell? (ad.add i) = some (.pointer (some ⟨xs.getD i 0, 0, none⟩)) := by
  obtain ⟨ad, c, hA, _, hK, hc⟩ := Kd.C_get h 0 (i : Int) (by omega) (by omega)
  have hK' : c = [.pointer (some ⟨xs.getD i 0, 0, none⟩)] := hK
  have := hc 0 (.pointer (some ⟨xs.getD i 0, 0, none⟩)) (by rw [hK']; rfl)
  have e : (i : Int).toNat * kP.sz + 0 = i := by show i * 1 + 0 = i; omega
  rw [e] at this
  exact ⟨ad, hA, this⟩
def k40 : Kd (Int × Int) := Kd.pair (Kd.int .i64) (Kd.int .i64)
theorem at_T40 {W : World} {A : Option Addr} {n : Nat} {xs : List (Int × Int)} (h : Kd.C k40 W A n xs) (i : Nat) (hi : i < n) : ∃ ad, A = some ad ∧ W.cell? (ad.add (i * 2)) = some (.int .i64 (xs.getD i (0, 0)).1) ∧ W.cell? ⟨(ad.add (i * 2)).block, (ad.add (i * 2)).off + 1, none⟩ = some (.int .i64 (xs.getD i (0, 0)).2) := by
  obtain ⟨ad, c, hA, _, hK, hc⟩ := Kd.C_get h (0, 0) (i : Int) (by omega) (by omega)
  obtain ⟨c1, c2, hcs, h1, h2⟩ := hK
  have h1' : c1 = [.int .i64 (xs.getD i (0, 0)).1] := h1
  have h2' : c2 = [.int .i64 (xs.getD i (0, 0)).2] := h2
  subst h1' h2'
  have e : (i : Int).toNat * k40.sz = i * 2 := rfl
  have g0 := hc 0 (.int .i64 (xs.getD i (0, 0)).1) (by rw [hcs]; rfl)
  have g1 := hc 1 (.int .i64 (xs.getD i (0, 0)).2) (by rw [hcs]; rfl)
  rw [e] at g0 g1
  refine ⟨ad, hA, g0, ?_⟩
  rw [Addr_add_off]; exact g1
theorem ShpM.move {W W' : World} {S S' : Nat → Prop} {A : Option Addr} {n : Nat} (h : ShpM W S A n) (hS : ∀ k, S k → S' k) (hm : ∀ k, S k → W'.heap[k]? = W.heap[k]?) : ShpM W' S' A n := by
  have hr : ∀ e sz v, RowS W S e sz v → RowS W' S' e sz v := fun e sz v ⟨A, n, c, h1, h2, h3⟩ => ⟨A, n, c, h1, h2, fun h0 => by
    obtain ⟨b, cs, g1, g2, g3, g4⟩ := h3 h0
    exact ⟨b, cs, g1, hS b g2, (hm b g2).trans g3, g4⟩⟩
  refine ⟨h.1, fun h0 => ?_⟩
  obtain ⟨g, cur, hA, hs⟩ := h.2 h0
  exact ⟨g, cur, hA, hS g hs.s, (hm g hs.s).trans hs.blk, hs.size, fun j h1 h2 => hr _ _ _ (hs.r4 j h1 h2), fun j h1 h2 => hr _ _ _ (hs.r5 j h1 h2), fun j h1 h2 => hr _ _ _ (hs.r6 j h1 h2)⟩
theorem PastR.wr {W W' : World} {D S : Nat → Prop} {pb : Nat} {ms : List S27} {now : Nat} (h : PastR W D pb ms now) (hw : Wr S W W') (hp : ¬ S pb) (hD : ∀ k, D k → k < W.heap.size → ¬ S k) : PastR W' D pb ms now :=
  h.step (hw.block pb h.lt hp) (fun k hk hlt => hw.block k hlt (hD k hk hlt))
theorem RefR.wr {W W' : World} {D S : Nat → Prop} {qb : Nat} {ah be : List S27} {h : S27} (hr : RefR W D qb ah h be) (hw : Wr S W W') (hq : ¬ S qb) (hD : ∀ k, D k → k < W.heap.size → ¬ S k) : RefR W' D qb ah h be :=
  hr.step (hw.block qb hr.lt hq) (fun k hk hlt => hw.block k hlt (hD k hk hlt))
theorem below_trans' {w0 W W' : World} {T : Nat → Prop} (h : Below w0.heap.size w0 W) (hw : Wr T W W') (hT : ∀ k, T k → k < W.heap.size → w0.heap.size ≤ k) : Below w0.heap.size w0 W' :=
  ⟨hw.os.trans h.os, hw.tape.trans h.tape, hw.output.trans h.output, Nat.le_trans h.size hw.size, fun k hk => (hw.block k (Nat.lt_of_lt_of_le hk h.size) (fun ht => by have := hT k ht (Nat.lt_of_lt_of_le hk h.size); omega)).trans (h.block k hk)⟩
def OldOK (W : World) (D : Nat → Prop) (o : Nat × Nat) : Prop :=
  D o.1 ∧ D o.2 ∧ ∃ ah h be, (ah ++ h :: be).length ≤ 65 ∧ (∀ m ∈ ah ++ h :: be, SmallL m.f1) ∧ PastR W D o.1 (ah ++ h :: be) ah.length ∧ RefR W D o.2 ah h be
theorem OldOK.move {W W' : World} {D D' : Nat → Prop} {o : Nat × Nat} (h : OldOK W D o) (hm : ∀ k, D k → k < W.heap.size → W'.heap[k]? = W.heap[k]?) (hD : ∀ k, D k → D' k) : OldOK W' D' o := by
  obtain ⟨h1, h2, ah, hh, be, h3, h4, h5, h6⟩ := h
  exact ⟨hD _ h1, hD _ h2, ah, hh, be, h3, h4, (h5.step (hm _ h1 h5.lt) hm).mono (fun k _ hk => hD k hk), (h6.step (hm _ h2 h6.lt) hm).mono (fun k _ hk => hD k hk)⟩
structure AP (w0 W : World) (D : Nat → Prop) (pb qb : Nat) (ah : List S27) (h : S27) (be : List S27) : Prop where
  b : Below w0.heap.size w0 W
  lt : ∀ k, D k → k < W.heap.size
  nP : ¬ D pb
  nQ : ¬ D qb
  ne : pb ≠ qb
  gp : w0.heap.size ≤ pb
  gq : w0.heap.size ≤ qb
  len : (ah ++ h :: be).length ≤ 65
  sm : ∀ m ∈ ah ++ h :: be, SmallL m.f1
  past : PastR W D pb (ah ++ h :: be) ah.length
  ref : RefR W D qb ah h be
abbrev LP (w0 W : World) (D : Nat → Prop) (pb qb : Nat) (e : Nat) (v : Value) (xs : List Nat) : Prop := Kd.N kP e W w0.heap.size (fun k => ¬ D k ∧ k ≠ pb ∧ k ≠ qb) v xs
structure AI (w0 W : World) (D : Nat → Prop) (pb qb : Nat) (ah : List S27) (h : S27) (be : List S27) (os ws : Value) (ol : List (Nat × Nat)) : Prop where
  p : AP w0 W D pb qb ah h be
  os : LP w0 W D pb qb 29 os (ol.map Prod.fst)
  ws : LP w0 W D pb qb 33 ws (ol.map Prod.snd)
  olds : ∀ o ∈ ol, OldOK W D o
theorem AP.below {w0 W W' : World} {D : Nat → Prop} {pb qb : Nat} {ah : List S27} {h : S27} {be : List S27} (I : AP w0 W D pb qb ah h be) (hb : Below W.heap.size W W') : AP w0 W' D pb qb ah h be :=
  ⟨below_step I.b hb, fun k hk => Nat.lt_of_lt_of_le (I.lt k hk) hb.size, I.nP, I.nQ, I.ne, I.gp, I.gq, I.len, I.sm, I.past.below hb, I.ref.below hb⟩
theorem AI.below {w0 W W' : World} {D : Nat → Prop} {pb qb : Nat} {ah : List S27} {h : S27} {be : List S27} {os ws : Value} {ol : List (Nat × Nat)} (I : AI w0 W D pb qb ah h be os ws ol) (hb : Below W.heap.size W W') : AI w0 W' D pb qb ah h be os ws ol :=
  ⟨I.p.below hb, Kd.N_below I.os hb, Kd.N_below I.ws hb, fun o ho => (I.olds o ho).move (fun k _ hlt => hb.block k hlt) (fun _ h => h)⟩
theorem AI.acted {w0 W W' : World} {D D' T : Nat → Prop} {pb qb : Nat} {ah ah' : List S27} {h h' : S27} {be be' : List S27} {os ws : Value} {ol : List (Nat × Nat)} (I : AI w0 W D pb qb ah h be os ws ol)
    (hw : Wr T W W') (hT : ∀ k, T k → k < W.heap.size → k = pb ∨ k = qb) (hD : ∀ k, D k → D' k) (hD' : ∀ k, D' k → D k ∨ (W.heap.size ≤ k ∧ k < W'.heap.size)) (hP : PastR W' D' pb (ah' ++ h' :: be') ah'.length) (hR : RefR W' D' qb ah' h' be')
    (hlen : (ah' ++ h' :: be').length ≤ 65) (hsm : ∀ m ∈ ah' ++ h' :: be', SmallL m.f1) : AI w0 W' D' pb qb ah' h' be' os ws ol := by
  have hmv : ∀ k, D k → k < W.heap.size → W'.heap[k]? = W.heap[k]? := fun k hk hlt => hw.block k hlt (fun ht => by
    rcases hT k ht hlt with rfl | rfl
    · exact I.p.nP hk
    · exact I.p.nQ hk)
  have hlp : ∀ e v xs, LP w0 W D pb qb e v xs → LP w0 W' D' pb qb e v xs := fun e v xs h => by
    refine Kd.N_mono (Kd.N_step (Kd.N_bound h) (fun k hk hlt => hw.block k hlt (fun ht => ?_))) (fun k hk => ⟨fun hd => ?_, hk.1.2⟩)
    · rcases hT k ht hlt with rfl | rfl
      · exact hk.1.2.1 rfl
      · exact hk.1.2.2 rfl
    · rcases hD' k hd with h1 | h1
      · exact hk.1.1 h1
      · have := hk.2; omega
  have hpl := I.p.past.lt
  have hql := I.p.ref.lt
  refine ⟨⟨below_trans' I.p.b hw ?_, fun k hk => ?_, fun hk => ?_, fun hk => ?_, I.p.ne, I.p.gp, I.p.gq, hlen, hsm, hP, hR⟩, hlp _ _ _ I.os, hlp _ _ _ I.ws, fun o ho => (I.olds o ho).move hmv hD⟩
  · intro k hk hlt
    rcases hT k hk hlt with rfl | rfl
    · exact I.p.gp
    · exact I.p.gq
  · rcases hD' k hk with h1 | h1
    · exact Nat.lt_of_lt_of_le (I.p.lt k h1) hw.size
    · exact h1.2
  · rcases hD' _ hk with h1 | h1
    · exact I.p.nP h1
    · omega
  · rcases hD' _ hk with h1 | h1
    · exact I.p.nQ h1
    · omega
theorem AI.pushed {w0 W W2 W3 W4 W5 : World} {D : Nat → Prop} {pb qb : Nat} {ah ah' : List S27} {h h' : S27} {be be' : List S27} {os ws : Value} {ol : List (Nat × Nat)} (I : AI w0 W D pb qb ah h be os ws ol) (hb : Below W.heap.size W W2)
    (hp : PastR W3 (fun k => D k ∨ (W2.heap.size ≤ k ∧ k < W3.heap.size)) pb (ah' ++ h' :: be') ah'.length) (h3 : Wr (· = pb) W2 W3) (hr : RefR W4 (fun k => D k ∨ (W3.heap.size ≤ k ∧ k < W4.heap.size)) qb ah' h' be') (h4 : Wr (· = qb) W3 W4)
    (h5 : Wr (fun k => W.heap.size ≤ k ∧ k < W2.heap.size) W4 W5) (hlen : (ah' ++ h' :: be').length ≤ 65) (hsm : ∀ m ∈ ah' ++ h' :: be', SmallL m.f1) : ∃ D', AI w0 W5 D' pb qb ah' h' be' os ws ol := by
  have hpl := I.p.past.lt
  have hql := I.p.ref.lt
  have hne := I.p.ne
  have s2 := hb.size
  have s3 := h3.size
  have s4 := h4.size
  have s5 := h5.size
  refine ⟨fun k => D k ∨ (W2.heap.size ≤ k ∧ k < W4.heap.size), I.acted (T := fun k => (k = pb ∨ k = qb) ∨ (W.heap.size ≤ k ∧ k < W2.heap.size)) ((((Wr.of_below (S := fun k => (k = pb ∨ k = qb) ∨ (W.heap.size ≤ k ∧ k < W2.heap.size)) hb).trans h3 (fun k _ e => .inl (.inl e))).trans h4 (fun k _ e => .inl (.inr e))).trans h5 (fun k _ e => .inr e))
    (fun k hk hlt => hk.elim id (fun h => by omega)) (fun k hk => .inl hk) (fun k hk => hk.imp id (fun h => by omega)) ?_ ?_ hlen hsm⟩
  · refine ((hp.wr h4 (fun e => hne e) (fun k hk _ e => ?_)).wr h5 (fun e => by omega) (fun k hk _ e => ?_)).mono (fun k _ hk => hk.imp id (fun h => by omega))
    · rcases hk with hk | hk
      · exact I.p.nQ (by rw [← e]; exact hk)
      · omega
    · rcases hk with hk | hk
      · have := I.p.lt k hk; omega
      · omega
  · refine (hr.wr h5 (fun e => by omega) (fun k hk _ e => ?_)).mono (fun k _ hk => hk.imp id (fun h => by omega))
    rcases hk with hk | hk
    · have := I.p.lt k hk; omega
    · omega
theorem AI.moved {w0 W W1 W2 W3 W4 W5 : World} {D : Nat → Prop} {pb qb : Nat} {ah ah' : List S27} {h h' : S27} {be be' : List S27} {os ws : Value} {ol : List (Nat × Nat)} (I : AI w0 W D pb qb ah h be os ws ol)
    (hp : PastR W1 D pb (ah' ++ h' :: be') ah'.length) (h1 : Wr (· = pb) W W1) (hb : Below W1.heap.size W1 W2) (hr : RefR W3 (fun k => D k ∨ (W2.heap.size ≤ k ∧ k < W3.heap.size)) qb ah' h' be') (h3 : Wr (· = qb) W2 W3) (h4 : Below W3.heap.size W3 W4)
    (h5 : Wr (fun k => W.heap.size ≤ k ∧ k < W1.heap.size) W4 W5) (hlen : (ah' ++ h' :: be').length ≤ 65) (hsm : ∀ m ∈ ah' ++ h' :: be', SmallL m.f1) : ∃ D', AI w0 W5 D' pb qb ah' h' be' os ws ol := by
  have hpl := I.p.past.lt
  have hql := I.p.ref.lt
  have hne := I.p.ne
  have s1 := h1.size
  have s2 := hb.size
  have s3 := h3.size
  have s4 := h4.size
  have s5 := h5.size
  refine ⟨fun k => D k ∨ (W2.heap.size ≤ k ∧ k < W3.heap.size), I.acted (T := fun k => (k = pb ∨ k = qb) ∨ (W.heap.size ≤ k ∧ k < W1.heap.size)) ((((h1.mono (S' := fun k => (k = pb ∨ k = qb) ∨ (W.heap.size ≤ k ∧ k < W1.heap.size)) (fun k _ e => .inl (.inl e))).step hb).trans h3 (fun k _ e => .inl (.inr e))).step h4 |>.trans h5 (fun k _ e => .inr e))
    (fun k hk hlt => hk.elim id (fun h => by omega)) (fun k hk => .inl hk) (fun k hk => hk.imp id (fun h => by omega)) ?_ ?_ hlen hsm⟩
  · refine ((((hp.below hb).wr h3 (fun e => hne e) (fun k hk _ e => I.p.nQ (by rw [← e]; exact hk))).below h4).wr h5 (fun e => by omega) (fun k hk _ e => ?_)).mono (fun k _ hk => .inl hk)
    have := I.p.lt k hk; omega
  · refine ((hr.below h4).wr h5 (fun e => by omega) (fun k hk _ e => ?_))
    rcases hk with hk | hk
    · have := I.p.lt k hk; omega
    · omega
theorem AP.grown {w0 W W' : World} {D : Nat → Prop} {pb qb : Nat} {ah : List S27} {h : S27} {be : List S27} {e : Nat} {v : Value} {xs : List Nat} (I : AP w0 W D pb qb ah h be) (L : LP w0 W D pb qb e v xs) (hg : W.grownBy W' v.ownBlock) (hb : Below w0.heap.size w0 W') : AP w0 W' D pb qb ah h be := by
  have hmv : ∀ k, D k → k < W.heap.size → W'.heap[k]? = W.heap[k]? := fun k hk hlt => hg.block k hlt (fun e => (L.1 k e.symm).1 hk)
  refine ⟨hb, fun k hk => Nat.lt_of_lt_of_le (I.lt k hk) hg.size, I.nP, I.nQ, I.ne, I.gp, I.gq, I.len, I.sm, I.past.step (hg.block pb I.past.lt (fun e => (L.1 _ e.symm).2.1 rfl)) hmv, I.ref.step (hg.block qb I.ref.lt (fun e => (L.1 _ e.symm).2.2 rfl)) hmv⟩
theorem LP.other {w0 W W' : World} {D : Nat → Prop} {pb qb : Nat} {e e' : Nat} {v v' : Value} {xs xs' : List Nat} (L : LP w0 W D pb qb e v xs) (L' : LP w0 W D pb qb e' v' xs') (hne : e' ≠ e) (hg : W.grownBy W' v.ownBlock) : LP w0 W' D pb qb e' v' xs' := by
  have hd : ∀ k, v'.ownBlock = some k → some k ≠ v.ownBlock := fun k hk e1 => by
    obtain ⟨cells, hc⟩ := Kd.N_typed L k e1.symm
    exact Kd.N_ne L' hc hne hk.symm
  refine Kd.N_drop (ok' := fun k => some k = v'.ownBlock) (Kd.N_grown (w := W) ?_ hg (fun k hk => hd k hk.2.symm))
  obtain ⟨h0, rows, h1, h2, h3⟩ := L'
  refine ⟨fun k hk => ⟨h0 k hk, hk.symm⟩, rows, h1, h2, fun j x c hx hc => ?_⟩
  have h9 : c = [Value.pointer (some ⟨x, 0, none⟩)] := Kd.FK_now (h3 j x c hx hc)
  exact fun _ _ => h9
theorem OldOK.grown {w0 W W' : World} {D : Nat → Prop} {pb qb : Nat} {e : Nat} {v : Value} {xs : List Nat} {o : Nat × Nat} (h : OldOK W D o) (L : LP w0 W D pb qb e v xs) (hg : W.grownBy W' v.ownBlock) : OldOK W' D o :=
  h.move (fun k hk hlt => hg.block k hlt (fun e => (L.1 k e.symm).1 hk)) (fun _ h => h)
theorem AI.copied {w0 W W3 W4 : World} {D : Nat → Prop} {pb qb : Nat} {ah : List S27} {h : S27} {be : List S27} {os ws : Value} {ol : List (Nat × Nat)} {ad : Addr} {pb' qb' : Nat} (I : AP w0 W D pb qb ah h be) (Lo : LP w0 W D pb qb 29 os (ol.map Prod.fst ++ [pb])) (Lw : LP w0 W D pb qb 33 ws (ol.map Prod.snd ++ [qb]))
    (ho : ∀ o ∈ ol, OldOK W D o) (hF : Kd.F k27 W D (some ad) (ah ++ h :: be).length (ah ++ h :: be)) (hp' : W.heap.size ≤ pb') (hblk : W3.heap[pb']? = some (pastO (some ad) (ah ++ h :: be).length (ah ++ h :: be).length ah.length)) (hb3 : Below W.heap.size W W3)
    (hq' : W3.heap.size ≤ qb') (hr : RefR W4 (fun k => (D k ∨ (W3.heap.size ≤ k ∧ k < W4.heap.size)) ∧ k ≠ qb') qb' ah h be) (hb4 : Below W3.heap.size W3 W4) : ∃ D', AI w0 W4 D' pb' qb' ah h be os ws (ol ++ [(pb, qb)]) := by
  have hpl := I.past.lt
  have hql := I.ref.lt
  have hpl' := blk_lt hblk
  have hql' := hr.lt
  have s3 := hb3.size
  have s4 := hb4.size
  have hb := below_step hb3 hb4
  have hDD : ∀ k, D k → (D k ∨ k = pb ∨ k = qb ∨ (W3.heap.size ≤ k ∧ k < W4.heap.size ∧ k ≠ qb')) := fun k hk => .inl hk
  have hlp : ∀ e v xs, LP w0 W D pb qb e v xs → LP w0 W4 (fun k => D k ∨ k = pb ∨ k = qb ∨ (W3.heap.size ≤ k ∧ k < W4.heap.size ∧ k ≠ qb')) pb' qb' e v xs := fun e v xs h => by
    refine Kd.N_mono (Kd.N_below (Kd.N_bound h) hb) (fun k hk => ⟨fun hd => ?_, by omega, by omega⟩)
    rcases hd with h1 | h1 | h1 | h1
    · exact hk.1.1 h1
    · exact hk.1.2.1 h1
    · exact hk.1.2.2 h1
    · omega
  refine ⟨fun k => D k ∨ k = pb ∨ k = qb ∨ (W3.heap.size ≤ k ∧ k < W4.heap.size ∧ k ≠ qb'), ⟨below_step I.b hb, fun k hk => ?_, fun hk => ?_, fun hk => ?_, by omega, by have := I.b.size; omega, by have := I.b.size; omega, I.len, I.sm, ?_, ?_⟩, ?_, ?_, fun o hom => ?_⟩
  · rcases hk with h1 | h1 | h1 | h1
    · have := I.lt k h1; omega
    · omega
    · omega
    · omega
  · rcases hk with h1 | h1 | h1 | h1
    · have := I.lt _ h1; omega
    · omega
    · omega
    · omega
  · rcases hk with h1 | h1 | h1 | h1
    · have := I.lt _ h1; omega
    · omega
    · omega
    · omega
  · exact ⟨ad, _, blk_below hblk hb4, Nat.le_refl _, Kd.F_mono (Kd.F_below hF hb) hDD⟩
  · exact hr.mono (fun k _ hk => by
      rcases hk.1 with h1 | h1
      · exact .inl h1
      · exact .inr (.inr (.inr ⟨h1.1, h1.2, hk.2⟩)))
  · have e : (ol ++ [(pb, qb)]).map Prod.fst = ol.map Prod.fst ++ [pb] := by simp
    rw [e]; exact hlp _ _ _ Lo
  · have e : (ol ++ [(pb, qb)]).map Prod.snd = ol.map Prod.snd ++ [qb] := by simp
    rw [e]; exact hlp _ _ _ Lw
  · rcases List.mem_append.1 hom with h1 | h1
    · exact (ho o h1).move (fun k _ hlt => hb.block k hlt) hDD
    · rw [List.mem_singleton.1 h1]
      exact ⟨.inr (.inl rfl), .inr (.inr (.inl rfl)), ah, h, be, I.len, I.sm, (I.past.below hb).mono (fun k _ hk => hDD k hk), (I.ref.below hb).mono (fun k _ hk => hDD k hk)⟩
end Go.Proofs.Ytlopfkkegjajlaa
namespace Go.Proofs.Ytlopfkkegjajlaa
open Go.RowKit Go.ChangeShapes Go.WideShapes Go.Deep Go.Proofs.YtlopfkkegjajlaaW.PrintWords PHistoryTouched
def RdK {α : Type} (d : Kd α) (t : TypeId) (Q : α → Prop) : Prop :=
  ∀ {H : Type} (enc : TypeId × Value → H) (W : World) (n : Nat) (cs : List Value) (x : DataW H × List MemPlace),
    DataW.trod enc Try.prog W 0 (fun _ => true) true n t cs = some x → Rows.uptoBulk x.1 ≤ 1048576 → ∃ a : α, d.K W a cs ∧ Q a
theorem i64_of_wf {z : Int} (h : (Lit.int .i64 z).wf = true) : I64 z := by
  simp [Lit.wf, IntKind.min, IntKind.max, IntKind.signed, IntKind.bits] at h
  constructor <;> omega
theorem rd_int : RdK (Kd.int .i64) 3 I64 := by
  intro H enc W n cs x h _
  obtain ⟨z, rfl, rfl, hw⟩ := DataW.trod_int Try.underlying3 h
  exact ⟨z, rfl, i64_of_wf hw⟩
theorem rd_string : RdK Kd.string 9 (fun s => s.size ≤ 1048576) := by
  intro H enc W n cs x h hb
  obtain ⟨s, rfl, rfl, _⟩ := DataW.trod_string Try.underlying9 h
  have h1 : Rows.uptoBulk (DataW.lit (H := H) (.string s.data.toList)) = s.data.toList.length + 1 := bulks.string_eq _
  refine ⟨s, rfl, ?_⟩
  have h2 : s.data.toList.length = s.size := Array.length_toList
  rw [h1] at hb
  omega
theorem rd_slice {α : Type} {d : Kd α} {t e : TypeId} {Q : α → Prop} (ht : Try.prog.underlying t = some (.slice e)) (hc : Try.prog.cellsOf e = d.sz) (hd : RdK d e Q) (z : α) (e' : Nat) : RdK (Kd.slice e' d) t (fun xs => xs.length ≤ 1048576 ∧ ∀ a ∈ xs, Q a) := by
  intro H enc W n cs x h hb
  rcases open_slice ht h with ⟨rfl, rfl⟩ | ⟨a, len, cap, m, n', D, Pl, rfl, _, hl, _, hmm, rfl, hx⟩
  · exact ⟨[], ⟨none, 0, rfl, Nat.le_refl _, rfl, Nat.zero_le _, fun h => absurd h (Nat.lt_irrefl _)⟩, Nat.zero_le _, fun a ha => by cases ha⟩
  · have hlm : len ≤ m := by rw [hmm]; simpa using hl
    have hb1 := bulks.slice_elems ((List.range len).map D) ((List.range (m - len)).map fun j => D (len + j))
    have hb2 := bulks.slice_le ((List.range len).map D) ((List.range (m - len)).map fun j => D (len + j))
    have hb' : Rows.uptoBulk (DataW.slice ((List.range len).map D) ((List.range (m - len)).map fun j => D (len + j))) ≤ 1048576 := hb
    simp only [List.length_map, List.length_range] at hb2
    haveI : Inhabited α := ⟨z⟩
    obtain ⟨f, hf⟩ := choose_lt (n := len) (p := fun i y => (∃ cs', W.cells? 0 (a.add (i * Try.prog.cellsOf e)) (Try.prog.cellsOf e) = some cs' ∧ d.K W y cs') ∧ Q y) (fun i hi => by
      obtain ⟨cs', h1, h2⟩ := hx i (Nat.lt_of_lt_of_le hi hlm)
      obtain ⟨y, hy, hQ⟩ := hd enc W n' cs' _ h2 (by
        have := bulks.part_le (d := D i) (l := (List.range len).map D) (List.mem_map.2 ⟨i, List.mem_range.2 hi, rfl⟩)
        show Rows.uptoBulk (D i) ≤ _
        omega)
      exact ⟨y, ⟨cs', h1, hy⟩, hQ⟩)
    have hlen : ((List.range len).map f).length = len := by simp
    refine ⟨(List.range len).map f, ⟨some a, cap, by rw [hlen], by rw [hlen]; exact hl, rfl, by rw [hlen]; omega, fun _ => ⟨a, rfl, fun j p hj => ?_⟩⟩, by rw [hlen]; omega, fun y hy => ?_⟩
    · have hjl : j < len := by
        have := (List.getElem?_eq_some_iff.1 hj).1
        rwa [hlen] at this
      have hp : f j = p := by simpa [hjl] using hj
      obtain ⟨⟨cs', h1, h2⟩, _⟩ := hf j hjl
      rw [hc] at h1
      obtain ⟨_, h3, h4⟩ := World.cells?_some h1
      rw [hp] at h2
      refine ⟨cs', h3, h2, fun i u hu => ?_⟩
      have hi : i < d.sz := by
        have := (List.getElem?_eq_some_iff.1 hu).1
        omega
      have h5 := h4 i hi
      rw [hu, Go.Deep.add_add] at h5
      exact h5
    · obtain ⟨i, hi, rfl⟩ := List.mem_map.1 hy
      exact (hf i (List.mem_range.1 hi)).2
theorem rd_field {H : Type} {enc : TypeId × Value → H} {W : World} {n : Nat} {xs : List (DataW H × List MemPlace)} {i : Nat} {α : Type} {d : Kd α} {t : TypeId} {Q : α → Prop} {cs : List Value} (hd : RdK d t Q)
    (h : DataW.trod enc Try.prog W 0 (fun _ => true) true n t cs = xs[i]?) (hi : i < xs.length) (hb : Rows.uptoBulk (DataW.agg (xs.map (·.1))) ≤ 1048576) : ∃ a, d.K W a cs ∧ Q a := by
  rw [List.getElem?_eq_getElem hi] at h
  refine hd enc W n cs _ h ?_
  have h1 : Rows.uptoBulk (DataW.agg (xs.map (·.1))) = Rows.uptoBulkAll (xs.map (·.1)) + 1 := by simp only [Rows.uptoBulk]
  have h2 := bulks.part_le (d := (xs[i]).1) (l := xs.map (·.1)) (List.mem_map.2 ⟨_, List.getElem_mem hi, rfl⟩)
  omega
theorem cells27 : Try.prog.cellsOf 27 = 2 := by kernel_rfl
theorem cells40 : Try.prog.cellsOf 40 = 2 := by kernel_rfl
theorem cells76 : Try.prog.cellsOf 76 = 7 := by kernel_rfl
theorem cells82 : Try.prog.cellsOf 82 = 2 := by kernel_rfl
theorem cells84 : Try.prog.cellsOf 84 = 2 := by kernel_rfl
theorem cells3 : Try.prog.cellsOf 3 = 1 := by kernel_rfl
theorem cells9 : Try.prog.cellsOf 9 = 1 := by kernel_rfl
theorem cells73 : Try.prog.cellsOf 73 = 1 := by kernel_rfl
theorem cells54 : Try.prog.cellsOf 54 = 1 := by kernel_rfl
theorem cells74 : Try.prog.cellsOf 74 = 1 := by kernel_rfl
theorem cells25 : Try.prog.cellsOf 25 = 1 := by kernel_rfl
theorem two_cells {cs : List Value} {a b : Value} (hl : cs.length = 2) (h0 : (cs.drop 0).take 1 = [a]) (h1 : (cs.drop 1).take 1 = [b]) : cs = [a, b] := by
  match cs, hl with
  | [x, y], _ => simp at h0 h1; rw [h0, h1]
theorem rd_82 : RdK k82 82 (fun _ => True) := by
  intro H enc W n cs x h hb
  obtain ⟨xs, n', rfl, rfl, hl, hxl, hf⟩ := DataW.trod_struct Try.underlying82 h
  have hxl' : xs.length = 2 := hxl
  rw [cells82] at hl
  have f0 : DataW.trod enc Try.prog W 0 (fun _ => true) true n' 9 ((cs.drop 0).take (Try.prog.cellsOf 9)) = xs[0]? := hf 0 _ rfl
  have f1 : DataW.trod enc Try.prog W 0 (fun _ => true) true n' 9 ((cs.drop 1).take (Try.prog.cellsOf 9)) = xs[1]? := hf 1 _ rfl
  simp only [cells9] at f0 f1
  obtain ⟨s0, hs0, _⟩ := rd_field rd_string f0 (by omega) hb
  obtain ⟨s1, hs1, _⟩ := rd_field rd_string f1 (by omega) hb
  obtain rfl := two_cells hl hs0 hs1
  exact ⟨⟨s0, s1⟩, k82_mk W ⟨s0, s1⟩, trivial⟩
theorem rd_84 : RdK k84 84 (fun _ => True) := by
  intro H enc W n cs x h hb
  obtain ⟨xs, n', rfl, rfl, hl, hxl, hf⟩ := DataW.trod_struct Try.underlying84 h
  have hxl' : xs.length = 2 := hxl
  rw [cells84] at hl
  have f0 : DataW.trod enc Try.prog W 0 (fun _ => true) true n' 9 ((cs.drop 0).take (Try.prog.cellsOf 9)) = xs[0]? := hf 0 _ rfl
  have f1 : DataW.trod enc Try.prog W 0 (fun _ => true) true n' 3 ((cs.drop 1).take (Try.prog.cellsOf 3)) = xs[1]? := hf 1 _ rfl
  simp only [cells9, cells3] at f0 f1
  obtain ⟨s0, hs0, _⟩ := rd_field rd_string f0 (by omega) hb
  obtain ⟨s1, hs1, _⟩ := rd_field rd_int f1 (by omega) hb
  obtain rfl := two_cells hl hs0 hs1
  exact ⟨⟨s0, s1⟩, k84_mk W ⟨s0, s1⟩, trivial⟩
theorem rd_40 : RdK k40 40 (fun a => I64 a.1 ∧ I64 a.2) := by
  intro H enc W n cs x h hb
  obtain ⟨xs, n', rfl, rfl, hl, hxl, hf⟩ := DataW.trod_struct Try.underlying40 h
  have hxl' : xs.length = 2 := hxl
  rw [cells40] at hl
  have f0 : DataW.trod enc Try.prog W 0 (fun _ => true) true n' 3 ((cs.drop 0).take (Try.prog.cellsOf 3)) = xs[0]? := hf 0 _ rfl
  have f1 : DataW.trod enc Try.prog W 0 (fun _ => true) true n' 3 ((cs.drop 1).take (Try.prog.cellsOf 3)) = xs[1]? := hf 1 _ rfl
  simp only [cells3] at f0 f1
  obtain ⟨s0, hs0, h0⟩ := rd_field rd_int f0 (by omega) hb
  obtain ⟨s1, hs1, h1⟩ := rd_field rd_int f1 (by omega) hb
  obtain rfl := two_cells hl hs0 hs1
  exact ⟨(s0, s1), ⟨[.int .i64 s0], [.int .i64 s1], rfl, rfl, rfl⟩, h0, h1⟩
theorem seven_cells {cs : List Value} {a b c d e f g : Value} (hl : cs.length = 7) (h0 : (cs.drop 0).take 1 = [a]) (h1 : (cs.drop 1).take 1 = [b]) (h2 : (cs.drop 2).take 1 = [c]) (h3 : (cs.drop 3).take 1 = [d])
    (h4 : (cs.drop 4).take 1 = [e]) (h5 : (cs.drop 5).take 1 = [f]) (h6 : (cs.drop 6).take 1 = [g]) : cs = [a, b, c, d, e, f, g] := by
  match cs, hl with
  | [x0, x1, x2, x3, x4, x5, x6], _ =>
    simp only [List.drop_zero, List.drop_succ_cons, List.take_succ_cons, List.take_zero, List.cons.injEq, and_true] at h0 h1 h2 h3 h4 h5 h6
    rw [h0, h1, h2, h3, h4, h5, h6]
structure NodeIn (x : S76) : Prop where
  id : I64 x.f0
  par : I64 x.f2
  kids : ∀ z ∈ x.f5, I64 z
  n4 : x.f4.length ≤ 1048576
  n5 : x.f5.length ≤ 1048576
  n6 : x.f6.length ≤ 1048576
theorem rd_76 : RdK k76 76 NodeIn := by
  intro H enc W n cs x h hb
  obtain ⟨xs, n', rfl, rfl, hl, hxl, hf⟩ := DataW.trod_struct Try.underlying76 h
  have hxl' : xs.length = 7 := hxl
  rw [cells76] at hl
  have f0 : DataW.trod enc Try.prog W 0 (fun _ => true) true n' 3 ((cs.drop 0).take (Try.prog.cellsOf 3)) = xs[0]? := hf 0 _ rfl
  have f1 : DataW.trod enc Try.prog W 0 (fun _ => true) true n' 9 ((cs.drop 1).take (Try.prog.cellsOf 9)) = xs[1]? := hf 1 _ rfl
  have f2 : DataW.trod enc Try.prog W 0 (fun _ => true) true n' 3 ((cs.drop 2).take (Try.prog.cellsOf 3)) = xs[2]? := hf 2 _ rfl
  have f3 : DataW.trod enc Try.prog W 0 (fun _ => true) true n' 9 ((cs.drop 3).take (Try.prog.cellsOf 9)) = xs[3]? := hf 3 _ rfl
  have f4 : DataW.trod enc Try.prog W 0 (fun _ => true) true n' 73 ((cs.drop 4).take (Try.prog.cellsOf 73)) = xs[4]? := hf 4 _ rfl
  have f5 : DataW.trod enc Try.prog W 0 (fun _ => true) true n' 54 ((cs.drop 5).take (Try.prog.cellsOf 54)) = xs[5]? := hf 5 _ rfl
  have f6 : DataW.trod enc Try.prog W 0 (fun _ => true) true n' 74 ((cs.drop 6).take (Try.prog.cellsOf 74)) = xs[6]? := hf 6 _ rfl
  simp only [cells3, cells9, cells73, cells54, cells74] at f0 f1 f2 f3 f4 f5 f6
  obtain ⟨s0, hs0, h0⟩ := rd_field rd_int f0 (by omega) hb
  obtain ⟨s1, hs1, _⟩ := rd_field rd_string f1 (by omega) hb
  obtain ⟨s2, hs2, h2⟩ := rd_field rd_int f2 (by omega) hb
  obtain ⟨s3, hs3, _⟩ := rd_field rd_string f3 (by omega) hb
  obtain ⟨s4, ⟨A4, c4, hs4, hc4, g4⟩, h4, _⟩ := rd_field (rd_slice Try.underlying73 cells82 rd_82 z82 82) f4 (by omega) hb
  obtain ⟨s5, ⟨A5, c5, hs5, hc5, g5⟩, h5, h5'⟩ := rd_field (rd_slice Try.underlying54 cells3 rd_int 0 3) f5 (by omega) hb
  obtain ⟨s6, ⟨A6, c6, hs6, hc6, g6⟩, h6, _⟩ := rd_field (rd_slice Try.underlying74 cells84 rd_84 z84 84) f6 (by omega) hb
  have hcs : cs = [.int .i64 s0, .string s1, .int .i64 s2, .string s3, .slice A4 s4.length c4, .slice A5 s5.length c5, .slice A6 s6.length c6] := by
    have e0 : (cs.drop 0).take 1 = [.int .i64 s0] := hs0
    have e1 : (cs.drop 1).take 1 = [.string s1] := hs1
    have e2 : (cs.drop 2).take 1 = [.int .i64 s2] := hs2
    have e3 : (cs.drop 3).take 1 = [.string s3] := hs3
    exact seven_cells hl e0 e1 e2 e3 hs4 hs5 hs6
  refine ⟨⟨s0, s1, s2, s3, s4, s5, s6⟩, ?_, ⟨h0, h2, h5', h4, h5, h6⟩⟩
  rw [hcs]
  exact k76_mk W ⟨s0, s1, s2, s3, s4, s5, s6⟩ hc4 g4 hc5 g5 hc6 g6
structure ModelIn (m : S27) : Prop where
  nx : I64 m.f0
  n : m.f1.length ≤ 1048576
  nodes : ∀ x ∈ m.f1, NodeIn x
theorem rd_27 : RdK k27 27 ModelIn := by
  intro H enc W n cs x h hb
  obtain ⟨xs, n', rfl, rfl, hl, hxl, hf⟩ := DataW.trod_struct Try.underlying27 h
  have hxl' : xs.length = 2 := hxl
  rw [cells27] at hl
  have f0 : DataW.trod enc Try.prog W 0 (fun _ => true) true n' 3 ((cs.drop 0).take (Try.prog.cellsOf 3)) = xs[0]? := hf 0 _ rfl
  have f1 : DataW.trod enc Try.prog W 0 (fun _ => true) true n' 25 ((cs.drop 1).take (Try.prog.cellsOf 25)) = xs[1]? := hf 1 _ rfl
  simp only [cells3, cells25] at f0 f1
  obtain ⟨s0, hs0, h0⟩ := rd_field rd_int f0 (by omega) hb
  obtain ⟨s1, ⟨A1, c1, hs1, hc1, g1⟩, h1, h1'⟩ := rd_field (rd_slice Try.underlying25 cells76 rd_76 z76 76) f1 (by omega) hb
  obtain rfl := two_cells hl hs0 hs1
  exact ⟨⟨s0, s1⟩, k27_mk W ⟨s0, s1⟩ hc1 g1, ⟨h0, h1, h1'⟩⟩
theorem rd76_mem {l : List S76} {j : Nat} (hj : j < l.length) : rd_T76 l j ∈ l := by
  have : rd_T76 l j = l[j] := by simp [rd_T76, List.getD_eq_getElem?_getD, List.getElem?_eq_getElem hj]
  rw [this]; exact List.getElem_mem hj
theorem ModelIn.small {m : S27} (h : ModelIn m) : SmallL m.f1 :=
  ⟨h.n, fun _ hj => (h.nodes _ (rd76_mem hj)).n4, fun _ hj => (h.nodes _ (rd76_mem hj)).n5, fun _ hj => (h.nodes _ (rd76_mem hj)).n6⟩
theorem ModelIn.wf {m : S27} (h : ModelIn m) : WfL m.f1 := fun i hi => ⟨(h.nodes _ (rd76_mem hi)).par, fun j hj => by
  have hm := h.nodes _ (rd76_mem hi)
  refine hm.kids _ ?_
  have : rd (rd_T76 m.f1 i).f5 j = (rd_T76 m.f1 i).f5[j] := by simp [rd, List.getD_eq_getElem?_getD, List.getElem?_eq_getElem hj]
  rw [this]; exact List.getElem_mem hj⟩
end Go.Proofs.Ytlopfkkegjajlaa
namespace Go.Proofs.Ytlopfkkegjajlaa
open Go
theorem wp_region_hold1 {P : Program} {C : World → Prop} {id : Nat} {Q : Exit → Act → World → Prop} {a : Act} {w : World} {l : List Oper} (n : Nat) (pre is cs : List Nat) (hm : P.follows .mixedOrders = true) (hB : holdB l.toArray n pre = true) (his : pre ++ quietOf l.toArray n pre = is) (hcs : callsOf l.toArray n pre = cs)
    (hQ : ∀ (o : Oper) (v : Value) c a w, Q (.panic c) (a.put o.dst v) w → Q (.panic c) a w) (hC : C { w with drawn := w.drawn + 1 })
    (h : wpQuiet P l.toArray C (fun a' => runH P l.toArray C (fun a w => wpList P l.toArray Q (l.drop n) a w) cs a' { w with drawn := w.drawn + 1 }) (pickOps l is) a) : (Code.region id l.toArray true).wp P Q a w := by
  rw [← pickOps_eq] at h
  subst his hcs
  simp only [holdB, Bool.and_eq_true, decide_eq_true_eq] at hB
  obtain ⟨⟨⟨⟨⟨⟨⟨⟨⟨⟨hsel, hn⟩, hs⟩, hc⟩, hlow⟩, hq⟩, hpB⟩, hpn⟩, hlen⟩, hch⟩, hmx⟩ := hB
  have hn' : n < l.length := by simpa using hn
  have hpn' : ∀ i ∈ pre, i < n := fun i hi => by simpa using List.all_eq_true.1 hpn i hi
  have hdl : (l.drop n).length = l.toArray.size - n := by simp
  have hqm : ∀ i, i ∈ quietOf l.toArray n pre ↔ i < n ∧ plainAt l.toArray i = true ∧ i ∉ pre := fun i => by
    unfold quietOf; rw [List.mem_filter, List.mem_range]; simp
  have hcm : ∀ i, i ∈ callsOf l.toArray n pre ↔ i < n ∧ plainAt l.toArray i = false ∧ i ∉ pre := fun i => by
    unfold callsOf; rw [List.mem_filter, List.mem_range]; simp
  have hrun := runQ_of_quiet (ops := l.toArray) (pre ++ quietOf l.toArray n pre) a (fun i hi => by
    rcases List.mem_append.1 hi with h1 | h1
    · have := hpn' i h1; omega
    · have := ((hqm i).1 h1).1; omega) h
  have hrun2 := runQ_append _ _ _ hrun
  have hinv0 : HeadInv .any l.toArray n (Array.replicate l.toArray.size false) :=
    ⟨by simp, fun j oj _ hl => (by rw [getD_replicate_false] at hl; cases hl), fun t _ ht => getD_in (by simpa using ht) (getD_replicate_false _ _)⟩
  have hmem : ∀ i, i < n → ((preL pre (Array.replicate l.toArray.size false)).getD i true = false ↔ i ∉ pre) := fun i hi => by
    rw [preL_false pre _ i (by simp; omega)]
    have : (Array.replicate l.toArray.size false).getD i true = false := getD_in (by simp; omega) (getD_replicate_false _ _)
    simp only [this, true_and]
  have hrem : RemH l.toArray n (preL pre (Array.replicate l.toArray.size false)) (quietOf l.toArray n pre) (callsOf l.toArray n pre) := by
    refine ⟨preL_inv pre _ hpB hpn' hinv0, fun i => ?_, ?_, fun i hi => ((hqm i).1 hi).2.1, fun i hi => ((hcm i).1 hi).2.1, ?_, hch, fun i hi j hj hij => ?_, fun i hi j hj => ?_⟩
    · rw [hqm, hcm]
      constructor
      · rintro (⟨h1, _, h2⟩ | ⟨h1, _, h2⟩) <;> exact ⟨h1, (hmem i h1).2 h2⟩
      · rintro ⟨h1, h2⟩
        cases hp : plainAt l.toArray i with
        | true => exact .inl ⟨h1, rfl, (hmem i h1).1 h2⟩
        | false => exact .inr ⟨h1, rfl, (hmem i h1).1 h2⟩
    · exact List.Pairwise.filter _ List.pairwise_lt_range
    · exact (List.nodup_range).filter _
    · have h1 := List.all_eq_true.1 hmx i hi
      rw [Bool.and_eq_true] at h1
      have h2 := List.all_eq_true.1 h1.1 j hj
      simp only [Bool.or_eq_true, decide_eq_true_eq] at h2
      rcases h2 with (h2 | h2) | h2
      · omega
      · exact .inl h2
      · exact .inr h2
    · have h1 := List.all_eq_true.1 hmx i hi
      rw [Bool.and_eq_true] at h1
      have h2 := List.all_eq_true.1 h1.2 j hj
      rwa [Bool.or_eq_true] at h2
  have hpl : ∀ i ∈ pre, (preL pre (Array.replicate l.toArray.size false)).getD i true = true := fun i hi => by
    have := hmem i (hpn' i hi)
    cases hx : (preL pre (Array.replicate l.toArray.size false)).getD i true with
    | true => rfl
    | false => exact absurd hi (this.1 hx)
  refine wp_region_any hm ?_
  have hall : ∀ a', RunQ P l.toArray C (fun a' => runH P l.toArray C (fun a w => wpList P l.toArray Q (l.drop n) a w) (callsOf l.toArray n pre) a' { w with drawn := w.drawn + 1 }) (quietOf l.toArray n pre) a' → wpAny P .any l.toArray Q (((quietOf l.toArray n pre).length + (callsOf l.toArray n pre).length) + (l.toArray.size - n)) (preL pre (Array.replicate l.toArray.size false)) a' { w with drawn := w.drawn + 1 } := fun a' ha' =>
    any_of_hold (pre := pre) (P := P) (C := C) (g := l.toArray.size - n) (Q := Q) (Region.noSelect_spec hsel) hQ hs hc hn hlow (fun a' w' hw' hF => by
      have := wpAny_of_seq (md := .any) (Q' := Q) (l.drop n) n _ a' w' (fun j => by simp [List.getElem?_drop]) (by rw [hdl]; exact hq) hF
      rwa [hdl] at this) _ (quietOf l.toArray n pre) (callsOf l.toArray n pre) _ a' _ rfl hrem hpl hC ha'
  have := take_pre (C := C) hsel (fun o v c a w _ h => hQ o v c a w h) hC pre (Array.replicate l.toArray.size false) a hpB (runQ_mono hall pre a hrun2)
  rw [show pre.length + (((quietOf l.toArray n pre).length + (callsOf l.toArray n pre).length) + (l.toArray.size - n)) = l.toArray.size by omega] at this
  exact this
def WW (S : Nat → Prop) (w : World) := {W : World // Wr S w W}
instance (S : Nat → Prop) (w : World) : Nonempty (WW S w) := ⟨⟨w, Wr.refl _ _⟩⟩
theorem ww_cell {S : Nat → Prop} {w : World} {a : Addr} {v : Value} (h : w.cell? a = some v) (hS : ¬ S a.block) (x : WW S w) : x.1.cell? a = some v := by
  have hb := x.2.block _ (World.block_lt_of_cell? w a h) hS
  rw [← h]
  unfold World.cell?
  rw [hb]
end Go.Proofs.Ytlopfkkegjajlaa
