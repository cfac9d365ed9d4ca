/- Texts of this proof and of the kit's print for this seat, gathered by wip/shake.py: only what the proof reaches. -/
import Derived.Test.YtlopfkkegjajlaaZf2
import Derived.WideShapes
import Derived.Deep.QuietTactic
import Derived.BigQuiet
namespace Go.Proofs.Ytlopfkkegjajlaa.PHistoryTouched
open Go.RowKit Go.Proofs.YtlopfkkegjajlaaW.PrintWords Go.Proofs.YtlopfkkegjajlaaW.PrintLast Go.Proofs.YtlopfkkegjajlaaW.PrintMore
attribute [local go_sem] max2_int min2_int max_two min_two max_three min_three max_four min_four   
set_option linter.unusedVariables false
set_option linter.unusedSimpArgs false
mutual
def topiaryref02_Word.j0 : Nat → ByteArray → Bool → Option (Bool)
  | 0, _, _ => none
  | k + 1, x0, x13 => if x13 = true then (if 1 ≤ (x0.size : Int) then (topiaryref02_Word.j1 k (x0.extract 1 x0.size)) else (none)) else (topiaryref02_Word.j1 k x0)
def topiaryref02_Word.j1 : Nat → ByteArray → Option (Bool)
  | 0, _ => none
  | k + 1, x0 => if (x0.size : Int) < 1 then (topiaryref02_Word.j2 k x0 true) else (topiaryref02_Word.j2 k x0 (decide ((x0.size : Int) > 32)))
def topiaryref02_Word.j2 : Nat → ByteArray → Bool → Option (Bool)
  | 0, _, _ => none
  | k + 1, x0, x23 => if x23 = true then (some false) else (topiaryref02_Word.l0 k x0 0)
def topiaryref02_Word.l0 : Nat → ByteArray → Int → Option (Bool)
  | 0, _, _ => none
  | k + 1, x0, x3 => if x3 < (x0.size : Int) then (if 0 ≤ x3 then (if (bt x0 x3) ≥ 97 then (if (bt x0 x3) ≤ 122 then (topiaryref02_Word.l0 k x0 (wrap64 (x3 + 1))) else (if (bt x0 x3) ≥ 65 then (if ((bt x0 x3) ≤ 90) then (topiaryref02_Word.l0 k x0 (wrap64 (x3 + 1))) else (if x3 = 0 then (some false) else (if (bt x0 x3) = 95 then (topiaryref02_Word.l0 k x0 (wrap64 (x3 + 1))) else (if (bt x0 x3) < 48 then (some false) else (if (bt x0 x3) > 57 then (some false) else (topiaryref02_Word.l0 k x0 (wrap64 (x3 + 1)))))))) else (if x3 = 0 then (some false) else (if (bt x0 x3) = 95 then (topiaryref02_Word.l0 k x0 (wrap64 (x3 + 1))) else (if (bt x0 x3) < 48 then (some false) else (if (bt x0 x3) > 57 then (some false) else (topiaryref02_Word.l0 k x0 (wrap64 (x3 + 1))))))))) else (if (bt x0 x3) ≥ 65 then (if ((bt x0 x3) ≤ 90) then (topiaryref02_Word.l0 k x0 (wrap64 (x3 + 1))) else (if x3 = 0 then (some false) else (if (bt x0 x3) = 95 then (topiaryref02_Word.l0 k x0 (wrap64 (x3 + 1))) else (if (bt x0 x3) < 48 then (some false) else (if (bt x0 x3) > 57 then (some false) else (topiaryref02_Word.l0 k x0 (wrap64 (x3 + 1)))))))) else (if x3 = 0 then (some false) else (if (bt x0 x3) = 95 then (topiaryref02_Word.l0 k x0 (wrap64 (x3 + 1))) else (if (bt x0 x3) < 48 then (some false) else (if (bt x0 x3) > 57 then (some false) else (topiaryref02_Word.l0 k x0 (wrap64 (x3 + 1))))))))) else (none)) else (some true)
end
def topiaryref02_Word.f (k : Nat) (a0 : ByteArray) : Option (Bool) := if (a0.size : Int) > 0 then (if 0 < (a0.size : Int) then (topiaryref02_Word.j0 k a0 ((bt a0 0) == 63)) else (none)) else (topiaryref02_Word.j0 k a0 false)
theorem topiaryref02_Word.mono_l : ∀ k, (∀ y0 y1, LeO (topiaryref02_Word.j0 k y0 y1) (topiaryref02_Word.j0 (k + 1) y0 y1)) ∧ (∀ y0, LeO (topiaryref02_Word.j1 k y0) (topiaryref02_Word.j1 (k + 1) y0)) ∧ (∀ y0 y1, LeO (topiaryref02_Word.j2 k y0 y1) (topiaryref02_Word.j2 (k + 1) y0 y1)) ∧ (∀ y0 y1, LeO (topiaryref02_Word.l0 k y0 y1) (topiaryref02_Word.l0 (k + 1) y0 y1))
  | 0 => ⟨fun _ _ r h => by simp [topiaryref02_Word.j0] at h, fun _ r h => by simp [topiaryref02_Word.j1] at h, fun _ _ r h => by simp [topiaryref02_Word.j2] at h, fun _ _ r h => by simp [topiaryref02_Word.l0] at h⟩
  | k + 1 => by
    obtain ⟨ih0, ih1, ih2, ih3⟩ := topiaryref02_Word.mono_l k
    refine ⟨?_, ?_, ?_, ?_⟩
    · intro y0 y1
      unfold topiaryref02_Word.j0
      repeat' first
      | (with_reducible exact ih0 _ _)
      | (with_reducible exact ih1 _)
      | (with_reducible exact ih2 _ _)
      | (with_reducible exact ih3 _ _)
      | (with_reducible exact LeO.refl _)
      | (with_reducible exact LeO.none _)
      | (with_reducible refine LeO.ite ?_ ?_)
      | (with_reducible refine LeO.bind ?_ (fun _ => ?_))
      | exact ih0 _ _
      | exact ih1 _
      | exact ih2 _ _
      | exact ih3 _ _
      | exact LeO.none _
      | refine LeO.ite ?_ ?_
      | refine LeO.bind ?_ (fun _ => ?_)
    · intro y0
      unfold topiaryref02_Word.j1
      repeat' first
      | (with_reducible exact ih0 _ _)
      | (with_reducible exact ih1 _)
      | (with_reducible exact ih2 _ _)
      | (with_reducible exact ih3 _ _)
      | (with_reducible exact LeO.refl _)
      | (with_reducible exact LeO.none _)
      | (with_reducible refine LeO.ite ?_ ?_)
      | (with_reducible refine LeO.bind ?_ (fun _ => ?_))
      | exact ih0 _ _
      | exact ih1 _
      | exact ih2 _ _
      | exact ih3 _ _
      | exact LeO.none _
      | refine LeO.ite ?_ ?_
      | refine LeO.bind ?_ (fun _ => ?_)
    · intro y0 y1
      unfold topiaryref02_Word.j2
      repeat' first
      | (with_reducible exact ih0 _ _)
      | (with_reducible exact ih1 _)
      | (with_reducible exact ih2 _ _)
      | (with_reducible exact ih3 _ _)
      | (with_reducible exact LeO.refl _)
      | (with_reducible exact LeO.none _)
      | (with_reducible refine LeO.ite ?_ ?_)
      | (with_reducible refine LeO.bind ?_ (fun _ => ?_))
      | exact ih0 _ _
      | exact ih1 _
      | exact ih2 _ _
      | exact ih3 _ _
      | exact LeO.none _
      | refine LeO.ite ?_ ?_
      | refine LeO.bind ?_ (fun _ => ?_)
    · intro y0 y1
      unfold topiaryref02_Word.l0
      repeat' first
      | (with_reducible exact ih0 _ _)
      | (with_reducible exact ih1 _)
      | (with_reducible exact ih2 _ _)
      | (with_reducible exact ih3 _ _)
      | (with_reducible exact LeO.refl _)
      | (with_reducible exact LeO.none _)
      | (with_reducible refine LeO.ite ?_ ?_)
      | (with_reducible refine LeO.bind ?_ (fun _ => ?_))
      | exact ih0 _ _
      | exact ih1 _
      | exact ih2 _ _
      | exact ih3 _ _
      | exact LeO.none _
      | refine LeO.ite ?_ ?_
      | refine LeO.bind ?_ (fun _ => ?_)
theorem topiaryref02_Word.mono : ∀ a0 k, LeO (topiaryref02_Word.f k a0) (topiaryref02_Word.f (k + 1) a0) := by
  intro a0 k
  obtain ⟨ih0, ih1, ih2, ih3⟩ := topiaryref02_Word.mono_l k
  unfold topiaryref02_Word.f
  repeat' first
      | (with_reducible exact ih0 _ _)
      | (with_reducible exact ih1 _)
      | (with_reducible exact ih2 _ _)
      | (with_reducible exact ih3 _ _)
      | (with_reducible exact LeO.refl _)
      | (with_reducible exact LeO.none _)
      | (with_reducible refine LeO.ite ?_ ?_)
      | (with_reducible refine LeO.bind ?_ (fun _ => ?_))
      | exact ih0 _ _
      | exact ih1 _
      | exact ih2 _ _
      | exact ih3 _ _
      | exact LeO.none _
      | refine LeO.ite ?_ ?_
      | refine LeO.bind ?_ (fun _ => ?_)
set_option maxHeartbeats 8000000 in
set_option maxRecDepth 100000 in
theorem topiaryref02_Word.calls (k : Nat) (a0 : ByteArray) (r : Bool) (w : World) (h : topiaryref02_Word.f k a0 = some r) :
    Calls Try.prog 83 #[.string a0] w fun e w' => e = .returned (.bool r) ∧ Drawn0 w w' := by
  have H : (if (a0.size : Int) > 0 then (if 0 < (a0.size : Int) then (topiaryref02_Word.j0 k a0 ((bt a0 0) == 63)) else (none)) else (topiaryref02_Word.j0 k a0 false)) = some r := h
  clear h
  have HC2 := Aside0.mk H
  clear H
  go_enter Try.func83, Try.ntmps83
  go_upto_region 1 with (fail)
  go_cut [13] (fun v13 wc => ∃ (kq : Nat) (x13_1 : Bool), v13 = .bool x13_1 ∧ Aside0 (topiaryref02_Word.j0 kq a0 x13_1 = some r) ∧ Aside0 (kq ≤ k) ∧ Drawn0 w wc)
  case first =>
    have H := HC2.out
    clear HC2
    by_cases c3 : (a0.size : Int) > 0
    · rw [if_pos c3] at H
      have c3b0 : decide (0 < (a0.size : Int)) = true := decide_eq_true c3
      have c3b1 : decide (0 < a0.size) = true := decide_eq_true (by omega)
      clear c3
      (first | rw [c3b0] | (simp only [i64_w, i32_w]; rw [c3b0]) | skip)
      by_cases c4 : 0 < (a0.size : Int)
      · rw [if_pos c4] at H
        have c4b0 : decide (0 < (a0.size : Int)) = true := decide_eq_true c4
        have c4b1 : decide (0 < a0.size) = true := decide_eq_true (by omega)
        clear c4
        have H' := Aside0.mk H
        clear H
        have p5 : 0 ≤ (0 : Int) := (by omega)
        have q5 : 0 < a0.size := (by have : (0 : Int) < (a0.size : Int) := of_decide_eq_true (by first | (with_reducible assumption) | assumption); omega)
        have hx5 : ∀ h : 0 < a0.size, ((a0[0]'h).toNat : Int) = bt a0 0 := bt_at a0 0
        clear p5
        have qi5 : (0 < (a0.size : Int)) = True := eq_true (of_decide_eq_true (by first | (with_reducible assumption) | assumption))
        replace q5 := eq_true q5
        go_wp2
        go_meet
        case rel => exact ⟨_, (((bt a0 0) == 63)), (by first | rfl | (simp; done) | (simp [*]; done)), H', ⟨by first | omega | exact Nat.le_refl _⟩, by repeat (first | exact Drawn0.refl _ | apply Drawn0.step)⟩
      · rw [if_neg c4] at H
        exact absurd H (by simp)
    · rw [if_neg c3] at H
      have c3b0 : decide (0 < (a0.size : Int)) = false := decide_eq_false c3
      have c3b1 : decide (0 < a0.size) = false := decide_eq_false (by omega)
      clear c3
      (first | rw [c3b0] | (simp only [i64_w, i32_w]; rw [c3b0]) | skip)
      have H' := Aside0.mk H
      clear H
      go_wp2
      go_meet
      case rel => exact ⟨_, (false), (by first | rfl | (simp; done) | (simp [*]; done)), H', ⟨by first | omega | exact Nat.le_refl _⟩, by repeat (first | exact Drawn0.refl _ | apply Drawn0.step)⟩
  case rest =>
    clear HC2
    try clear p2
    try clear c3
    try clear c3b0
    try clear c3b1
    try clear c4
    try clear c4b0
    try clear c4b1
    try clear p5
    try clear q5
    try clear hx5
    try clear qi5
    try clear p5
    try clear q5
    obtain ⟨kq, x13_1, rfl, HA, HJ1, ⟨mc1, rfl⟩⟩ := hcut
    cases kq with
    | zero => exact absurd HA.out (by simp [topiaryref02_Word.j0])
    | succ kj1 =>
      have H := HA.out
      clear HA
      simp only [topiaryref02_Word.j0] at H
      have HC6 := Aside0.mk H
      clear H
      go_upto_if 13 with (fail)
      go_cut [0] (fun v0 wc => ∃ (kq : Nat) (x0_5 : ByteArray), v0 = .string x0_5 ∧ Aside0 (topiaryref02_Word.j1 kq x0_5 = some r) ∧ Aside0 (kq ≤ kj1) ∧ Drawn0 w wc)
      case first =>
        have H := HC6.out
        clear HC6
        by_cases c7 : x13_1 = true
        · subst c7
          have H1 : (if 1 ≤ (a0.size : Int) then (topiaryref02_Word.j1 kj1 (a0.extract 1 a0.size)) else (none)) = some r := by rw [if_pos rfl] at H; exact H
          clear H
          have H := H1
          clear H1
          by_cases c8 : 1 ≤ (a0.size : Int)
          · rw [if_pos c8] at H
            have c8b0 := eq_true c8
            have c8b1 : decide (1 ≤ (a0.size : Int)) = true := decide_eq_true c8
            clear c8
            have H' := Aside0.mk H
            clear H
            go_wp2
            go_meet
            case rel => exact ⟨_, (a0.extract 1 a0.size), (by first | rfl | (simp; done) | (simp [*]; done)), H', ⟨by have := HJ1.out; first | omega | exact Nat.le_refl _⟩, by repeat (first | exact Drawn0.refl _ | apply Drawn0.step)⟩
          · rw [if_neg c8] at H
            exact absurd H (by simp)
        · replace c7 := Bool.eq_false_iff.mpr c7
          subst c7
          have H1 : (topiaryref02_Word.j1 kj1 a0) = some r := by rw [if_neg (show ¬ (false = true) by decide)] at H; exact H
          clear H
          have H := H1
          clear H1
          have H' := Aside0.mk H
          clear H
          go_wp2
          go_meet
          case rel => exact ⟨_, (a0), (by first | rfl | (simp; done) | (simp [*]; done)), H', ⟨by have := HJ1.out; first | omega | exact Nat.le_refl _⟩, by repeat (first | exact Drawn0.refl _ | apply Drawn0.step)⟩
      case rest =>
        clear HC6
        try clear c1
        try clear p2
        try clear c3
        try clear c3b0
        try clear c3b1
        try clear c4
        try clear c4b0
        try clear c4b1
        try clear p5
        try clear q5
        try clear hx5
        try clear qi5
        try clear c7
        try clear c8
        try clear c8b0
        try clear c8b1
        try clear p2
        try clear p5
        try clear q5
        obtain ⟨kq, x0_5, rfl, HA, HJ5, ⟨mc5, rfl⟩⟩ := hcut
        cases kq with
        | zero => exact absurd HA.out (by simp [topiaryref02_Word.j1])
        | succ kj5 =>
          have H := HA.out
          clear HA
          simp only [topiaryref02_Word.j1] at H
          have HC9 := Aside0.mk H
          clear H
          go_upto_region 3 with (fail)
          go_cut [23] (fun v23 wc => ∃ (kq : Nat) (x23_8 : Bool), v23 = .bool x23_8 ∧ Aside0 (topiaryref02_Word.j2 kq x0_5 x23_8 = some r) ∧ Aside0 (kq ≤ kj5) ∧ Drawn0 w wc)
          case first =>
            have H := HC9.out
            clear HC9
            by_cases c10 : (x0_5.size : Int) < 1
            · rw [if_pos c10] at H
              have c10b0 : decide ((x0_5.size : Int) < 1) = true := decide_eq_true c10
              have c10b1 : decide (x0_5.size < 1) = true := decide_eq_true (by omega)
              clear c10
              (first | rw [c10b0] | (simp only [i64_w, i32_w]; rw [c10b0]) | skip)
              have H' := Aside0.mk H
              clear H
              go_wp2
              go_meet
              case rel => exact ⟨_, (true), (by first | rfl | (simp; done) | (simp [*]; done)), H', ⟨by have := HJ1.out; have := HJ5.out; first | omega | exact Nat.le_refl _⟩, by repeat (first | exact Drawn0.refl _ | apply Drawn0.step)⟩
            · rw [if_neg c10] at H
              have c10b0 : decide ((x0_5.size : Int) < 1) = false := decide_eq_false c10
              have c10b1 : decide (x0_5.size < 1) = false := decide_eq_false (by omega)
              clear c10
              (first | rw [c10b0] | (simp only [i64_w, i32_w]; rw [c10b0]) | skip)
              have H' := Aside0.mk H
              clear H
              go_wp2
              go_meet
              case rel => exact ⟨_, (decide ((x0_5.size : Int) > 32)), (by first | rfl | (simp; done) | (simp [*]; done)), H', ⟨by have := HJ1.out; have := HJ5.out; first | omega | exact Nat.le_refl _⟩, by repeat (first | exact Drawn0.refl _ | apply Drawn0.step)⟩
          case rest =>
            clear HC9
            try clear c1
            try clear p2
            try clear c3
            try clear c3b0
            try clear c3b1
            try clear c4
            try clear c4b0
            try clear c4b1
            try clear c5
            try clear p5
            try clear q5
            try clear hx5
            try clear qi5
            try clear c7
            try clear c8
            try clear c8b0
            try clear c8b1
            try clear c10
            try clear c10b0
            try clear c10b1
            try clear p2
            try clear p5
            try clear q5
            obtain ⟨kq, x23_8, rfl, HA, HJ8, ⟨mc8, rfl⟩⟩ := hcut
            cases kq with
            | zero => exact absurd HA.out (by simp [topiaryref02_Word.j2])
            | succ kj8 =>
              have H := HA.out
              clear HA
              simp only [topiaryref02_Word.j2] at H
              by_cases c11 : x23_8 = true
              · subst c11
                have H1 : (some false) = some r := by rw [if_pos rfl] at H; exact H
                clear H
                have H := H1
                clear H1
                obtain rfl := Option.some.inj H
                go_wp2
                go_ret
                exact ⟨by first | rfl | (simp; done) | (simp [*]; done), by repeat (first | exact Drawn0.refl _ | apply Drawn0.step)⟩
              · replace c11 := Bool.eq_false_iff.mpr c11
                subst c11
                have H1 : (topiaryref02_Word.l0 kj8 x0_5 0) = some r := by rw [if_neg (show ¬ (false = true) by decide)] at H; exact H
                clear H
                have H := H1
                clear H1
                have H' := Aside0.mk H
                clear H
                go_wp2
                go_loopg [3] kj8 (fun kq v3 w' => ∃ (x3_4 : Int), v3 = .int .i64 x3_4 ∧ Aside0 (topiaryref02_Word.l0 kq x0_5 x3_4 = some r) ∧ Aside0 (kq ≤ kj8) ∧ Drawn0 w w')
                case atStart => exact ⟨(0), (by first | rfl | (simp; done) | (simp [*]; done)), H', ⟨Nat.le_refl _⟩, by repeat (first | exact Drawn0.refl _ | apply Drawn0.step)⟩
                case round =>
                  clear H'
                  try clear c1
                  try clear p2
                  try clear c3
                  try clear c3b0
                  try clear c3b1
                  try clear c4
                  try clear c4b0
                  try clear c4b1
                  try clear c5
                  try clear p5
                  try clear q5
                  try clear hx5
                  try clear qi5
                  try clear c7
                  try clear c8
                  try clear c8b0
                  try clear c8b1
                  try clear c10
                  try clear c10b0
                  try clear c10b1
                  try clear c11
                  try clear p2
                  try clear p5
                  try clear q5
                  obtain ⟨x3_4, rfl, HA, HK4, ⟨m4, rfl⟩⟩ := hrel
                  cases gk with
                  | zero => exact absurd HA.out (by simp [topiaryref02_Word.l0])
                  | succ k4 =>
                    have H := HA.out
                    clear HA
                    simp only [topiaryref02_Word.l0] at H
                    by_cases c12 : x3_4 < (x0_5.size : Int)
                    · rw [if_pos c12] at H
                      have c12b0 : decide (x3_4 < (x0_5.size : Int)) = true := decide_eq_true c12
                      clear c12
                      by_cases c13 : 0 ≤ x3_4
                      · rw [if_pos c13] at H
                        have c13b0 : decide (0 ≤ x3_4) = true := decide_eq_true c13
                        clear c13
                        by_cases c15 : (bt x0_5 x3_4) ≥ 97
                        · rw [if_pos c15] at H
                          have c15b0 : decide (97 ≤ (bt x0_5 x3_4)) = true := decide_eq_true c15
                          clear c15
                          by_cases c16 : (bt x0_5 x3_4) ≤ 122
                          · rw [if_pos c16] at H
                            have c16b0 : decide ((bt x0_5 x3_4) ≤ 122) = true := decide_eq_true c16
                            clear c16
                            have H' := Aside0.mk H
                            clear H
                            have p14 : 0 ≤ (x3_4 : Int) := of_decide_eq_true (by first | (with_reducible assumption) | assumption)
                            have q14 : x3_4 < (x0_5.size : Int) := of_decide_eq_true (by first | (with_reducible assumption) | assumption)
                            have hx14 := bt_at x0_5 x3_4
                            replace p14 := eq_true p14
                            replace q14 := eq_true q14
                            go_wp2
                            go_roundg k4
                            case measure => have := HJ1.out; have := HJ5.out; have := HJ8.out; have := HK4.out; omega
                            case rel => exact ⟨(wrap64 (x3_4 + 1)), (by first | rfl | (simp; done) | (simp [*]; done)), H', ⟨by have := HJ1.out; have := HJ5.out; have := HJ8.out; have := HK4.out; omega⟩, by repeat (first | exact Drawn0.refl _ | apply Drawn0.step)⟩
                          · rw [if_neg c16] at H
                            have c16b0 : decide ((bt x0_5 x3_4) ≤ 122) = false := decide_eq_false c16
                            clear c16
                            by_cases c17 : (bt x0_5 x3_4) ≥ 65
                            · rw [if_pos c17] at H
                              have c17b0 : decide (65 ≤ (bt x0_5 x3_4)) = true := decide_eq_true c17
                              clear c17
                              by_cases c18 : ((bt x0_5 x3_4) ≤ 90)
                              · rw [if_pos c18] at H
                                have c18b0 : decide ((bt x0_5 x3_4) ≤ 90) = true := decide_eq_true c18
                                clear c18
                                have H' := Aside0.mk H
                                clear H
                                have p14 : 0 ≤ (x3_4 : Int) := of_decide_eq_true (by first | (with_reducible assumption) | assumption)
                                have q14 : x3_4 < (x0_5.size : Int) := of_decide_eq_true (by first | (with_reducible assumption) | assumption)
                                have hx14 := bt_at x0_5 x3_4
                                replace p14 := eq_true p14
                                replace q14 := eq_true q14
                                go_wp2
                                go_roundg k4
                                case measure => have := HJ1.out; have := HJ5.out; have := HJ8.out; have := HK4.out; omega
                                case rel => exact ⟨(wrap64 (x3_4 + 1)), (by first | rfl | (simp; done) | (simp [*]; done)), H', ⟨by have := HJ1.out; have := HJ5.out; have := HJ8.out; have := HK4.out; omega⟩, by repeat (first | exact Drawn0.refl _ | apply Drawn0.step)⟩
                              · rw [if_neg c18] at H
                                have c18b0 : decide ((bt x0_5 x3_4) ≤ 90) = false := decide_eq_false c18
                                clear c18
                                by_cases c19 : x3_4 = 0
                                · rw [if_pos c19] at H
                                  have c19b0 : (x3_4 == 0) = true := beq_iff_eq.mpr c19
                                  have c19b1 : (x3_4 != 0) = false := bne_eq_false_iff_eq.mpr c19
                                  clear c19
                                  obtain rfl := Option.some.inj H
                                  have p14 : 0 ≤ (x3_4 : Int) := of_decide_eq_true (by first | (with_reducible assumption) | assumption)
                                  have q14 : x3_4 < (x0_5.size : Int) := of_decide_eq_true (by first | (with_reducible assumption) | assumption)
                                  have hx14 := bt_at x0_5 x3_4
                                  replace p14 := eq_true p14
                                  replace q14 := eq_true q14
                                  go_wp2
                                  go_ret
                                  exact ⟨by first | rfl | (simp; done) | (simp [*]; done), by repeat (first | exact Drawn0.refl _ | apply Drawn0.step)⟩
                                · rw [if_neg c19] at H
                                  have c19b0 : (x3_4 == 0) = false := beq_eq_false_iff_ne.mpr c19
                                  have c19b1 : (x3_4 != 0) = true := bne_iff_ne.mpr c19
                                  by_cases c20 : (bt x0_5 x3_4) = 95
                                  · rw [if_pos c20] at H
                                    have c20b0 : ((bt x0_5 x3_4) == 95) = true := beq_iff_eq.mpr c20
                                    have c20b1 : ((bt x0_5 x3_4) != 95) = false := bne_eq_false_iff_eq.mpr c20
                                    clear c20
                                    have H' := Aside0.mk H
                                    clear H
                                    have p14 : 0 ≤ (x3_4 : Int) := of_decide_eq_true (by first | (with_reducible assumption) | assumption)
                                    have q14 : x3_4 < (x0_5.size : Int) := of_decide_eq_true (by first | (with_reducible assumption) | assumption)
                                    have hx14 := bt_at x0_5 x3_4
                                    replace p14 := eq_true p14
                                    replace q14 := eq_true q14
                                    go_wp2
                                    go_roundg k4
                                    case measure => have := HJ1.out; have := HJ5.out; have := HJ8.out; have := HK4.out; omega
                                    case rel => exact ⟨(wrap64 (x3_4 + 1)), (by first | rfl | (simp; done) | (simp [*]; done)), H', ⟨by have := HJ1.out; have := HJ5.out; have := HJ8.out; have := HK4.out; omega⟩, by repeat (first | exact Drawn0.refl _ | apply Drawn0.step)⟩
                                  · rw [if_neg c20] at H
                                    have c20b0 : ((bt x0_5 x3_4) == 95) = false := beq_eq_false_iff_ne.mpr c20
                                    have c20b1 : ((bt x0_5 x3_4) != 95) = true := bne_iff_ne.mpr c20
                                    by_cases c21 : (bt x0_5 x3_4) < 48
                                    · rw [if_pos c21] at H
                                      have c21b0 : decide ((bt x0_5 x3_4) < 48) = true := decide_eq_true c21
                                      clear c21
                                      obtain rfl := Option.some.inj H
                                      have p14 : 0 ≤ (x3_4 : Int) := of_decide_eq_true (by first | (with_reducible assumption) | assumption)
                                      have q14 : x3_4 < (x0_5.size : Int) := of_decide_eq_true (by first | (with_reducible assumption) | assumption)
                                      have hx14 := bt_at x0_5 x3_4
                                      replace p14 := eq_true p14
                                      replace q14 := eq_true q14
                                      go_wp2
                                      go_ret
                                      exact ⟨by first | rfl | (simp; done) | (simp [*]; done), by repeat (first | exact Drawn0.refl _ | apply Drawn0.step)⟩
                                    · rw [if_neg c21] at H
                                      have c21b0 : decide ((bt x0_5 x3_4) < 48) = false := decide_eq_false c21
                                      clear c21
                                      by_cases c22 : (bt x0_5 x3_4) > 57
                                      · rw [if_pos c22] at H
                                        have c22b0 : decide (57 < (bt x0_5 x3_4)) = true := decide_eq_true c22
                                        clear c22
                                        obtain rfl := Option.some.inj H
                                        have p14 : 0 ≤ (x3_4 : Int) := of_decide_eq_true (by first | (with_reducible assumption) | assumption)
                                        have q14 : x3_4 < (x0_5.size : Int) := of_decide_eq_true (by first | (with_reducible assumption) | assumption)
                                        have hx14 := bt_at x0_5 x3_4
                                        replace p14 := eq_true p14
                                        replace q14 := eq_true q14
                                        go_wp2
                                        go_ret
                                        exact ⟨by first | rfl | (simp; done) | (simp [*]; done), by repeat (first | exact Drawn0.refl _ | apply Drawn0.step)⟩
                                      · rw [if_neg c22] at H
                                        have c22b0 : decide (57 < (bt x0_5 x3_4)) = false := decide_eq_false c22
                                        clear c22
                                        have H' := Aside0.mk H
                                        clear H
                                        have p14 : 0 ≤ (x3_4 : Int) := of_decide_eq_true (by first | (with_reducible assumption) | assumption)
                                        have q14 : x3_4 < (x0_5.size : Int) := of_decide_eq_true (by first | (with_reducible assumption) | assumption)
                                        have hx14 := bt_at x0_5 x3_4
                                        replace p14 := eq_true p14
                                        replace q14 := eq_true q14
                                        go_wp2
                                        go_roundg k4
                                        case measure => have := HJ1.out; have := HJ5.out; have := HJ8.out; have := HK4.out; omega
                                        case rel => exact ⟨(wrap64 (x3_4 + 1)), (by first | rfl | (simp; done) | (simp [*]; done)), H', ⟨by have := HJ1.out; have := HJ5.out; have := HJ8.out; have := HK4.out; omega⟩, by repeat (first | exact Drawn0.refl _ | apply Drawn0.step)⟩
                            · rw [if_neg c17] at H
                              have c17b0 : decide (65 ≤ (bt x0_5 x3_4)) = false := decide_eq_false c17
                              clear c17
                              by_cases c23 : x3_4 = 0
                              · rw [if_pos c23] at H
                                have c23b0 : (x3_4 == 0) = true := beq_iff_eq.mpr c23
                                have c23b1 : (x3_4 != 0) = false := bne_eq_false_iff_eq.mpr c23
                                clear c23
                                obtain rfl := Option.some.inj H
                                have p14 : 0 ≤ (x3_4 : Int) := of_decide_eq_true (by first | (with_reducible assumption) | assumption)
                                have q14 : x3_4 < (x0_5.size : Int) := of_decide_eq_true (by first | (with_reducible assumption) | assumption)
                                have hx14 := bt_at x0_5 x3_4
                                replace p14 := eq_true p14
                                replace q14 := eq_true q14
                                go_wp2
                                go_ret
                                exact ⟨by first | rfl | (simp; done) | (simp [*]; done), by repeat (first | exact Drawn0.refl _ | apply Drawn0.step)⟩
                              · rw [if_neg c23] at H
                                have c23b0 : (x3_4 == 0) = false := beq_eq_false_iff_ne.mpr c23
                                have c23b1 : (x3_4 != 0) = true := bne_iff_ne.mpr c23
                                by_cases c24 : (bt x0_5 x3_4) = 95
                                · rw [if_pos c24] at H
                                  have c24b0 : ((bt x0_5 x3_4) == 95) = true := beq_iff_eq.mpr c24
                                  have c24b1 : ((bt x0_5 x3_4) != 95) = false := bne_eq_false_iff_eq.mpr c24
                                  clear c24
                                  have H' := Aside0.mk H
                                  clear H
                                  have p14 : 0 ≤ (x3_4 : Int) := of_decide_eq_true (by first | (with_reducible assumption) | assumption)
                                  have q14 : x3_4 < (x0_5.size : Int) := of_decide_eq_true (by first | (with_reducible assumption) | assumption)
                                  have hx14 := bt_at x0_5 x3_4
                                  replace p14 := eq_true p14
                                  replace q14 := eq_true q14
                                  go_wp2
                                  go_roundg k4
                                  case measure => have := HJ1.out; have := HJ5.out; have := HJ8.out; have := HK4.out; omega
                                  case rel => exact ⟨(wrap64 (x3_4 + 1)), (by first | rfl | (simp; done) | (simp [*]; done)), H', ⟨by have := HJ1.out; have := HJ5.out; have := HJ8.out; have := HK4.out; omega⟩, by repeat (first | exact Drawn0.refl _ | apply Drawn0.step)⟩
                                · rw [if_neg c24] at H
                                  have c24b0 : ((bt x0_5 x3_4) == 95) = false := beq_eq_false_iff_ne.mpr c24
                                  have c24b1 : ((bt x0_5 x3_4) != 95) = true := bne_iff_ne.mpr c24
                                  by_cases c25 : (bt x0_5 x3_4) < 48
                                  · rw [if_pos c25] at H
                                    have c25b0 : decide ((bt x0_5 x3_4) < 48) = true := decide_eq_true c25
                                    clear c25
                                    obtain rfl := Option.some.inj H
                                    have p14 : 0 ≤ (x3_4 : Int) := of_decide_eq_true (by first | (with_reducible assumption) | assumption)
                                    have q14 : x3_4 < (x0_5.size : Int) := of_decide_eq_true (by first | (with_reducible assumption) | assumption)
                                    have hx14 := bt_at x0_5 x3_4
                                    replace p14 := eq_true p14
                                    replace q14 := eq_true q14
                                    go_wp2
                                    go_ret
                                    exact ⟨by first | rfl | (simp; done) | (simp [*]; done), by repeat (first | exact Drawn0.refl _ | apply Drawn0.step)⟩
                                  · rw [if_neg c25] at H
                                    have c25b0 : decide ((bt x0_5 x3_4) < 48) = false := decide_eq_false c25
                                    clear c25
                                    by_cases c26 : (bt x0_5 x3_4) > 57
                                    · rw [if_pos c26] at H
                                      have c26b0 : decide (57 < (bt x0_5 x3_4)) = true := decide_eq_true c26
                                      clear c26
                                      obtain rfl := Option.some.inj H
                                      have p14 : 0 ≤ (x3_4 : Int) := of_decide_eq_true (by first | (with_reducible assumption) | assumption)
                                      have q14 : x3_4 < (x0_5.size : Int) := of_decide_eq_true (by first | (with_reducible assumption) | assumption)
                                      have hx14 := bt_at x0_5 x3_4
                                      replace p14 := eq_true p14
                                      replace q14 := eq_true q14
                                      go_wp2
                                      go_ret
                                      exact ⟨by first | rfl | (simp; done) | (simp [*]; done), by repeat (first | exact Drawn0.refl _ | apply Drawn0.step)⟩
                                    · rw [if_neg c26] at H
                                      have c26b0 : decide (57 < (bt x0_5 x3_4)) = false := decide_eq_false c26
                                      clear c26
                                      have H' := Aside0.mk H
                                      clear H
                                      have p14 : 0 ≤ (x3_4 : Int) := of_decide_eq_true (by first | (with_reducible assumption) | assumption)
                                      have q14 : x3_4 < (x0_5.size : Int) := of_decide_eq_true (by first | (with_reducible assumption) | assumption)
                                      have hx14 := bt_at x0_5 x3_4
                                      replace p14 := eq_true p14
                                      replace q14 := eq_true q14
                                      go_wp2
                                      go_roundg k4
                                      case measure => have := HJ1.out; have := HJ5.out; have := HJ8.out; have := HK4.out; omega
                                      case rel => exact ⟨(wrap64 (x3_4 + 1)), (by first | rfl | (simp; done) | (simp [*]; done)), H', ⟨by have := HJ1.out; have := HJ5.out; have := HJ8.out; have := HK4.out; omega⟩, by repeat (first | exact Drawn0.refl _ | apply Drawn0.step)⟩
                        · rw [if_neg c15] at H
                          have c15b0 : decide (97 ≤ (bt x0_5 x3_4)) = false := decide_eq_false c15
                          clear c15
                          by_cases c27 : (bt x0_5 x3_4) ≥ 65
                          · rw [if_pos c27] at H
                            have c27b0 : decide (65 ≤ (bt x0_5 x3_4)) = true := decide_eq_true c27
                            clear c27
                            by_cases c28 : ((bt x0_5 x3_4) ≤ 90)
                            · rw [if_pos c28] at H
                              have c28b0 : decide ((bt x0_5 x3_4) ≤ 90) = true := decide_eq_true c28
                              clear c28
                              have H' := Aside0.mk H
                              clear H
                              have p14 : 0 ≤ (x3_4 : Int) := of_decide_eq_true (by first | (with_reducible assumption) | assumption)
                              have q14 : x3_4 < (x0_5.size : Int) := of_decide_eq_true (by first | (with_reducible assumption) | assumption)
                              have hx14 := bt_at x0_5 x3_4
                              replace p14 := eq_true p14
                              replace q14 := eq_true q14
                              go_wp2
                              go_roundg k4
                              case measure => have := HJ1.out; have := HJ5.out; have := HJ8.out; have := HK4.out; omega
                              case rel => exact ⟨(wrap64 (x3_4 + 1)), (by first | rfl | (simp; done) | (simp [*]; done)), H', ⟨by have := HJ1.out; have := HJ5.out; have := HJ8.out; have := HK4.out; omega⟩, by repeat (first | exact Drawn0.refl _ | apply Drawn0.step)⟩
                            · rw [if_neg c28] at H
                              have c28b0 : decide ((bt x0_5 x3_4) ≤ 90) = false := decide_eq_false c28
                              clear c28
                              by_cases c29 : x3_4 = 0
                              · rw [if_pos c29] at H
                                have c29b0 : (x3_4 == 0) = true := beq_iff_eq.mpr c29
                                have c29b1 : (x3_4 != 0) = false := bne_eq_false_iff_eq.mpr c29
                                clear c29
                                obtain rfl := Option.some.inj H
                                have p14 : 0 ≤ (x3_4 : Int) := of_decide_eq_true (by first | (with_reducible assumption) | assumption)
                                have q14 : x3_4 < (x0_5.size : Int) := of_decide_eq_true (by first | (with_reducible assumption) | assumption)
                                have hx14 := bt_at x0_5 x3_4
                                replace p14 := eq_true p14
                                replace q14 := eq_true q14
                                go_wp2
                                go_ret
                                exact ⟨by first | rfl | (simp; done) | (simp [*]; done), by repeat (first | exact Drawn0.refl _ | apply Drawn0.step)⟩
                              · rw [if_neg c29] at H
                                have c29b0 : (x3_4 == 0) = false := beq_eq_false_iff_ne.mpr c29
                                have c29b1 : (x3_4 != 0) = true := bne_iff_ne.mpr c29
                                by_cases c30 : (bt x0_5 x3_4) = 95
                                · rw [if_pos c30] at H
                                  have c30b0 : ((bt x0_5 x3_4) == 95) = true := beq_iff_eq.mpr c30
                                  have c30b1 : ((bt x0_5 x3_4) != 95) = false := bne_eq_false_iff_eq.mpr c30
                                  clear c30
                                  have H' := Aside0.mk H
                                  clear H
                                  have p14 : 0 ≤ (x3_4 : Int) := of_decide_eq_true (by first | (with_reducible assumption) | assumption)
                                  have q14 : x3_4 < (x0_5.size : Int) := of_decide_eq_true (by first | (with_reducible assumption) | assumption)
                                  have hx14 := bt_at x0_5 x3_4
                                  replace p14 := eq_true p14
                                  replace q14 := eq_true q14
                                  go_wp2
                                  go_roundg k4
                                  case measure => have := HJ1.out; have := HJ5.out; have := HJ8.out; have := HK4.out; omega
                                  case rel => exact ⟨(wrap64 (x3_4 + 1)), (by first | rfl | (simp; done) | (simp [*]; done)), H', ⟨by have := HJ1.out; have := HJ5.out; have := HJ8.out; have := HK4.out; omega⟩, by repeat (first | exact Drawn0.refl _ | apply Drawn0.step)⟩
                                · rw [if_neg c30] at H
                                  have c30b0 : ((bt x0_5 x3_4) == 95) = false := beq_eq_false_iff_ne.mpr c30
                                  have c30b1 : ((bt x0_5 x3_4) != 95) = true := bne_iff_ne.mpr c30
                                  by_cases c31 : (bt x0_5 x3_4) < 48
                                  · rw [if_pos c31] at H
                                    have c31b0 : decide ((bt x0_5 x3_4) < 48) = true := decide_eq_true c31
                                    clear c31
                                    obtain rfl := Option.some.inj H
                                    have p14 : 0 ≤ (x3_4 : Int) := of_decide_eq_true (by first | (with_reducible assumption) | assumption)
                                    have q14 : x3_4 < (x0_5.size : Int) := of_decide_eq_true (by first | (with_reducible assumption) | assumption)
                                    have hx14 := bt_at x0_5 x3_4
                                    replace p14 := eq_true p14
                                    replace q14 := eq_true q14
                                    go_wp2
                                    go_ret
                                    exact ⟨by first | rfl | (simp; done) | (simp [*]; done), by repeat (first | exact Drawn0.refl _ | apply Drawn0.step)⟩
                                  · rw [if_neg c31] at H
                                    have c31b0 : decide ((bt x0_5 x3_4) < 48) = false := decide_eq_false c31
                                    clear c31
                                    by_cases c32 : (bt x0_5 x3_4) > 57
                                    · rw [if_pos c32] at H
                                      have c32b0 : decide (57 < (bt x0_5 x3_4)) = true := decide_eq_true c32
                                      clear c32
                                      obtain rfl := Option.some.inj H
                                      have p14 : 0 ≤ (x3_4 : Int) := of_decide_eq_true (by first | (with_reducible assumption) | assumption)
                                      have q14 : x3_4 < (x0_5.size : Int) := of_decide_eq_true (by first | (with_reducible assumption) | assumption)
                                      have hx14 := bt_at x0_5 x3_4
                                      replace p14 := eq_true p14
                                      replace q14 := eq_true q14
                                      go_wp2
                                      go_ret
                                      exact ⟨by first | rfl | (simp; done) | (simp [*]; done), by repeat (first | exact Drawn0.refl _ | apply Drawn0.step)⟩
                                    · rw [if_neg c32] at H
                                      have c32b0 : decide (57 < (bt x0_5 x3_4)) = false := decide_eq_false c32
                                      clear c32
                                      have H' := Aside0.mk H
                                      clear H
                                      have p14 : 0 ≤ (x3_4 : Int) := of_decide_eq_true (by first | (with_reducible assumption) | assumption)
                                      have q14 : x3_4 < (x0_5.size : Int) := of_decide_eq_true (by first | (with_reducible assumption) | assumption)
                                      have hx14 := bt_at x0_5 x3_4
                                      replace p14 := eq_true p14
                                      replace q14 := eq_true q14
                                      go_wp2
                                      go_roundg k4
                                      case measure => have := HJ1.out; have := HJ5.out; have := HJ8.out; have := HK4.out; omega
                                      case rel => exact ⟨(wrap64 (x3_4 + 1)), (by first | rfl | (simp; done) | (simp [*]; done)), H', ⟨by have := HJ1.out; have := HJ5.out; have := HJ8.out; have := HK4.out; omega⟩, by repeat (first | exact Drawn0.refl _ | apply Drawn0.step)⟩
                          · rw [if_neg c27] at H
                            have c27b0 : decide (65 ≤ (bt x0_5 x3_4)) = false := decide_eq_false c27
                            clear c27
                            by_cases c33 : x3_4 = 0
                            · rw [if_pos c33] at H
                              have c33b0 : (x3_4 == 0) = true := beq_iff_eq.mpr c33
                              have c33b1 : (x3_4 != 0) = false := bne_eq_false_iff_eq.mpr c33
                              clear c33
                              obtain rfl := Option.some.inj H
                              have p14 : 0 ≤ (x3_4 : Int) := of_decide_eq_true (by first | (with_reducible assumption) | assumption)
                              have q14 : x3_4 < (x0_5.size : Int) := of_decide_eq_true (by first | (with_reducible assumption) | assumption)
                              have hx14 := bt_at x0_5 x3_4
                              replace p14 := eq_true p14
                              replace q14 := eq_true q14
                              go_wp2
                              go_ret
                              exact ⟨by first | rfl | (simp; done) | (simp [*]; done), by repeat (first | exact Drawn0.refl _ | apply Drawn0.step)⟩
                            · rw [if_neg c33] at H
                              have c33b0 : (x3_4 == 0) = false := beq_eq_false_iff_ne.mpr c33
                              have c33b1 : (x3_4 != 0) = true := bne_iff_ne.mpr c33
                              by_cases c34 : (bt x0_5 x3_4) = 95
                              · rw [if_pos c34] at H
                                have c34b0 : ((bt x0_5 x3_4) == 95) = true := beq_iff_eq.mpr c34
                                have c34b1 : ((bt x0_5 x3_4) != 95) = false := bne_eq_false_iff_eq.mpr c34
                                clear c34
                                have H' := Aside0.mk H
                                clear H
                                have p14 : 0 ≤ (x3_4 : Int) := of_decide_eq_true (by first | (with_reducible assumption) | assumption)
                                have q14 : x3_4 < (x0_5.size : Int) := of_decide_eq_true (by first | (with_reducible assumption) | assumption)
                                have hx14 := bt_at x0_5 x3_4
                                replace p14 := eq_true p14
                                replace q14 := eq_true q14
                                go_wp2
                                go_roundg k4
                                case measure => have := HJ1.out; have := HJ5.out; have := HJ8.out; have := HK4.out; omega
                                case rel => exact ⟨(wrap64 (x3_4 + 1)), (by first | rfl | (simp; done) | (simp [*]; done)), H', ⟨by have := HJ1.out; have := HJ5.out; have := HJ8.out; have := HK4.out; omega⟩, by repeat (first | exact Drawn0.refl _ | apply Drawn0.step)⟩
                              · rw [if_neg c34] at H
                                have c34b0 : ((bt x0_5 x3_4) == 95) = false := beq_eq_false_iff_ne.mpr c34
                                have c34b1 : ((bt x0_5 x3_4) != 95) = true := bne_iff_ne.mpr c34
                                by_cases c35 : (bt x0_5 x3_4) < 48
                                · rw [if_pos c35] at H
                                  have c35b0 : decide ((bt x0_5 x3_4) < 48) = true := decide_eq_true c35
                                  clear c35
                                  obtain rfl := Option.some.inj H
                                  have p14 : 0 ≤ (x3_4 : Int) := of_decide_eq_true (by first | (with_reducible assumption) | assumption)
                                  have q14 : x3_4 < (x0_5.size : Int) := of_decide_eq_true (by first | (with_reducible assumption) | assumption)
                                  have hx14 := bt_at x0_5 x3_4
                                  replace p14 := eq_true p14
                                  replace q14 := eq_true q14
                                  go_wp2
                                  go_ret
                                  exact ⟨by first | rfl | (simp; done) | (simp [*]; done), by repeat (first | exact Drawn0.refl _ | apply Drawn0.step)⟩
                                · rw [if_neg c35] at H
                                  have c35b0 : decide ((bt x0_5 x3_4) < 48) = false := decide_eq_false c35
                                  clear c35
                                  by_cases c36 : (bt x0_5 x3_4) > 57
                                  · rw [if_pos c36] at H
                                    have c36b0 : decide (57 < (bt x0_5 x3_4)) = true := decide_eq_true c36
                                    clear c36
                                    obtain rfl := Option.some.inj H
                                    have p14 : 0 ≤ (x3_4 : Int) := of_decide_eq_true (by first | (with_reducible assumption) | assumption)
                                    have q14 : x3_4 < (x0_5.size : Int) := of_decide_eq_true (by first | (with_reducible assumption) | assumption)
                                    have hx14 := bt_at x0_5 x3_4
                                    replace p14 := eq_true p14
                                    replace q14 := eq_true q14
                                    go_wp2
                                    go_ret
                                    exact ⟨by first | rfl | (simp; done) | (simp [*]; done), by repeat (first | exact Drawn0.refl _ | apply Drawn0.step)⟩
                                  · rw [if_neg c36] at H
                                    have c36b0 : decide (57 < (bt x0_5 x3_4)) = false := decide_eq_false c36
                                    clear c36
                                    have H' := Aside0.mk H
                                    clear H
                                    have p14 : 0 ≤ (x3_4 : Int) := of_decide_eq_true (by first | (with_reducible assumption) | assumption)
                                    have q14 : x3_4 < (x0_5.size : Int) := of_decide_eq_true (by first | (with_reducible assumption) | assumption)
                                    have hx14 := bt_at x0_5 x3_4
                                    replace p14 := eq_true p14
                                    replace q14 := eq_true q14
                                    go_wp2
                                    go_roundg k4
                                    case measure => have := HJ1.out; have := HJ5.out; have := HJ8.out; have := HK4.out; omega
                                    case rel => exact ⟨(wrap64 (x3_4 + 1)), (by first | rfl | (simp; done) | (simp [*]; done)), H', ⟨by have := HJ1.out; have := HJ5.out; have := HJ8.out; have := HK4.out; omega⟩, by repeat (first | exact Drawn0.refl _ | apply Drawn0.step)⟩
                      · rw [if_neg c13] at H
                        exact absurd H (by simp)
                    · rw [if_neg c12] at H
                      have c12b0 : decide (x3_4 < (x0_5.size : Int)) = false := decide_eq_false c12
                      clear c12
                      obtain rfl := Option.some.inj H
                      go_wp2
                      go_ret
                      exact ⟨by first | rfl | (simp; done) | (simp [*]; done), by repeat (first | exact Drawn0.refl _ | apply Drawn0.step)⟩
end Go.Proofs.Ytlopfkkegjajlaa.PHistoryTouched
namespace Go.Proofs.Ytlopfkkegjajlaa.PHistoryTouched
open Go.RowKit Go.Proofs.YtlopfkkegjajlaaW.PrintWords Go.Proofs.YtlopfkkegjajlaaW.PrintLast Go.Proofs.YtlopfkkegjajlaaW.PrintMore
attribute [local go_sem] max2_int min2_int max_two min_two max_three min_three max_four min_four   
set_option linter.unusedVariables false
set_option linter.unusedSimpArgs false
def topiaryref02_At.l0 : Nat → Int → Int → Int → Int → List (S76) → Option (Int)
  | 0, _, _, _, _, _ => none
  | k + 1, x1, x5, x6, x317000, x317001 => if x5 < x6 then (if 0 ≤ (wrap64 (Int.tdiv (wrap64 (x5 + x6)) 2)) then (if (wrap64 (Int.tdiv (wrap64 (x5 + x6)) 2)) < (x317001.length : Int) then (if ((rd_T76 x317001 (wrap64 (Int.tdiv (wrap64 (x5 + x6)) 2))).f0) < x1 then (topiaryref02_At.l0 k x1 (wrap64 ((wrap64 (Int.tdiv (wrap64 (x5 + x6)) 2)) + 1)) x6 x317000 x317001) else (topiaryref02_At.l0 k x1 x5 (wrap64 (Int.tdiv (wrap64 (x5 + x6)) 2)) x317000 x317001)) else (none)) else (none)) else (if x5 < (x317001.length : Int) then (if 0 ≤ x5 then (if ((rd_T76 x317001 x5).f0) = x1 then (some x5) else (some (-1))) else (none)) else (some (-1)))
def topiaryref02_At.f (k : Nat) (a0_0 : Int) (l0_1 : List (S76)) (a1 : Int) : Option (Int) := topiaryref02_At.l0 k a1 0 (l0_1.length : Int) a0_0 l0_1
theorem topiaryref02_At.mono_l : ∀ k, (∀ y0 y1 y2 y3 y4, LeO (topiaryref02_At.l0 k y0 y1 y2 y3 y4) (topiaryref02_At.l0 (k + 1) y0 y1 y2 y3 y4))
  | 0 => fun _ _ _ _ _ r h => by simp [topiaryref02_At.l0] at h
  | k + 1 => by
    have ih0 := topiaryref02_At.mono_l k
    · intro y0 y1 y2 y3 y4
      unfold topiaryref02_At.l0
      repeat' first
      | (with_reducible exact ih0 _ _ _ _ _)
      | (with_reducible exact LeO.refl _)
      | (with_reducible exact LeO.none _)
      | (with_reducible refine LeO.ite ?_ ?_)
      | (with_reducible refine LeO.bind ?_ (fun _ => ?_))
      | exact ih0 _ _ _ _ _
      | exact LeO.none _
      | refine LeO.ite ?_ ?_
      | refine LeO.bind ?_ (fun _ => ?_)
theorem topiaryref02_At.mono : ∀ a0 a1 a2 k, LeO (topiaryref02_At.f k a0 a1 a2) (topiaryref02_At.f (k + 1) a0 a1 a2) := by
  intro a0 a1 a2 k
  have ih0 := topiaryref02_At.mono_l k
  unfold topiaryref02_At.f
  repeat' first
      | (with_reducible exact ih0 _ _ _ _ _)
      | (with_reducible exact LeO.refl _)
      | (with_reducible exact LeO.none _)
      | (with_reducible refine LeO.ite ?_ ?_)
      | (with_reducible refine LeO.bind ?_ (fun _ => ?_))
      | exact ih0 _ _ _ _ _
      | exact LeO.none _
      | refine LeO.ite ?_ ?_
      | refine LeO.bind ?_ (fun _ => ?_)
set_option maxHeartbeats 8000000 in
set_option maxRecDepth 100000 in
theorem topiaryref02_At.calls (k : Nat) (a0_0 : Int) (A0_1 : Option Addr) (c0_1 : Nat) (l0_1 : List (S76)) (a1 : Int) (r : Int) (w : World) (hr0_1 : Kd.C k76 w A0_1 l0_1.length l0_1) (hc0_1 : l0_1.length ≤ c0_1) (h : topiaryref02_At.f k a0_0 l0_1 a1 = some r) :
    Calls Try.prog 84 #[.agg #[.int .i64 a0_0, .slice A0_1 l0_1.length c0_1], .int .i64 a1] w fun e w' => e = .returned (.int .i64 r) ∧ Below w.heap.size w w' := by
  have hu27 := Try.underlying27
  have HR0_1 := Aside0.mk hr0_1
  have HC0_1 := Aside0.mk hc0_1
  clear hr0_1 hc0_1
  have HB := Aside0.mk (Below.refl w.heap.size w)
  have H : (topiaryref02_At.l0 k a1 0 (l0_1.length : Int) a0_0 l0_1) = some r := h
  clear h
  have H' := Aside0.mk H
  clear H
  go_enter Try.func84, Try.ntmps84
  go_wp2_with (first | ((with_reducible refine gate_dst (N := 2) rfl ?_); refine box_event ?hg (N := 2) ?hd (cs := #[.int .i64 a0_0, .slice A0_1 l0_1.length c0_1]) (t := 27) ?hr ?_; (case hd => rfl); (case hg => rfl); (case hr => first | (go_simp; done) | (go_simp; rfl)); intro gb316 hg w3 hbox hb; have n0_ := Aside0.mk (below_step (by repeat (first | (with_reducible first | exact HB.out | apply below_alloc | apply pw_below_drewN | apply below_drew1) | exact HB.out)) hb); have n1_ := Aside0.mk (hbox); have n2_ := Aside0.mk ((by rw [hg]; exact (below_size (by repeat (first | (with_reducible first | exact HB.out | apply below_alloc | apply pw_below_drewN | apply below_drew1) | exact HB.out))) : w.heap.size ≤ gb316)); have n3_ := Aside0.mk ((by rw [hg]; exact (below_size (by repeat (first | (with_reducible first | exact HB.out | apply below_alloc | apply pw_below_drewN | apply below_drew1) | exact HB.out))) : w.heap.size ≤ gb316)); clear HB; have HB := n0_; have BK316 := n1_; have GW316 := n2_; have GE316 := n3_; clear n0_ n1_ n2_ n3_; clear hb hbox hg; have hcz4_0 : w3.cell? ⟨gb316, 0, none⟩ = some (.int .i64 a0_0) := (blk_cell BK316.out 0).trans rfl; have hcz4_1 : w3.cell? ⟨gb316, 1, none⟩ = some (.slice A0_1 l0_1.length c0_1) := (blk_cell BK316.out 1).trans rfl; have hfz4_0 := blk_frozen BK316.out 0; have hfz4_1 := blk_frozen BK316.out 1))
  repeat (go_quiet (first | ((with_reducible refine gate_dst (N := 2) rfl ?_); refine box_event ?hg (N := 2) ?hd (cs := #[.int .i64 a0_0, .slice A0_1 l0_1.length c0_1]) (t := 27) ?hr ?_; (case hd => rfl); (case hg => rfl); (case hr => first | (go_simp; done) | (go_simp; rfl)); intro gb316 hg w3 hbox hb; have n0_ := Aside0.mk (below_step (by repeat (first | (with_reducible first | exact HB.out | apply below_alloc | apply pw_below_drewN | apply below_drew1) | exact HB.out)) hb); have n1_ := Aside0.mk (hbox); have n2_ := Aside0.mk ((by rw [hg]; exact (below_size (by repeat (first | (with_reducible first | exact HB.out | apply below_alloc | apply pw_below_drewN | apply below_drew1) | exact HB.out))) : w.heap.size ≤ gb316)); have n3_ := Aside0.mk ((by rw [hg]; exact (below_size (by repeat (first | (with_reducible first | exact HB.out | apply below_alloc | apply pw_below_drewN | apply below_drew1) | exact HB.out))) : w.heap.size ≤ gb316)); clear HB; have HB := n0_; have BK316 := n1_; have GW316 := n2_; have GE316 := n3_; clear n0_ n1_ n2_ n3_; clear hb hbox hg; have hcz4_0 : w3.cell? ⟨gb316, 0, none⟩ = some (.int .i64 a0_0) := (blk_cell BK316.out 0).trans rfl; have hcz4_1 : w3.cell? ⟨gb316, 1, none⟩ = some (.slice A0_1 l0_1.length c0_1) := (blk_cell BK316.out 1).trans rfl; have hfz4_0 := blk_frozen BK316.out 0; have hfz4_1 := blk_frozen BK316.out 1)); try go_wp2_with (first | ((with_reducible refine gate_dst (N := 2) rfl ?_); refine box_event ?hg (N := 2) ?hd (cs := #[.int .i64 a0_0, .slice A0_1 l0_1.length c0_1]) (t := 27) ?hr ?_; (case hd => rfl); (case hg => rfl); (case hr => first | (go_simp; done) | (go_simp; rfl)); intro gb316 hg w3 hbox hb; have n0_ := Aside0.mk (below_step (by repeat (first | (with_reducible first | exact HB.out | apply below_alloc | apply pw_below_drewN | apply below_drew1) | exact HB.out)) hb); have n1_ := Aside0.mk (hbox); have n2_ := Aside0.mk ((by rw [hg]; exact (below_size (by repeat (first | (with_reducible first | exact HB.out | apply below_alloc | apply pw_below_drewN | apply below_drew1) | exact HB.out))) : w.heap.size ≤ gb316)); have n3_ := Aside0.mk ((by rw [hg]; exact (below_size (by repeat (first | (with_reducible first | exact HB.out | apply below_alloc | apply pw_below_drewN | apply below_drew1) | exact HB.out))) : w.heap.size ≤ gb316)); clear HB; have HB := n0_; have BK316 := n1_; have GW316 := n2_; have GE316 := n3_; clear n0_ n1_ n2_ n3_; clear hb hbox hg; have hcz4_0 : w3.cell? ⟨gb316, 0, none⟩ = some (.int .i64 a0_0) := (blk_cell BK316.out 0).trans rfl; have hcz4_1 : w3.cell? ⟨gb316, 1, none⟩ = some (.slice A0_1 l0_1.length c0_1) := (blk_cell BK316.out 1).trans rfl; have hfz4_0 := blk_frozen BK316.out 0; have hfz4_1 := blk_frozen BK316.out 1)))
  go_loopg [5, 6] k (fun kq v5 v6 w' => ∃ (x5_1 : Int) (x6_1 : Int), v5 = .int .i64 x5_1 ∧ v6 = .int .i64 x6_1 ∧ Aside0 (topiaryref02_At.l0 kq a1 x5_1 x6_1 a0_0 l0_1 = some r) ∧ Aside0 (kq ≤ k) ∧ Aside0 (w'.heap[gb316]? = some (.cells #[.int .i64 a0_0, (.slice A0_1 l0_1.length c0_1)] 27 (0, 0))) ∧ Aside0 (Below w.heap.size w w'))
  case atStart => exact ⟨(0), ((l0_1.length : Int)), (by first | rfl | (simp; done) | (simp [*]; done)), (by first | rfl | (simp; done) | (simp [*]; done)), H', ⟨Nat.le_refl _⟩, ⟨by (with_reducible repeat (first | refine blk_drewN ?_ _ | refine blk_drew ?_ | refine blk_alloc ?_ _)); exact BK316.out⟩, ⟨by repeat (first | (with_reducible first | exact HB.out | apply below_alloc | apply pw_below_drewN | apply below_drew1 | refine below_set ?_ GE316.out) | exact HB.out)⟩⟩
  case round =>
    clear H'
    try clear p2
    try clear hcz4_0
    try clear hcz4_1
    try clear hfz4_0
    try clear hfz4_1
    obtain ⟨x5_1, x6_1, rfl, rfl, HA, HK1, BK316, HB⟩ := hrel
    cases gk with
    | zero => exact absurd HA.out (by simp [topiaryref02_At.l0])
    | succ k1 =>
      have H := HA.out
      clear HA
      simp only [topiaryref02_At.l0] at H
      by_cases c5 : x5_1 < x6_1
      · rw [if_pos c5] at H
        have c5b0 : decide (x5_1 < x6_1) = true := decide_eq_true c5
        clear c5
        obtain ⟨ji6, hji6⟩ : ∃ j_ : Int, (wrap64 (Int.tdiv (wrap64 (x5_1 + x6_1)) 2)) = j_ := ⟨_, rfl⟩
        replace H : (if 0 ≤ (ji6) then (if (ji6) < (l0_1.length : Int) then (if ((rd_T76 l0_1 (ji6)).f0) < a1 then (topiaryref02_At.l0 k1 a1 (wrap64 ((ji6) + 1)) x6_1 a0_0 l0_1) else (topiaryref02_At.l0 k1 a1 x5_1 ji6 a0_0 l0_1)) else (none)) else (none)) = some r := by first | (rw [hji6] at H; exact H) | (simp only [hji6] at H ⊢; exact H)
        have hji6w : (IntKind.i64.wrap (Int.tdiv (wrap64 (x5_1 + x6_1)) 2)) = ji6 := (i64_w _).trans hji6
        by_cases c7 : 0 ≤ (ji6)
        · rw [if_pos c7] at H
          have c7b0 : decide (0 ≤ (ji6)) = true := decide_eq_true c7
          clear c7
          by_cases c8 : (ji6) < (l0_1.length : Int)
          · rw [if_pos c8] at H
            have c8b0 : decide ((ji6) < (l0_1.length : Int)) = true := decide_eq_true c8
            clear c8
            by_cases c9 : ((rd_T76 l0_1 (ji6)).f0) < a1
            · rw [if_pos c9] at H
              have c9b0 : decide (((rd_T76 l0_1 (ji6)).f0) < a1) = true := decide_eq_true c9
              clear c9
              have H' := Aside0.mk H
              clear H
              have hcz10_0 : wr.cell? ⟨gb316, 0, none⟩ = some (.int .i64 a0_0) := (blk_cell BK316.out 0).trans rfl
              have hcz10_1 : wr.cell? ⟨gb316, 1, none⟩ = some (.slice A0_1 l0_1.length c0_1) := (blk_cell BK316.out 1).trans rfl
              have hfz10_0 := blk_frozen BK316.out 0
              have hfz10_1 := blk_frozen BK316.out 1
              have p317 : 0 ≤ ((ji6) : Int) := of_decide_eq_true (by first | (with_reducible assumption) | assumption)
              have q317 : (ji6) < (l0_1.length : Int) := of_decide_eq_true (by first | (with_reducible assumption) | assumption)
              obtain ⟨ad317, A317_4, c317_4, A317_5, c317_5, A317_6, c317_6, e317, hx317_0, hx317_1, hx317_2, hx317_3, hx317_4, hx317_5, hx317_6, hl317_4, hi317_4, hl317_5, hi317_5, hl317_6, hi317_6⟩ := at_T76 HR0_1.out (ji6) p317 q317
              cases e317
              replace hx317_0 := (HB.out.cell (World.block_lt_of_cell? w _ hx317_0)).trans hx317_0
              replace hx317_1 := (HB.out.cell (World.block_lt_of_cell? w _ hx317_1)).trans hx317_1
              replace hx317_2 := (HB.out.cell (World.block_lt_of_cell? w _ hx317_2)).trans hx317_2
              replace hx317_3 := (HB.out.cell (World.block_lt_of_cell? w _ hx317_3)).trans hx317_3
              replace hx317_4 := (HB.out.cell (World.block_lt_of_cell? w _ hx317_4)).trans hx317_4
              replace hx317_5 := (HB.out.cell (World.block_lt_of_cell? w _ hx317_5)).trans hx317_5
              replace hx317_6 := (HB.out.cell (World.block_lt_of_cell? w _ hx317_6)).trans hx317_6
              have HR317_4 := Aside0.mk hi317_4
              have HC317_4 := Aside0.mk hl317_4
              clear hi317_4 hl317_4
              have HR317_5 := Aside0.mk hi317_5
              have HC317_5 := Aside0.mk hl317_5
              clear hi317_5 hl317_5
              have HR317_6 := Aside0.mk hi317_6
              have HC317_6 := Aside0.mk hl317_6
              clear hi317_6 hl317_6
              replace p317 := eq_true p317
              replace q317 := eq_true q317
              go_wp2
              repeat (go_quiet (fail); try go_wp2)
              go_roundg k1
              case measure => have := HK1.out; omega
              case rel => exact ⟨(wrap64 ((ji6) + 1)), (x6_1), (by first | rfl | (simp; done) | (simp only [← hji6] <;> (first | rfl | simp)) | (simp [*]; done)), (by first | rfl | (simp; done) | (simp [*]; done)), H', ⟨by have := HK1.out; omega⟩, ⟨by (with_reducible repeat (first | refine blk_drewN ?_ _ | refine blk_drew ?_ | refine blk_alloc ?_ _)); exact BK316.out⟩, ⟨by repeat (first | (with_reducible first | exact HB.out | apply below_alloc | apply pw_below_drewN | apply below_drew1 | refine below_set ?_ GE316.out) | exact HB.out)⟩⟩
            · rw [if_neg c9] at H
              have c9b0 : decide (((rd_T76 l0_1 (ji6)).f0) < a1) = false := decide_eq_false c9
              clear c9
              have H' := Aside0.mk H
              clear H
              have hcz11_0 : wr.cell? ⟨gb316, 0, none⟩ = some (.int .i64 a0_0) := (blk_cell BK316.out 0).trans rfl
              have hcz11_1 : wr.cell? ⟨gb316, 1, none⟩ = some (.slice A0_1 l0_1.length c0_1) := (blk_cell BK316.out 1).trans rfl
              have hfz11_0 := blk_frozen BK316.out 0
              have hfz11_1 := blk_frozen BK316.out 1
              have p317 : 0 ≤ ((ji6) : Int) := of_decide_eq_true (by first | (with_reducible assumption) | assumption)
              have q317 : (ji6) < (l0_1.length : Int) := of_decide_eq_true (by first | (with_reducible assumption) | assumption)
              obtain ⟨ad317, A317_4, c317_4, A317_5, c317_5, A317_6, c317_6, e317, hx317_0, hx317_1, hx317_2, hx317_3, hx317_4, hx317_5, hx317_6, hl317_4, hi317_4, hl317_5, hi317_5, hl317_6, hi317_6⟩ := at_T76 HR0_1.out (ji6) p317 q317
              cases e317
              replace hx317_0 := (HB.out.cell (World.block_lt_of_cell? w _ hx317_0)).trans hx317_0
              replace hx317_1 := (HB.out.cell (World.block_lt_of_cell? w _ hx317_1)).trans hx317_1
              replace hx317_2 := (HB.out.cell (World.block_lt_of_cell? w _ hx317_2)).trans hx317_2
              replace hx317_3 := (HB.out.cell (World.block_lt_of_cell? w _ hx317_3)).trans hx317_3
              replace hx317_4 := (HB.out.cell (World.block_lt_of_cell? w _ hx317_4)).trans hx317_4
              replace hx317_5 := (HB.out.cell (World.block_lt_of_cell? w _ hx317_5)).trans hx317_5
              replace hx317_6 := (HB.out.cell (World.block_lt_of_cell? w _ hx317_6)).trans hx317_6
              have HR317_4 := Aside0.mk hi317_4
              have HC317_4 := Aside0.mk hl317_4
              clear hi317_4 hl317_4
              have HR317_5 := Aside0.mk hi317_5
              have HC317_5 := Aside0.mk hl317_5
              clear hi317_5 hl317_5
              have HR317_6 := Aside0.mk hi317_6
              have HC317_6 := Aside0.mk hl317_6
              clear hi317_6 hl317_6
              replace p317 := eq_true p317
              replace q317 := eq_true q317
              go_wp2
              repeat (go_quiet (fail); try go_wp2)
              go_roundg k1
              case measure => have := HK1.out; omega
              case rel => exact ⟨(x5_1), (ji6), (by first | rfl | (simp; done) | (simp [*]; done)), (by first | rfl | (simp; done) | (simp only [← hji6] <;> (first | rfl | simp)) | (simp [*]; done)), H', ⟨by have := HK1.out; omega⟩, ⟨by (with_reducible repeat (first | refine blk_drewN ?_ _ | refine blk_drew ?_ | refine blk_alloc ?_ _)); exact BK316.out⟩, ⟨by repeat (first | (with_reducible first | exact HB.out | apply below_alloc | apply pw_below_drewN | apply below_drew1 | refine below_set ?_ GE316.out) | exact HB.out)⟩⟩
          · rw [if_neg c8] at H
            exact absurd H (by simp)
        · rw [if_neg c7] at H
          exact absurd H (by simp)
      · rw [if_neg c5] at H
        have c5b0 : decide (x5_1 < x6_1) = false := decide_eq_false c5
        clear c5
        by_cases c12 : x5_1 < (l0_1.length : Int)
        · rw [if_pos c12] at H
          have c12b0 : decide (x5_1 < (l0_1.length : Int)) = true := decide_eq_true c12
          clear c12
          by_cases c13 : 0 ≤ x5_1
          · rw [if_pos c13] at H
            have c13b0 : decide (0 ≤ x5_1) = true := decide_eq_true c13
            clear c13
            by_cases c14 : ((rd_T76 l0_1 x5_1).f0) = a1
            · rw [if_pos c14] at H
              have c14b0 : (((rd_T76 l0_1 x5_1).f0) == a1) = true := beq_iff_eq.mpr c14
              have c14b1 : (((rd_T76 l0_1 x5_1).f0) != a1) = false := bne_eq_false_iff_eq.mpr c14
              clear c14
              obtain rfl := Option.some.inj H
              have hcz15_0 : wr.cell? ⟨gb316, 0, none⟩ = some (.int .i64 a0_0) := (blk_cell BK316.out 0).trans rfl
              have hcz15_1 : wr.cell? ⟨gb316, 1, none⟩ = some (.slice A0_1 l0_1.length c0_1) := (blk_cell BK316.out 1).trans rfl
              have hfz15_0 := blk_frozen BK316.out 0
              have hfz15_1 := blk_frozen BK316.out 1
              have p318 : 0 ≤ (x5_1 : Int) := of_decide_eq_true (by first | (with_reducible assumption) | assumption)
              have q318 : x5_1 < (l0_1.length : Int) := of_decide_eq_true (by first | (with_reducible assumption) | assumption)
              obtain ⟨ad318, A318_4, c318_4, A318_5, c318_5, A318_6, c318_6, e318, hx318_0, hx318_1, hx318_2, hx318_3, hx318_4, hx318_5, hx318_6, hl318_4, hi318_4, hl318_5, hi318_5, hl318_6, hi318_6⟩ := at_T76 HR0_1.out x5_1 p318 q318
              cases e318
              replace hx318_0 := (HB.out.cell (World.block_lt_of_cell? w _ hx318_0)).trans hx318_0
              replace hx318_1 := (HB.out.cell (World.block_lt_of_cell? w _ hx318_1)).trans hx318_1
              replace hx318_2 := (HB.out.cell (World.block_lt_of_cell? w _ hx318_2)).trans hx318_2
              replace hx318_3 := (HB.out.cell (World.block_lt_of_cell? w _ hx318_3)).trans hx318_3
              replace hx318_4 := (HB.out.cell (World.block_lt_of_cell? w _ hx318_4)).trans hx318_4
              replace hx318_5 := (HB.out.cell (World.block_lt_of_cell? w _ hx318_5)).trans hx318_5
              replace hx318_6 := (HB.out.cell (World.block_lt_of_cell? w _ hx318_6)).trans hx318_6
              have HR318_4 := Aside0.mk hi318_4
              have HC318_4 := Aside0.mk hl318_4
              clear hi318_4 hl318_4
              have HR318_5 := Aside0.mk hi318_5
              have HC318_5 := Aside0.mk hl318_5
              clear hi318_5 hl318_5
              have HR318_6 := Aside0.mk hi318_6
              have HC318_6 := Aside0.mk hl318_6
              clear hi318_6 hl318_6
              replace p318 := eq_true p318
              replace q318 := eq_true q318
              go_wp2
              repeat (go_quiet (fail); try go_wp2)
              go_ret
              exact ⟨by first | rfl | (simp [errW_none, errW_some] <;> rfl) | (simp [*, errW_none, errW_some] <;> rfl), by repeat (first | (with_reducible first | exact HB.out | apply below_alloc | apply pw_below_drewN | apply below_drew1 | refine below_set ?_ GE316.out) | exact HB.out)⟩
            · rw [if_neg c14] at H
              have c14b0 : (((rd_T76 l0_1 x5_1).f0) == a1) = false := beq_eq_false_iff_ne.mpr c14
              have c14b1 : (((rd_T76 l0_1 x5_1).f0) != a1) = true := bne_iff_ne.mpr c14
              obtain rfl := Option.some.inj H
              have hcz16_0 : wr.cell? ⟨gb316, 0, none⟩ = some (.int .i64 a0_0) := (blk_cell BK316.out 0).trans rfl
              have hcz16_1 : wr.cell? ⟨gb316, 1, none⟩ = some (.slice A0_1 l0_1.length c0_1) := (blk_cell BK316.out 1).trans rfl
              have hfz16_0 := blk_frozen BK316.out 0
              have hfz16_1 := blk_frozen BK316.out 1
              have p318 : 0 ≤ (x5_1 : Int) := of_decide_eq_true (by first | (with_reducible assumption) | assumption)
              have q318 : x5_1 < (l0_1.length : Int) := of_decide_eq_true (by first | (with_reducible assumption) | assumption)
              obtain ⟨ad318, A318_4, c318_4, A318_5, c318_5, A318_6, c318_6, e318, hx318_0, hx318_1, hx318_2, hx318_3, hx318_4, hx318_5, hx318_6, hl318_4, hi318_4, hl318_5, hi318_5, hl318_6, hi318_6⟩ := at_T76 HR0_1.out x5_1 p318 q318
              cases e318
              replace hx318_0 := (HB.out.cell (World.block_lt_of_cell? w _ hx318_0)).trans hx318_0
              replace hx318_1 := (HB.out.cell (World.block_lt_of_cell? w _ hx318_1)).trans hx318_1
              replace hx318_2 := (HB.out.cell (World.block_lt_of_cell? w _ hx318_2)).trans hx318_2
              replace hx318_3 := (HB.out.cell (World.block_lt_of_cell? w _ hx318_3)).trans hx318_3
              replace hx318_4 := (HB.out.cell (World.block_lt_of_cell? w _ hx318_4)).trans hx318_4
              replace hx318_5 := (HB.out.cell (World.block_lt_of_cell? w _ hx318_5)).trans hx318_5
              replace hx318_6 := (HB.out.cell (World.block_lt_of_cell? w _ hx318_6)).trans hx318_6
              have HR318_4 := Aside0.mk hi318_4
              have HC318_4 := Aside0.mk hl318_4
              clear hi318_4 hl318_4
              have HR318_5 := Aside0.mk hi318_5
              have HC318_5 := Aside0.mk hl318_5
              clear hi318_5 hl318_5
              have HR318_6 := Aside0.mk hi318_6
              have HC318_6 := Aside0.mk hl318_6
              clear hi318_6 hl318_6
              replace p318 := eq_true p318
              replace q318 := eq_true q318
              go_wp2
              repeat (go_quiet (fail); try go_wp2)
              go_ret
              exact ⟨by first | rfl | (simp [errW_none, errW_some] <;> rfl) | (simp [*, errW_none, errW_some] <;> rfl), by repeat (first | (with_reducible first | exact HB.out | apply below_alloc | apply pw_below_drewN | apply below_drew1 | refine below_set ?_ GE316.out) | exact HB.out)⟩
          · rw [if_neg c13] at H
            exact absurd H (by simp)
        · rw [if_neg c12] at H
          have c12b0 : decide (x5_1 < (l0_1.length : Int)) = false := decide_eq_false c12
          clear c12
          obtain rfl := Option.some.inj H
          have hcz17_0 : wr.cell? ⟨gb316, 0, none⟩ = some (.int .i64 a0_0) := (blk_cell BK316.out 0).trans rfl
          have hcz17_1 : wr.cell? ⟨gb316, 1, none⟩ = some (.slice A0_1 l0_1.length c0_1) := (blk_cell BK316.out 1).trans rfl
          have hfz17_0 := blk_frozen BK316.out 0
          have hfz17_1 := blk_frozen BK316.out 1
          go_wp2
          repeat (go_quiet (fail); try go_wp2)
          go_ret
          exact ⟨by first | rfl | (simp [errW_none, errW_some] <;> rfl) | (simp [*, errW_none, errW_some] <;> rfl), by repeat (first | (with_reducible first | exact HB.out | apply below_alloc | apply pw_below_drewN | apply below_drew1 | refine below_set ?_ GE316.out) | exact HB.out)⟩
def topiaryref02_index.l0 : Nat → List Int → Int → Int → Option (Int)
  | 0, _, _, _ => none
  | k + 1, x0, x1, x5 => if x5 < (x0.length : Int) then (if 0 ≤ x5 then (if (rd x0 x5) = x1 then (some x5) else (topiaryref02_index.l0 k x0 x1 (wrap64 (x5 + 1)))) else (none)) else (some (-1))
def topiaryref02_index.f (k : Nat) (l0 : List Int) (a1 : Int) : Option (Int) := topiaryref02_index.l0 k l0 a1 0
theorem topiaryref02_index.mono_l : ∀ k, (∀ y0 y1 y2, LeO (topiaryref02_index.l0 k y0 y1 y2) (topiaryref02_index.l0 (k + 1) y0 y1 y2))
  | 0 => fun _ _ _ r h => by simp [topiaryref02_index.l0] at h
  | k + 1 => by
    have ih0 := topiaryref02_index.mono_l k
    · intro y0 y1 y2
      unfold topiaryref02_index.l0
      repeat' first
      | (with_reducible exact ih0 _ _ _)
      | (with_reducible exact LeO.refl _)
      | (with_reducible exact LeO.none _)
      | (with_reducible refine LeO.ite ?_ ?_)
      | (with_reducible refine LeO.bind ?_ (fun _ => ?_))
      | exact ih0 _ _ _
      | exact LeO.none _
      | refine LeO.ite ?_ ?_
      | refine LeO.bind ?_ (fun _ => ?_)
theorem topiaryref02_index.mono : ∀ a0 a1 k, LeO (topiaryref02_index.f k a0 a1) (topiaryref02_index.f (k + 1) a0 a1) := by
  intro a0 a1 k
  have ih0 := topiaryref02_index.mono_l k
  unfold topiaryref02_index.f
  repeat' first
      | (with_reducible exact ih0 _ _ _)
      | (with_reducible exact LeO.refl _)
      | (with_reducible exact LeO.none _)
      | (with_reducible refine LeO.ite ?_ ?_)
      | (with_reducible refine LeO.bind ?_ (fun _ => ?_))
      | exact ih0 _ _ _
      | exact LeO.none _
      | refine LeO.ite ?_ ?_
      | refine LeO.bind ?_ (fun _ => ?_)
set_option maxHeartbeats 8000000 in
set_option maxRecDepth 100000 in
theorem topiaryref02_index.calls (k : Nat) (A0 : Option Addr) (c0 : Nat) (l0 : List Int) (a1 : Int) (r : Int) (w : World) (hr0 : Kd.C (Kd.int .i64) w A0 l0.length l0) (hc0 : l0.length ≤ c0) (h : topiaryref02_index.f k l0 a1 = some r) :
    Calls Try.prog 103 #[.slice A0 l0.length c0, .int .i64 a1] w fun e w' => e = .returned (.int .i64 r) ∧ Drawn0 w w' := by
  have HR0 := Aside0.mk hr0
  have HC0 := Aside0.mk hc0
  clear hr0 hc0
  have H : (topiaryref02_index.l0 k l0 a1 0) = some r := h
  clear h
  have H' := Aside0.mk H
  clear H
  go_enter Try.func103, Try.ntmps103
  go_wp2
  go_loopg [5] k (fun kq v5 w' => ∃ (x5_1 : Int), v5 = .int .i64 x5_1 ∧ Aside0 (topiaryref02_index.l0 kq l0 a1 x5_1 = some r) ∧ Aside0 (kq ≤ k) ∧ Drawn0 w w')
  case atStart => exact ⟨(0), (by first | rfl | (simp; done) | (simp [*]; done)), H', ⟨Nat.le_refl _⟩, by repeat (first | exact Drawn0.refl _ | apply Drawn0.step)⟩
  case round =>
    clear H'
    try clear c1
    try clear p2
    obtain ⟨x5_1, rfl, HA, HK1, ⟨m1, rfl⟩⟩ := hrel
    cases gk with
    | zero => exact absurd HA.out (by simp [topiaryref02_index.l0])
    | succ k1 =>
      have H := HA.out
      clear HA
      simp only [topiaryref02_index.l0] at H
      by_cases c3 : x5_1 < (l0.length : Int)
      · rw [if_pos c3] at H
        have c3b0 : decide (x5_1 < (l0.length : Int)) = true := decide_eq_true c3
        clear c3
        by_cases c4 : 0 ≤ x5_1
        · rw [if_pos c4] at H
          have c4b0 : decide (0 ≤ x5_1) = true := decide_eq_true c4
          clear c4
          by_cases c5 : (rd l0 x5_1) = a1
          · rw [if_pos c5] at H
            have c5b0 : ((rd l0 x5_1) == a1) = true := beq_iff_eq.mpr c5
            have c5b1 : ((rd l0 x5_1) != a1) = false := bne_eq_false_iff_eq.mpr c5
            clear c5
            obtain rfl := Option.some.inj H
            have p341 : 0 ≤ (x5_1 : Int) := of_decide_eq_true (by first | (with_reducible assumption) | assumption)
            have q341 : x5_1 < (l0.length : Int) := of_decide_eq_true (by first | (with_reducible assumption) | assumption)
            obtain ⟨ad341, e341, hx341_0⟩ := Kd.at_int HR0.out x5_1 p341 q341
            cases e341
            replace p341 := eq_true p341
            replace q341 := eq_true q341
            go_wp2
            go_ret
            exact ⟨by first | rfl | (simp; done) | (simp [*]; done), by repeat (first | exact Drawn0.refl _ | apply Drawn0.step)⟩
          · rw [if_neg c5] at H
            have c5b0 : ((rd l0 x5_1) == a1) = false := beq_eq_false_iff_ne.mpr c5
            have c5b1 : ((rd l0 x5_1) != a1) = true := bne_iff_ne.mpr c5
            have H' := Aside0.mk H
            clear H
            have p341 : 0 ≤ (x5_1 : Int) := of_decide_eq_true (by first | (with_reducible assumption) | assumption)
            have q341 : x5_1 < (l0.length : Int) := of_decide_eq_true (by first | (with_reducible assumption) | assumption)
            obtain ⟨ad341, e341, hx341_0⟩ := Kd.at_int HR0.out x5_1 p341 q341
            cases e341
            replace p341 := eq_true p341
            replace q341 := eq_true q341
            go_wp2
            go_roundg k1
            case measure => have := HK1.out; omega
            case rel => exact ⟨(wrap64 (x5_1 + 1)), (by first | rfl | (simp; done) | (simp [*]; done)), H', ⟨by have := HK1.out; omega⟩, by repeat (first | exact Drawn0.refl _ | apply Drawn0.step)⟩
        · rw [if_neg c4] at H
          exact absurd H (by simp)
      · rw [if_neg c3] at H
        have c3b0 : decide (x5_1 < (l0.length : Int)) = false := decide_eq_false c3
        clear c3
        obtain rfl := Option.some.inj H
        go_wp2
        go_ret
        exact ⟨by first | rfl | (simp; done) | (simp [*]; done), by repeat (first | exact Drawn0.refl _ | apply Drawn0.step)⟩
def topiaryref02_has.f (k : Nat) (l0 : List Int) (a1 : Int) : Option (Bool) := (topiaryref02_index.f k l0 a1).bind fun t342 => (some (decide (t342 ≥ 0)))
theorem topiaryref02_has.mono : ∀ a0 a1 k, LeO (topiaryref02_has.f k a0 a1) (topiaryref02_has.f (k + 1) a0 a1) := by
  intro a0 a1 k
  unfold topiaryref02_has.f
  repeat' first
      | (with_reducible exact topiaryref02_index.mono _ _ _)
      | (with_reducible exact LeO.refl _)
      | (with_reducible exact LeO.none _)
      | (with_reducible refine LeO.ite ?_ ?_)
      | (with_reducible refine LeO.bind ?_ (fun _ => ?_))
      | exact topiaryref02_index.mono _ _ _
      | exact LeO.none _
      | refine LeO.ite ?_ ?_
      | refine LeO.bind ?_ (fun _ => ?_)
set_option maxHeartbeats 8000000 in
set_option maxRecDepth 100000 in
theorem topiaryref02_has.calls (k : Nat) (A0 : Option Addr) (c0 : Nat) (l0 : List Int) (a1 : Int) (r : Bool) (w : World) (hr0 : Kd.C (Kd.int .i64) w A0 l0.length l0) (hc0 : l0.length ≤ c0) (h : topiaryref02_has.f k l0 a1 = some r) :
    Calls Try.prog 85 #[.slice A0 l0.length c0, .int .i64 a1] w fun e w' => e = .returned (.bool r) ∧ Drawn0 w w' := by
  have HR0 := Aside0.mk hr0
  have HC0 := Aside0.mk hc0
  clear hr0 hc0
  have H : ((topiaryref02_index.f k l0 a1).bind fun t342 => (some (decide (t342 ≥ 0)))) = some r := h
  clear h
  replace H := Option.bind_eq_some_iff.mp H
  obtain ⟨t342, A30, H⟩ := H
  replace H : (some (decide (t342 ≥ 0))) = some r := H
  have A3 := Aside0.mk A30
  clear A30
  obtain rfl := Option.some.inj H
  go_enter Try.func85, Try.ntmps85
  go_wp2_with (first | ((with_reducible refine gate_callee (f := 103) rfl ?_); refine goesL_ (some 7) rfl rfl Try.func103 (by kernel_rfl) rfl #[.slice A0 l0.length c0, .int .i64 a1] rfl (by (try simp only [List.map_toArray, List.map_cons, List.map_nil]); first | done | rfl | (simp only [List.length_drop, List.length_take]; rfl)) ?_; (with_reducible refine (topiaryref02_index.calls k _ _ l0 a1 t342 _ ?side1 ?side2 A3.out).mono ?_); (case side1 => repeat (first | exact HR0.out | (with_reducible refine Kd.C_alloc ?_ _) | (with_reducible refine Kd.C_drewN ?_ _) | (with_reducible refine Kd.C_drew ?_))); (case side2 => exact HC0.out); rintro e w' ⟨rfl, ⟨nd, rfl⟩⟩; refine ⟨_, rfl, ?_⟩))
  go_ret
  exact ⟨by first | rfl | (simp; done) | (simp [*]; done), by repeat (first | exact Drawn0.refl _ | apply Drawn0.step)⟩
def topiaryref02_below.l0 : Nat → Int → Int → List (S76) → Int → ByteArray → Int → ByteArray → List (S82) → List Int → List (S84) → Option (Bool)
  | 0, _, _, _, _, _, _, _, _, _, _ => none
  | k + 1, x5, x344000, x344001, x345000, x345001, x345002, x345003, x345004, x345005, x345006 => if x5 ≤ 64 then (if x345002 = 0 then (some (x345003.toList == ([] : List UInt8))) else ((topiaryref02_At.f k x344000 x344001 x345002).bind fun t345 => (if t345 < 0 then (some false) else ((topiaryref02_Word.f k x345003).bind fun t346 => (if t346 = true then (if 0 ≤ t345 then (if t345 < (x344001.length : Int) then ((topiaryref02_has.f k ((rd_T76 x344001 t345).f5) x345000).bind fun t348 => (if t348 = true then (topiaryref02_below.l0 k (wrap64 (x5 + 1)) x344000 x344001 ((rd_T76 x344001 t345).f0) ((rd_T76 x344001 t345).f1) ((rd_T76 x344001 t345).f2) ((rd_T76 x344001 t345).f3) ((rd_T76 x344001 t345).f4) ((rd_T76 x344001 t345).f5) ((rd_T76 x344001 t345).f6)) else (some false))) else (none)) else (none)) else (some false)))))) else (some false)
def topiaryref02_below.f (k : Nat) (a0_0 : Int) (l0_1 : List (S76)) (a1_0 : Int) (a1_1 : ByteArray) (a1_2 : Int) (a1_3 : ByteArray) (l1_4 : List (S82)) (l1_5 : List Int) (l1_6 : List (S84)) : Option (Bool) := topiaryref02_below.l0 k 1 a0_0 l0_1 a1_0 a1_1 a1_2 a1_3 l1_4 l1_5 l1_6
theorem topiaryref02_below.mono_l : ∀ k, (∀ y0 y1 y2 y3 y4 y5 y6 y7 y8 y9, LeO (topiaryref02_below.l0 k y0 y1 y2 y3 y4 y5 y6 y7 y8 y9) (topiaryref02_below.l0 (k + 1) y0 y1 y2 y3 y4 y5 y6 y7 y8 y9))
  | 0 => fun _ _ _ _ _ _ _ _ _ _ r h => by simp [topiaryref02_below.l0] at h
  | k + 1 => by
    have ih0 := topiaryref02_below.mono_l k
    · intro y0 y1 y2 y3 y4 y5 y6 y7 y8 y9
      unfold topiaryref02_below.l0
      repeat' first
      | (with_reducible exact ih0 _ _ _ _ _ _ _ _ _ _)
      | (with_reducible exact topiaryref02_At.mono _ _ _ _)
      | (with_reducible exact topiaryref02_Word.mono _ _)
      | (with_reducible exact topiaryref02_has.mono _ _ _)
      | (with_reducible exact LeO.refl _)
      | (with_reducible exact LeO.none _)
      | (with_reducible refine LeO.ite ?_ ?_)
      | (with_reducible refine LeO.bind ?_ (fun _ => ?_))
      | exact ih0 _ _ _ _ _ _ _ _ _ _
      | exact topiaryref02_At.mono _ _ _ _
      | exact topiaryref02_Word.mono _ _
      | exact topiaryref02_has.mono _ _ _
      | exact LeO.none _
      | refine LeO.ite ?_ ?_
      | refine LeO.bind ?_ (fun _ => ?_)
theorem topiaryref02_below.mono : ∀ a0 a1 a2 a3 a4 a5 a6 a7 a8 k, LeO (topiaryref02_below.f k a0 a1 a2 a3 a4 a5 a6 a7 a8) (topiaryref02_below.f (k + 1) a0 a1 a2 a3 a4 a5 a6 a7 a8) := by
  intro a0 a1 a2 a3 a4 a5 a6 a7 a8 k
  have ih0 := topiaryref02_below.mono_l k
  unfold topiaryref02_below.f
  repeat' first
      | (with_reducible exact ih0 _ _ _ _ _ _ _ _ _ _)
      | (with_reducible exact topiaryref02_At.mono _ _ _ _)
      | (with_reducible exact topiaryref02_Word.mono _ _)
      | (with_reducible exact topiaryref02_has.mono _ _ _)
      | (with_reducible exact LeO.refl _)
      | (with_reducible exact LeO.none _)
      | (with_reducible refine LeO.ite ?_ ?_)
      | (with_reducible refine LeO.bind ?_ (fun _ => ?_))
      | exact ih0 _ _ _ _ _ _ _ _ _ _
      | exact topiaryref02_At.mono _ _ _ _
      | exact topiaryref02_Word.mono _ _
      | exact topiaryref02_has.mono _ _ _
      | exact LeO.none _
      | refine LeO.ite ?_ ?_
      | refine LeO.bind ?_ (fun _ => ?_)
set_option maxHeartbeats 8000000 in
set_option maxRecDepth 100000 in
theorem topiaryref02_below.calls (k : Nat) (a0_0 : Int) (P0_1_ : Nat → Prop) (A0_1 : Option Addr) (c0_1 : Nat) (l0_1 : List (S76)) (a1_0 : Int) (a1_1 : ByteArray) (a1_2 : Int) (a1_3 : ByteArray) (P1_4_ : Nat → Prop) (A1_4 : Option Addr) (c1_4 : Nat) (l1_4 : List (S82)) (P1_5_ : Nat → Prop) (A1_5 : Option Addr) (c1_5 : Nat) (l1_5 : List Int) (P1_6_ : Nat → Prop) (A1_6 : Option Addr) (c1_6 : Nat) (l1_6 : List (S84)) (r : Bool) (w : World) (hs0_1 : Kd.V k76 76 w w.heap.size (fun k_ => P0_1_ k_) (.slice A0_1 l0_1.length c0_1) l0_1) (hs1_4 : Kd.V k82 82 w w.heap.size (fun k_ => P1_4_ k_) (.slice A1_4 l1_4.length c1_4) l1_4) (hs1_5 : Kd.V (Kd.int .i64) 3 w w.heap.size (fun k_ => P1_5_ k_) (.slice A1_5 l1_5.length c1_5) l1_5) (hs1_6 : Kd.V k84 84 w w.heap.size (fun k_ => P1_6_ k_) (.slice A1_6 l1_6.length c1_6) l1_6) (h : topiaryref02_below.f k a0_0 l0_1 a1_0 a1_1 a1_2 a1_3 l1_4 l1_5 l1_6 = some r) :
    Calls Try.prog 69 #[.agg #[.int .i64 a0_0, .slice A0_1 l0_1.length c0_1], .agg #[.int .i64 a1_0, .string a1_1, .int .i64 a1_2, .string a1_3, .slice A1_4 l1_4.length c1_4, .slice A1_5 l1_5.length c1_5, .slice A1_6 l1_6.length c1_6]] w fun e w' => e = .returned (.bool r) ∧ Below w.heap.size w w' := by
  have hu27 := Try.underlying27
  have hu76 := Try.underlying76
  have HO0_1 := Aside0.mk (show Kd.V k76 76 w w.heap.size (fun k_ => ((P0_1_ k_ ∨ P1_4_ k_ ∨ P1_5_ k_ ∨ P1_6_ k_) ∨ w.heap.size ≤ k_)) (.slice A0_1 l0_1.length c0_1) l0_1 from Kd.V_mono hs0_1 (fun k_ hk => .inl (.inl hk)))
  have HO1_4 := Aside0.mk (show Kd.V k82 82 w w.heap.size (fun k_ => ((P0_1_ k_ ∨ P1_4_ k_ ∨ P1_5_ k_ ∨ P1_6_ k_) ∨ w.heap.size ≤ k_)) (.slice A1_4 l1_4.length c1_4) l1_4 from Kd.V_mono hs1_4 (fun k_ hk => .inl (.inr (.inl hk))))
  have HO1_5 := Aside0.mk (show Kd.V (Kd.int .i64) 3 w w.heap.size (fun k_ => ((P0_1_ k_ ∨ P1_4_ k_ ∨ P1_5_ k_ ∨ P1_6_ k_) ∨ w.heap.size ≤ k_)) (.slice A1_5 l1_5.length c1_5) l1_5 from Kd.V_mono hs1_5 (fun k_ hk => .inl (.inr (.inr (.inl hk)))))
  have HO1_6 := Aside0.mk (show Kd.V k84 84 w w.heap.size (fun k_ => ((P0_1_ k_ ∨ P1_4_ k_ ∨ P1_5_ k_ ∨ P1_6_ k_) ∨ w.heap.size ≤ k_)) (.slice A1_6 l1_6.length c1_6) l1_6 from Kd.V_mono hs1_6 (fun k_ hk => .inl (.inr (.inr (.inr hk)))))
  have HB := Aside0.mk (Below.refl w.heap.size w)
  have H : (topiaryref02_below.l0 k 1 a0_0 l0_1 a1_0 a1_1 a1_2 a1_3 l1_4 l1_5 l1_6) = some r := h
  clear h
  have H' := Aside0.mk H
  clear H
  go_enter Try.func69, Try.ntmps69
  go_wp2_with (first | ((with_reducible refine gate_dst (N := 2) rfl ?_); refine box_event ?hg (N := 2) ?hd (cs := #[.int .i64 a0_0, .slice A0_1 l0_1.length c0_1]) (t := 27) ?hr ?_; (case hd => rfl); (case hg => rfl); (case hr => first | (go_simp; done) | (go_simp; rfl)); intro gb343 hg w3 hbox hb; have n0_ := Aside0.mk (Kd.V_below (Kd.V_elderB (by (with_reducible repeat (first | apply Kd.V_alloc | apply Kd.V_drewN | apply Kd.V_drew)); exact HO0_1.out) gb343 (Nat.le_of_eq hg.symm)) hb); have n1_ := Aside0.mk (Kd.V_below (Kd.V_elderB (by (with_reducible repeat (first | apply Kd.V_alloc | apply Kd.V_drewN | apply Kd.V_drew)); exact HO1_4.out) gb343 (Nat.le_of_eq hg.symm)) hb); have n2_ := Aside0.mk (Kd.V_below (Kd.V_elderB (by (with_reducible repeat (first | apply Kd.V_alloc | apply Kd.V_drewN | apply Kd.V_drew)); exact HO1_5.out) gb343 (Nat.le_of_eq hg.symm)) hb); have n3_ := Aside0.mk (Kd.V_below (Kd.V_elderB (by (with_reducible repeat (first | apply Kd.V_alloc | apply Kd.V_drewN | apply Kd.V_drew)); exact HO1_6.out) gb343 (Nat.le_of_eq hg.symm)) hb); have n4_ := Aside0.mk (below_step (by repeat (first | (with_reducible first | exact HB.out | apply below_alloc | apply pw_below_drewN | apply below_drew1) | exact HB.out)) hb); have n5_ := Aside0.mk (hbox); have n6_ := Aside0.mk ((by rw [hg]; exact (below_size (by repeat (first | (with_reducible first | exact HB.out | apply below_alloc | apply pw_below_drewN | apply below_drew1) | exact HB.out))) : w.heap.size ≤ gb343)); have n7_ := Aside0.mk ((by rw [hg]; exact (below_size (by repeat (first | (with_reducible first | exact HB.out | apply below_alloc | apply pw_below_drewN | apply below_drew1) | exact HB.out))) : w.heap.size ≤ gb343)); clear HO0_1; clear HO1_4; clear HO1_5; clear HO1_6; clear HB; have HO0_1 := n0_; have HO1_4 := n1_; have HO1_5 := n2_; have HO1_6 := n3_; have HB := n4_; have BK343 := n5_; have GW343 := n6_; have GE343 := n7_; clear n0_ n1_ n2_ n3_ n4_ n5_ n6_ n7_; clear hb hbox hg) | ((with_reducible refine gate_dst (N := 3) rfl ?_); refine box_event ?hg (N := 3) ?hd (cs := #[.int .i64 a1_0, .string a1_1, .int .i64 a1_2, .string a1_3, .slice A1_4 l1_4.length c1_4, .slice A1_5 l1_5.length c1_5, .slice A1_6 l1_6.length c1_6]) (t := 76) ?hr ?_; (case hd => rfl); (case hg => rfl); (case hr => first | (go_simp; done) | (go_simp; rfl)); intro gb344 hg w4 hbox hb; have n0_ := Aside0.mk (Kd.V_below (Kd.V_elderB (by (with_reducible repeat (first | apply Kd.V_alloc | apply Kd.V_drewN | apply Kd.V_drew)); exact HO0_1.out) gb344 (Nat.le_of_eq hg.symm)) hb); have n1_ := Aside0.mk (Kd.V_below (Kd.V_elderB (by (with_reducible repeat (first | apply Kd.V_alloc | apply Kd.V_drewN | apply Kd.V_drew)); exact HO1_4.out) gb344 (Nat.le_of_eq hg.symm)) hb); have n2_ := Aside0.mk (Kd.V_below (Kd.V_elderB (by (with_reducible repeat (first | apply Kd.V_alloc | apply Kd.V_drewN | apply Kd.V_drew)); exact HO1_5.out) gb344 (Nat.le_of_eq hg.symm)) hb); have n3_ := Aside0.mk (Kd.V_below (Kd.V_elderB (by (with_reducible repeat (first | apply Kd.V_alloc | apply Kd.V_drewN | apply Kd.V_drew)); exact HO1_6.out) gb344 (Nat.le_of_eq hg.symm)) hb); have n4_ := Aside0.mk (blk_below (g := gb343) (o := .cells #[.int .i64 a0_0, .slice A0_1 l0_1.length c0_1] 27 (0, 0)) (by (with_reducible repeat (first | refine blk_drewN ?_ _ | refine blk_drew ?_ | refine blk_alloc ?_ _)); exact BK343.out) hb); have n5_ := Aside0.mk (below_step (by repeat (first | (with_reducible first | exact HB.out | apply below_alloc | apply pw_below_drewN | apply below_drew1 | refine below_set ?_ GE343.out) | exact HB.out)) hb); have n6_ := Aside0.mk (hbox); have n7_ := Aside0.mk ((by rw [hg]; exact (below_size (by repeat (first | (with_reducible first | exact HB.out | apply below_alloc | apply pw_below_drewN | apply below_drew1 | refine below_set ?_ GE343.out) | exact HB.out))) : w.heap.size ≤ gb344)); have n8_ := Aside0.mk ((by rw [hg]; exact (below_size (by repeat (first | (with_reducible first | exact HB.out | apply below_alloc | apply pw_below_drewN | apply below_drew1 | refine below_set ?_ GE343.out) | exact HB.out))) : w.heap.size ≤ gb344)); have n9_ := Aside0.mk ((by rw [hg]; exact Nat.ne_of_lt (blk_lt (g := gb343) (o := .cells #[.int .i64 a0_0, .slice A0_1 l0_1.length c0_1] 27 (0, 0)) (by (with_reducible repeat (first | refine blk_drewN ?_ _ | refine blk_drew ?_ | refine blk_alloc ?_ _)); exact BK343.out)) : gb343 ≠ gb344)); have n10_ := Aside0.mk ((by rw [hg]; exact Nat.ne_of_gt (blk_lt (g := gb343) (o := .cells #[.int .i64 a0_0, .slice A0_1 l0_1.length c0_1] 27 (0, 0)) (by (with_reducible repeat (first | refine blk_drewN ?_ _ | refine blk_drew ?_ | refine blk_alloc ?_ _)); exact BK343.out)) : gb344 ≠ gb343)); clear HO0_1; clear HO1_4; clear HO1_5; clear HO1_6; clear BK343; clear HB; have HO0_1 := n0_; have HO1_4 := n1_; have HO1_5 := n2_; have HO1_6 := n3_; have BK343 := n4_; have HB := n5_; have BK344 := n6_; have GW344 := n7_; have GE344 := n8_; have NB343_344 := n9_; have NB344_343 := n10_; clear n0_ n1_ n2_ n3_ n4_ n5_ n6_ n7_ n8_ n9_ n10_; clear hb hbox hg))
  repeat (go_quiet (first | ((with_reducible refine gate_dst (N := 2) rfl ?_); refine box_event ?hg (N := 2) ?hd (cs := #[.int .i64 a0_0, .slice A0_1 l0_1.length c0_1]) (t := 27) ?hr ?_; (case hd => rfl); (case hg => rfl); (case hr => first | (go_simp; done) | (go_simp; rfl)); intro gb343 hg w3 hbox hb; have n0_ := Aside0.mk (Kd.V_below (Kd.V_elderB (by (with_reducible repeat (first | apply Kd.V_alloc | apply Kd.V_drewN | apply Kd.V_drew)); exact HO0_1.out) gb343 (Nat.le_of_eq hg.symm)) hb); have n1_ := Aside0.mk (Kd.V_below (Kd.V_elderB (by (with_reducible repeat (first | apply Kd.V_alloc | apply Kd.V_drewN | apply Kd.V_drew)); exact HO1_4.out) gb343 (Nat.le_of_eq hg.symm)) hb); have n2_ := Aside0.mk (Kd.V_below (Kd.V_elderB (by (with_reducible repeat (first | apply Kd.V_alloc | apply Kd.V_drewN | apply Kd.V_drew)); exact HO1_5.out) gb343 (Nat.le_of_eq hg.symm)) hb); have n3_ := Aside0.mk (Kd.V_below (Kd.V_elderB (by (with_reducible repeat (first | apply Kd.V_alloc | apply Kd.V_drewN | apply Kd.V_drew)); exact HO1_6.out) gb343 (Nat.le_of_eq hg.symm)) hb); have n4_ := Aside0.mk (below_step (by repeat (first | (with_reducible first | exact HB.out | apply below_alloc | apply pw_below_drewN | apply below_drew1) | exact HB.out)) hb); have n5_ := Aside0.mk (hbox); have n6_ := Aside0.mk ((by rw [hg]; exact (below_size (by repeat (first | (with_reducible first | exact HB.out | apply below_alloc | apply pw_below_drewN | apply below_drew1) | exact HB.out))) : w.heap.size ≤ gb343)); have n7_ := Aside0.mk ((by rw [hg]; exact (below_size (by repeat (first | (with_reducible first | exact HB.out | apply below_alloc | apply pw_below_drewN | apply below_drew1) | exact HB.out))) : w.heap.size ≤ gb343)); clear HO0_1; clear HO1_4; clear HO1_5; clear HO1_6; clear HB; have HO0_1 := n0_; have HO1_4 := n1_; have HO1_5 := n2_; have HO1_6 := n3_; have HB := n4_; have BK343 := n5_; have GW343 := n6_; have GE343 := n7_; clear n0_ n1_ n2_ n3_ n4_ n5_ n6_ n7_; clear hb hbox hg) | ((with_reducible refine gate_dst (N := 3) rfl ?_); refine box_event ?hg (N := 3) ?hd (cs := #[.int .i64 a1_0, .string a1_1, .int .i64 a1_2, .string a1_3, .slice A1_4 l1_4.length c1_4, .slice A1_5 l1_5.length c1_5, .slice A1_6 l1_6.length c1_6]) (t := 76) ?hr ?_; (case hd => rfl); (case hg => rfl); (case hr => first | (go_simp; done) | (go_simp; rfl)); intro gb344 hg w4 hbox hb; have n0_ := Aside0.mk (Kd.V_below (Kd.V_elderB (by (with_reducible repeat (first | apply Kd.V_alloc | apply Kd.V_drewN | apply Kd.V_drew)); exact HO0_1.out) gb344 (Nat.le_of_eq hg.symm)) hb); have n1_ := Aside0.mk (Kd.V_below (Kd.V_elderB (by (with_reducible repeat (first | apply Kd.V_alloc | apply Kd.V_drewN | apply Kd.V_drew)); exact HO1_4.out) gb344 (Nat.le_of_eq hg.symm)) hb); have n2_ := Aside0.mk (Kd.V_below (Kd.V_elderB (by (with_reducible repeat (first | apply Kd.V_alloc | apply Kd.V_drewN | apply Kd.V_drew)); exact HO1_5.out) gb344 (Nat.le_of_eq hg.symm)) hb); have n3_ := Aside0.mk (Kd.V_below (Kd.V_elderB (by (with_reducible repeat (first | apply Kd.V_alloc | apply Kd.V_drewN | apply Kd.V_drew)); exact HO1_6.out) gb344 (Nat.le_of_eq hg.symm)) hb); have n4_ := Aside0.mk (blk_below (g := gb343) (o := .cells #[.int .i64 a0_0, .slice A0_1 l0_1.length c0_1] 27 (0, 0)) (by (with_reducible repeat (first | refine blk_drewN ?_ _ | refine blk_drew ?_ | refine blk_alloc ?_ _)); exact BK343.out) hb); have n5_ := Aside0.mk (below_step (by repeat (first | (with_reducible first | exact HB.out | apply below_alloc | apply pw_below_drewN | apply below_drew1 | refine below_set ?_ GE343.out) | exact HB.out)) hb); have n6_ := Aside0.mk (hbox); have n7_ := Aside0.mk ((by rw [hg]; exact (below_size (by repeat (first | (with_reducible first | exact HB.out | apply below_alloc | apply pw_below_drewN | apply below_drew1 | refine below_set ?_ GE343.out) | exact HB.out))) : w.heap.size ≤ gb344)); have n8_ := Aside0.mk ((by rw [hg]; exact (below_size (by repeat (first | (with_reducible first | exact HB.out | apply below_alloc | apply pw_below_drewN | apply below_drew1 | refine below_set ?_ GE343.out) | exact HB.out))) : w.heap.size ≤ gb344)); have n9_ := Aside0.mk ((by rw [hg]; exact Nat.ne_of_lt (blk_lt (g := gb343) (o := .cells #[.int .i64 a0_0, .slice A0_1 l0_1.length c0_1] 27 (0, 0)) (by (with_reducible repeat (first | refine blk_drewN ?_ _ | refine blk_drew ?_ | refine blk_alloc ?_ _)); exact BK343.out)) : gb343 ≠ gb344)); have n10_ := Aside0.mk ((by rw [hg]; exact Nat.ne_of_gt (blk_lt (g := gb343) (o := .cells #[.int .i64 a0_0, .slice A0_1 l0_1.length c0_1] 27 (0, 0)) (by (with_reducible repeat (first | refine blk_drewN ?_ _ | refine blk_drew ?_ | refine blk_alloc ?_ _)); exact BK343.out)) : gb344 ≠ gb343)); clear HO0_1; clear HO1_4; clear HO1_5; clear HO1_6; clear BK343; clear HB; have HO0_1 := n0_; have HO1_4 := n1_; have HO1_5 := n2_; have HO1_6 := n3_; have BK343 := n4_; have HB := n5_; have BK344 := n6_; have GW344 := n7_; have GE344 := n8_; have NB343_344 := n9_; have NB344_343 := n10_; clear n0_ n1_ n2_ n3_ n4_ n5_ n6_ n7_ n8_ n9_ n10_; clear hb hbox hg)); try go_wp2_with (first | ((with_reducible refine gate_dst (N := 2) rfl ?_); refine box_event ?hg (N := 2) ?hd (cs := #[.int .i64 a0_0, .slice A0_1 l0_1.length c0_1]) (t := 27) ?hr ?_; (case hd => rfl); (case hg => rfl); (case hr => first | (go_simp; done) | (go_simp; rfl)); intro gb343 hg w3 hbox hb; have n0_ := Aside0.mk (Kd.V_below (Kd.V_elderB (by (with_reducible repeat (first | apply Kd.V_alloc | apply Kd.V_drewN | apply Kd.V_drew)); exact HO0_1.out) gb343 (Nat.le_of_eq hg.symm)) hb); have n1_ := Aside0.mk (Kd.V_below (Kd.V_elderB (by (with_reducible repeat (first | apply Kd.V_alloc | apply Kd.V_drewN | apply Kd.V_drew)); exact HO1_4.out) gb343 (Nat.le_of_eq hg.symm)) hb); have n2_ := Aside0.mk (Kd.V_below (Kd.V_elderB (by (with_reducible repeat (first | apply Kd.V_alloc | apply Kd.V_drewN | apply Kd.V_drew)); exact HO1_5.out) gb343 (Nat.le_of_eq hg.symm)) hb); have n3_ := Aside0.mk (Kd.V_below (Kd.V_elderB (by (with_reducible repeat (first | apply Kd.V_alloc | apply Kd.V_drewN | apply Kd.V_drew)); exact HO1_6.out) gb343 (Nat.le_of_eq hg.symm)) hb); have n4_ := Aside0.mk (below_step (by repeat (first | (with_reducible first | exact HB.out | apply below_alloc | apply pw_below_drewN | apply below_drew1) | exact HB.out)) hb); have n5_ := Aside0.mk (hbox); have n6_ := Aside0.mk ((by rw [hg]; exact (below_size (by repeat (first | (with_reducible first | exact HB.out | apply below_alloc | apply pw_below_drewN | apply below_drew1) | exact HB.out))) : w.heap.size ≤ gb343)); have n7_ := Aside0.mk ((by rw [hg]; exact (below_size (by repeat (first | (with_reducible first | exact HB.out | apply below_alloc | apply pw_below_drewN | apply below_drew1) | exact HB.out))) : w.heap.size ≤ gb343)); clear HO0_1; clear HO1_4; clear HO1_5; clear HO1_6; clear HB; have HO0_1 := n0_; have HO1_4 := n1_; have HO1_5 := n2_; have HO1_6 := n3_; have HB := n4_; have BK343 := n5_; have GW343 := n6_; have GE343 := n7_; clear n0_ n1_ n2_ n3_ n4_ n5_ n6_ n7_; clear hb hbox hg) | ((with_reducible refine gate_dst (N := 3) rfl ?_); refine box_event ?hg (N := 3) ?hd (cs := #[.int .i64 a1_0, .string a1_1, .int .i64 a1_2, .string a1_3, .slice A1_4 l1_4.length c1_4, .slice A1_5 l1_5.length c1_5, .slice A1_6 l1_6.length c1_6]) (t := 76) ?hr ?_; (case hd => rfl); (case hg => rfl); (case hr => first | (go_simp; done) | (go_simp; rfl)); intro gb344 hg w4 hbox hb; have n0_ := Aside0.mk (Kd.V_below (Kd.V_elderB (by (with_reducible repeat (first | apply Kd.V_alloc | apply Kd.V_drewN | apply Kd.V_drew)); exact HO0_1.out) gb344 (Nat.le_of_eq hg.symm)) hb); have n1_ := Aside0.mk (Kd.V_below (Kd.V_elderB (by (with_reducible repeat (first | apply Kd.V_alloc | apply Kd.V_drewN | apply Kd.V_drew)); exact HO1_4.out) gb344 (Nat.le_of_eq hg.symm)) hb); have n2_ := Aside0.mk (Kd.V_below (Kd.V_elderB (by (with_reducible repeat (first | apply Kd.V_alloc | apply Kd.V_drewN | apply Kd.V_drew)); exact HO1_5.out) gb344 (Nat.le_of_eq hg.symm)) hb); have n3_ := Aside0.mk (Kd.V_below (Kd.V_elderB (by (with_reducible repeat (first | apply Kd.V_alloc | apply Kd.V_drewN | apply Kd.V_drew)); exact HO1_6.out) gb344 (Nat.le_of_eq hg.symm)) hb); have n4_ := Aside0.mk (blk_below (g := gb343) (o := .cells #[.int .i64 a0_0, .slice A0_1 l0_1.length c0_1] 27 (0, 0)) (by (with_reducible repeat (first | refine blk_drewN ?_ _ | refine blk_drew ?_ | refine blk_alloc ?_ _)); exact BK343.out) hb); have n5_ := Aside0.mk (below_step (by repeat (first | (with_reducible first | exact HB.out | apply below_alloc | apply pw_below_drewN | apply below_drew1 | refine below_set ?_ GE343.out) | exact HB.out)) hb); have n6_ := Aside0.mk (hbox); have n7_ := Aside0.mk ((by rw [hg]; exact (below_size (by repeat (first | (with_reducible first | exact HB.out | apply below_alloc | apply pw_below_drewN | apply below_drew1 | refine below_set ?_ GE343.out) | exact HB.out))) : w.heap.size ≤ gb344)); have n8_ := Aside0.mk ((by rw [hg]; exact (below_size (by repeat (first | (with_reducible first | exact HB.out | apply below_alloc | apply pw_below_drewN | apply below_drew1 | refine below_set ?_ GE343.out) | exact HB.out))) : w.heap.size ≤ gb344)); have n9_ := Aside0.mk ((by rw [hg]; exact Nat.ne_of_lt (blk_lt (g := gb343) (o := .cells #[.int .i64 a0_0, .slice A0_1 l0_1.length c0_1] 27 (0, 0)) (by (with_reducible repeat (first | refine blk_drewN ?_ _ | refine blk_drew ?_ | refine blk_alloc ?_ _)); exact BK343.out)) : gb343 ≠ gb344)); have n10_ := Aside0.mk ((by rw [hg]; exact Nat.ne_of_gt (blk_lt (g := gb343) (o := .cells #[.int .i64 a0_0, .slice A0_1 l0_1.length c0_1] 27 (0, 0)) (by (with_reducible repeat (first | refine blk_drewN ?_ _ | refine blk_drew ?_ | refine blk_alloc ?_ _)); exact BK343.out)) : gb344 ≠ gb343)); clear HO0_1; clear HO1_4; clear HO1_5; clear HO1_6; clear BK343; clear HB; have HO0_1 := n0_; have HO1_4 := n1_; have HO1_5 := n2_; have HO1_6 := n3_; have BK343 := n4_; have HB := n5_; have BK344 := n6_; have GW344 := n7_; have GE344 := n8_; have NB343_344 := n9_; have NB344_343 := n10_; clear n0_ n1_ n2_ n3_ n4_ n5_ n6_ n7_ n8_ n9_ n10_; clear hb hbox hg)))
  go_loopg [5] k (fun kq v5 w' => ∃ (x5_1 : Int) (x345000_1 : Int) (x345001_1 : ByteArray) (x345002_1 : Int) (x345003_1 : ByteArray) (x345004_1 : List (S82)) (x345005_1 : List Int) (x345006_1 : List (S84)) (u345004 : Value) (u345005 : Value) (u345006 : Value), v5 = .int .i64 x5_1 ∧ Aside0 (topiaryref02_below.l0 kq x5_1 a0_0 l0_1 x345000_1 x345001_1 x345002_1 x345003_1 x345004_1 x345005_1 x345006_1 = some r) ∧ Aside0 (kq ≤ k) ∧ Aside0 (Kd.V k76 76 w' w.heap.size (fun k_ => ((P0_1_ k_ ∨ P1_4_ k_ ∨ P1_5_ k_ ∨ P1_6_ k_) ∨ w.heap.size ≤ k_) ∧ k_ ≠ gb343 ∧ k_ ≠ gb344) (.slice A0_1 l0_1.length c0_1) l0_1) ∧ Aside0 (Kd.V k82 82 w' w.heap.size (fun k_ => ((P0_1_ k_ ∨ P1_4_ k_ ∨ P1_5_ k_ ∨ P1_6_ k_) ∨ w.heap.size ≤ k_) ∧ k_ ≠ gb343 ∧ k_ ≠ gb344) u345004 x345004_1) ∧ Aside0 (Kd.V (Kd.int .i64) 3 w' w.heap.size (fun k_ => ((P0_1_ k_ ∨ P1_4_ k_ ∨ P1_5_ k_ ∨ P1_6_ k_) ∨ w.heap.size ≤ k_) ∧ k_ ≠ gb343 ∧ k_ ≠ gb344) u345005 x345005_1) ∧ Aside0 (Kd.V k84 84 w' w.heap.size (fun k_ => ((P0_1_ k_ ∨ P1_4_ k_ ∨ P1_5_ k_ ∨ P1_6_ k_) ∨ w.heap.size ≤ k_) ∧ k_ ≠ gb343 ∧ k_ ≠ gb344) u345006 x345006_1) ∧ Aside0 (w'.heap[gb343]? = some (.cells #[.int .i64 a0_0, (.slice A0_1 l0_1.length c0_1)] 27 (0, 0))) ∧ Aside0 (w'.heap[gb344]? = some (.cells #[.int .i64 x345000_1, .string x345001_1, .int .i64 x345002_1, .string x345003_1, u345004, u345005, u345006] 76 (0, 0))) ∧ Aside0 (Below w.heap.size w w'))
  case atStart => exact ⟨(1), (a1_0), (a1_1), (a1_2), (a1_3), (l1_4), (l1_5), (l1_6), (.slice A1_4 l1_4.length c1_4), (.slice A1_5 l1_5.length c1_5), (.slice A1_6 l1_6.length c1_6), (by first | rfl | (simp; done) | (simp [*]; done)), H', ⟨Nat.le_refl _⟩, ⟨by (with_reducible repeat (first | apply Kd.V_alloc | apply Kd.V_drewN | apply Kd.V_drew)); exact Kd.V_mono HO0_1.out (fun _ hk => ⟨hk.1.1, ⟨hk.1.2, hk.2⟩⟩)⟩, ⟨by (with_reducible repeat (first | apply Kd.V_alloc | apply Kd.V_drewN | apply Kd.V_drew)); exact Kd.V_mono HO1_4.out (fun _ hk => ⟨hk.1.1, ⟨hk.1.2, hk.2⟩⟩)⟩, ⟨by (with_reducible repeat (first | apply Kd.V_alloc | apply Kd.V_drewN | apply Kd.V_drew)); exact Kd.V_mono HO1_5.out (fun _ hk => ⟨hk.1.1, ⟨hk.1.2, hk.2⟩⟩)⟩, ⟨by (with_reducible repeat (first | apply Kd.V_alloc | apply Kd.V_drewN | apply Kd.V_drew)); exact Kd.V_mono HO1_6.out (fun _ hk => ⟨hk.1.1, ⟨hk.1.2, hk.2⟩⟩)⟩, ⟨by (with_reducible repeat (first | refine blk_drewN ?_ _ | refine blk_drew ?_ | refine blk_alloc ?_ _)); exact BK343.out⟩, ⟨by (with_reducible repeat (first | refine blk_drewN ?_ _ | refine blk_drew ?_ | refine blk_alloc ?_ _)); exact BK344.out⟩, ⟨by repeat (first | (with_reducible first | exact HB.out | apply below_alloc | apply pw_below_drewN | apply below_drew1 | refine below_set ?_ GE343.out | refine below_set ?_ GE344.out) | exact HB.out)⟩⟩
  case round =>
    clear H'
    try clear c1
    try clear p2
    obtain ⟨x5_1, x345000_1, x345001_1, x345002_1, x345003_1, x345004_1, x345005_1, x345006_1, u345004, u345005, u345006, rfl, HA, HK1, HO_344001, HO_345004, HO_345005, HO_345006, BK343, BK344, HB⟩ := hrel
    cases gk with
    | zero => exact absurd HA.out (by simp [topiaryref02_below.l0])
    | succ k1 =>
      have H := HA.out
      clear HA
      simp only [topiaryref02_below.l0] at H
      by_cases c5 : x5_1 ≤ 64
      · rw [if_pos c5] at H
        have c5b0 : decide (x5_1 ≤ 64) = true := decide_eq_true c5
        clear c5
        by_cases c6 : x345002_1 = 0
        · rw [if_pos c6] at H
          have c6b0 : (x345002_1 == 0) = true := beq_iff_eq.mpr c6
          have c6b1 : (x345002_1 != 0) = false := bne_eq_false_iff_eq.mpr c6
          clear c6
          obtain rfl := Option.some.inj H
          have hnb7 := NB344_343.out
          have hnc7 := NB343_344.out
          have hcz8_0 : wr.cell? ⟨gb344, 0, none⟩ = some (.int .i64 x345000_1) := (blk_cell BK344.out 0).trans rfl
          have hcz8_1 : wr.cell? ⟨gb344, 1, none⟩ = some (.string x345001_1) := (blk_cell BK344.out 1).trans rfl
          have hcz8_2 : wr.cell? ⟨gb344, 2, none⟩ = some (.int .i64 x345002_1) := (blk_cell BK344.out 2).trans rfl
          have hcz8_3 : wr.cell? ⟨gb344, 3, none⟩ = some (.string x345003_1) := (blk_cell BK344.out 3).trans rfl
          have hcz8_4 : wr.cell? ⟨gb344, 4, none⟩ = some (u345004) := (blk_cell BK344.out 4).trans rfl
          have hcz8_5 : wr.cell? ⟨gb344, 5, none⟩ = some (u345005) := (blk_cell BK344.out 5).trans rfl
          have hcz8_6 : wr.cell? ⟨gb344, 6, none⟩ = some (u345006) := (blk_cell BK344.out 6).trans rfl
          have hfz8_0 := blk_frozen BK344.out 0
          have hfz8_1 := blk_frozen BK344.out 1
          have hfz8_2 := blk_frozen BK344.out 2
          have hfz8_3 := blk_frozen BK344.out 3
          have hfz8_4 := blk_frozen BK344.out 4
          have hfz8_5 := blk_frozen BK344.out 5
          have hfz8_6 := blk_frozen BK344.out 6
          go_wp2
          repeat (go_quiet (fail); try go_wp2)
          go_ret
          exact ⟨by first | rfl | (simp [errW_none, errW_some] <;> rfl) | (simp [*, errW_none, errW_some] <;> rfl), by repeat (first | (with_reducible first | exact HB.out | apply below_alloc | apply pw_below_drewN | apply below_drew1 | refine below_set ?_ GE343.out | refine below_set ?_ GE344.out) | exact HB.out)⟩
        · rw [if_neg c6] at H
          have c6b0 : (x345002_1 == 0) = false := beq_eq_false_iff_ne.mpr c6
          have c6b1 : (x345002_1 != 0) = true := bne_iff_ne.mpr c6
          replace H := Option.bind_eq_some_iff.mp H
          obtain ⟨t345, A90, H⟩ := H
          replace H : (if t345 < 0 then (some false) else ((topiaryref02_Word.f k1 x345003_1).bind fun t346 => (if t346 = true then (if 0 ≤ t345 then (if t345 < (l0_1.length : Int) then ((topiaryref02_has.f k1 ((rd_T76 l0_1 t345).f5) x345000_1).bind fun t348 => (if t348 = true then (topiaryref02_below.l0 k1 (wrap64 (x5_1 + 1)) a0_0 l0_1 ((rd_T76 l0_1 t345).f0) ((rd_T76 l0_1 t345).f1) ((rd_T76 l0_1 t345).f2) ((rd_T76 l0_1 t345).f3) ((rd_T76 l0_1 t345).f4) ((rd_T76 l0_1 t345).f5) ((rd_T76 l0_1 t345).f6)) else (some false))) else (none)) else (none)) else (some false)))) = some r := H
          have A9 := Aside0.mk A90
          clear A90
          by_cases c10 : t345 < 0
          · rw [if_pos c10] at H
            have c10b0 : decide (t345 < 0) = true := decide_eq_true c10
            clear c10
            obtain rfl := Option.some.inj H
            have hnb11 := NB344_343.out
            have hnc11 := NB343_344.out
            have hcz12_0 : wr.cell? ⟨gb344, 0, none⟩ = some (.int .i64 x345000_1) := (blk_cell BK344.out 0).trans rfl
            have hcz12_1 : wr.cell? ⟨gb344, 1, none⟩ = some (.string x345001_1) := (blk_cell BK344.out 1).trans rfl
            have hcz12_2 : wr.cell? ⟨gb344, 2, none⟩ = some (.int .i64 x345002_1) := (blk_cell BK344.out 2).trans rfl
            have hcz12_3 : wr.cell? ⟨gb344, 3, none⟩ = some (.string x345003_1) := (blk_cell BK344.out 3).trans rfl
            have hcz12_4 : wr.cell? ⟨gb344, 4, none⟩ = some (u345004) := (blk_cell BK344.out 4).trans rfl
            have hcz12_5 : wr.cell? ⟨gb344, 5, none⟩ = some (u345005) := (blk_cell BK344.out 5).trans rfl
            have hcz12_6 : wr.cell? ⟨gb344, 6, none⟩ = some (u345006) := (blk_cell BK344.out 6).trans rfl
            have hfz12_0 := blk_frozen BK344.out 0
            have hfz12_1 := blk_frozen BK344.out 1
            have hfz12_2 := blk_frozen BK344.out 2
            have hfz12_3 := blk_frozen BK344.out 3
            have hfz12_4 := blk_frozen BK344.out 4
            have hfz12_5 := blk_frozen BK344.out 5
            have hfz12_6 := blk_frozen BK344.out 6
            have hcz13_0 : wr.cell? ⟨gb343, 0, none⟩ = some (.int .i64 a0_0) := (blk_cell BK343.out 0).trans rfl
            have hcz13_1 : wr.cell? ⟨gb343, 1, none⟩ = some (.slice A0_1 l0_1.length c0_1) := (blk_cell BK343.out 1).trans rfl
            have hfz13_0 := blk_frozen BK343.out 0
            have hfz13_1 := blk_frozen BK343.out 1
            go_wp2_with (first | (go_at_call 84; (with_reducible refine (topiaryref02_At.calls k1 a0_0 _ _ l0_1 x345002_1 t345 _ ?side1 ?side2 A9.out).mono ?_); (case side1 => repeat (first | exact (Kd.V_reads' HO_344001.out).2.2 | (with_reducible refine Kd.C_alloc ?_ _) | (with_reducible refine Kd.C_drewN ?_ _) | (with_reducible refine Kd.C_drew ?_))); (case side2 => exact (Kd.V_reads' HO_344001.out).2.1); rintro e w14 ⟨rfl, hb⟩; have n0_ := Aside0.mk (Kd.V_below (by (with_reducible repeat (first | apply Kd.V_alloc | apply Kd.V_drewN | apply Kd.V_drew)); exact HO_344001.out) hb); have n1_ := Aside0.mk (Kd.V_below (by (with_reducible repeat (first | apply Kd.V_alloc | apply Kd.V_drewN | apply Kd.V_drew)); exact HO_345004.out) hb); have n2_ := Aside0.mk (Kd.V_below (by (with_reducible repeat (first | apply Kd.V_alloc | apply Kd.V_drewN | apply Kd.V_drew)); exact HO_345005.out) hb); have n3_ := Aside0.mk (Kd.V_below (by (with_reducible repeat (first | apply Kd.V_alloc | apply Kd.V_drewN | apply Kd.V_drew)); exact HO_345006.out) hb); have n4_ := Aside0.mk (blk_below (g := gb343) (o := .cells #[.int .i64 a0_0, .slice A0_1 l0_1.length c0_1] 27 (0, 0)) (by (with_reducible repeat (first | refine blk_drewN ?_ _ | refine blk_drew ?_ | refine blk_alloc ?_ _)); exact BK343.out) hb); have n5_ := Aside0.mk (blk_below (g := gb344) (o := .cells #[.int .i64 x345000_1, .string x345001_1, .int .i64 x345002_1, .string x345003_1, u345004, u345005, u345006] 76 (0, 0)) (by (with_reducible repeat (first | refine blk_drewN ?_ _ | refine blk_drew ?_ | refine blk_alloc ?_ _)); exact BK344.out) hb); have n6_ := Aside0.mk (below_step (by repeat (first | (with_reducible first | exact HB.out | apply below_alloc | apply pw_below_drewN | apply below_drew1 | refine below_set ?_ GE343.out | refine below_set ?_ GE344.out) | exact HB.out)) hb); clear HO_344001; clear HO_345004; clear HO_345005; clear HO_345006; clear BK343; clear BK344; clear HB; have HO_344001 := n0_; have HO_345004 := n1_; have HO_345005 := n2_; have HO_345006 := n3_; have BK343 := n4_; have BK344 := n5_; have HB := n6_; clear n0_ n1_ n2_ n3_ n4_ n5_ n6_; (try clear hb); (try clear hb2); (try clear hk); (try clear hi)))
            repeat (go_quiet (first | (go_at_call 84; (with_reducible refine (topiaryref02_At.calls k1 a0_0 _ _ l0_1 x345002_1 t345 _ ?side1 ?side2 A9.out).mono ?_); (case side1 => repeat (first | exact (Kd.V_reads' HO_344001.out).2.2 | (with_reducible refine Kd.C_alloc ?_ _) | (with_reducible refine Kd.C_drewN ?_ _) | (with_reducible refine Kd.C_drew ?_))); (case side2 => exact (Kd.V_reads' HO_344001.out).2.1); rintro e w14 ⟨rfl, hb⟩; have n0_ := Aside0.mk (Kd.V_below (by (with_reducible repeat (first | apply Kd.V_alloc | apply Kd.V_drewN | apply Kd.V_drew)); exact HO_344001.out) hb); have n1_ := Aside0.mk (Kd.V_below (by (with_reducible repeat (first | apply Kd.V_alloc | apply Kd.V_drewN | apply Kd.V_drew)); exact HO_345004.out) hb); have n2_ := Aside0.mk (Kd.V_below (by (with_reducible repeat (first | apply Kd.V_alloc | apply Kd.V_drewN | apply Kd.V_drew)); exact HO_345005.out) hb); have n3_ := Aside0.mk (Kd.V_below (by (with_reducible repeat (first | apply Kd.V_alloc | apply Kd.V_drewN | apply Kd.V_drew)); exact HO_345006.out) hb); have n4_ := Aside0.mk (blk_below (g := gb343) (o := .cells #[.int .i64 a0_0, .slice A0_1 l0_1.length c0_1] 27 (0, 0)) (by (with_reducible repeat (first | refine blk_drewN ?_ _ | refine blk_drew ?_ | refine blk_alloc ?_ _)); exact BK343.out) hb); have n5_ := Aside0.mk (blk_below (g := gb344) (o := .cells #[.int .i64 x345000_1, .string x345001_1, .int .i64 x345002_1, .string x345003_1, u345004, u345005, u345006] 76 (0, 0)) (by (with_reducible repeat (first | refine blk_drewN ?_ _ | refine blk_drew ?_ | refine blk_alloc ?_ _)); exact BK344.out) hb); have n6_ := Aside0.mk (below_step (by repeat (first | (with_reducible first | exact HB.out | apply below_alloc | apply pw_below_drewN | apply below_drew1 | refine below_set ?_ GE343.out | refine below_set ?_ GE344.out) | exact HB.out)) hb); clear HO_344001; clear HO_345004; clear HO_345005; clear HO_345006; clear BK343; clear BK344; clear HB; have HO_344001 := n0_; have HO_345004 := n1_; have HO_345005 := n2_; have HO_345006 := n3_; have BK343 := n4_; have BK344 := n5_; have HB := n6_; clear n0_ n1_ n2_ n3_ n4_ n5_ n6_; (try clear hb); (try clear hb2); (try clear hk); (try clear hi))); try go_wp2_with (first | (go_at_call 84; (with_reducible refine (topiaryref02_At.calls k1 a0_0 _ _ l0_1 x345002_1 t345 _ ?side1 ?side2 A9.out).mono ?_); (case side1 => repeat (first | exact (Kd.V_reads' HO_344001.out).2.2 | (with_reducible refine Kd.C_alloc ?_ _) | (with_reducible refine Kd.C_drewN ?_ _) | (with_reducible refine Kd.C_drew ?_))); (case side2 => exact (Kd.V_reads' HO_344001.out).2.1); rintro e w14 ⟨rfl, hb⟩; have n0_ := Aside0.mk (Kd.V_below (by (with_reducible repeat (first | apply Kd.V_alloc | apply Kd.V_drewN | apply Kd.V_drew)); exact HO_344001.out) hb); have n1_ := Aside0.mk (Kd.V_below (by (with_reducible repeat (first | apply Kd.V_alloc | apply Kd.V_drewN | apply Kd.V_drew)); exact HO_345004.out) hb); have n2_ := Aside0.mk (Kd.V_below (by (with_reducible repeat (first | apply Kd.V_alloc | apply Kd.V_drewN | apply Kd.V_drew)); exact HO_345005.out) hb); have n3_ := Aside0.mk (Kd.V_below (by (with_reducible repeat (first | apply Kd.V_alloc | apply Kd.V_drewN | apply Kd.V_drew)); exact HO_345006.out) hb); have n4_ := Aside0.mk (blk_below (g := gb343) (o := .cells #[.int .i64 a0_0, .slice A0_1 l0_1.length c0_1] 27 (0, 0)) (by (with_reducible repeat (first | refine blk_drewN ?_ _ | refine blk_drew ?_ | refine blk_alloc ?_ _)); exact BK343.out) hb); have n5_ := Aside0.mk (blk_below (g := gb344) (o := .cells #[.int .i64 x345000_1, .string x345001_1, .int .i64 x345002_1, .string x345003_1, u345004, u345005, u345006] 76 (0, 0)) (by (with_reducible repeat (first | refine blk_drewN ?_ _ | refine blk_drew ?_ | refine blk_alloc ?_ _)); exact BK344.out) hb); have n6_ := Aside0.mk (below_step (by repeat (first | (with_reducible first | exact HB.out | apply below_alloc | apply pw_below_drewN | apply below_drew1 | refine below_set ?_ GE343.out | refine below_set ?_ GE344.out) | exact HB.out)) hb); clear HO_344001; clear HO_345004; clear HO_345005; clear HO_345006; clear BK343; clear BK344; clear HB; have HO_344001 := n0_; have HO_345004 := n1_; have HO_345005 := n2_; have HO_345006 := n3_; have BK343 := n4_; have BK344 := n5_; have HB := n6_; clear n0_ n1_ n2_ n3_ n4_ n5_ n6_; (try clear hb); (try clear hb2); (try clear hk); (try clear hi))))
            go_ret
            exact ⟨by first | rfl | (simp [errW_none, errW_some] <;> rfl) | (simp [*, errW_none, errW_some] <;> rfl), by repeat (first | (with_reducible first | exact HB.out | apply below_alloc | apply pw_below_drewN | apply below_drew1 | refine below_set ?_ GE343.out | refine below_set ?_ GE344.out) | exact HB.out)⟩
          · rw [if_neg c10] at H
            have c10b0 : decide (t345 < 0) = false := decide_eq_false c10
            clear c10
            replace H := Option.bind_eq_some_iff.mp H
            obtain ⟨t346, A150, H⟩ := H
            replace H : (if t346 = true then (if 0 ≤ t345 then (if t345 < (l0_1.length : Int) then ((topiaryref02_has.f k1 ((rd_T76 l0_1 t345).f5) x345000_1).bind fun t348 => (if t348 = true then (topiaryref02_below.l0 k1 (wrap64 (x5_1 + 1)) a0_0 l0_1 ((rd_T76 l0_1 t345).f0) ((rd_T76 l0_1 t345).f1) ((rd_T76 l0_1 t345).f2) ((rd_T76 l0_1 t345).f3) ((rd_T76 l0_1 t345).f4) ((rd_T76 l0_1 t345).f5) ((rd_T76 l0_1 t345).f6)) else (some false))) else (none)) else (none)) else (some false)) = some r := H
            have A15 := Aside0.mk A150
            clear A150
            by_cases c16 : t346 = true
            · subst c16
              have H1 : (if 0 ≤ t345 then (if t345 < (l0_1.length : Int) then ((topiaryref02_has.f k1 ((rd_T76 l0_1 t345).f5) x345000_1).bind fun t348 => (if t348 = true then (topiaryref02_below.l0 k1 (wrap64 (x5_1 + 1)) a0_0 l0_1 ((rd_T76 l0_1 t345).f0) ((rd_T76 l0_1 t345).f1) ((rd_T76 l0_1 t345).f2) ((rd_T76 l0_1 t345).f3) ((rd_T76 l0_1 t345).f4) ((rd_T76 l0_1 t345).f5) ((rd_T76 l0_1 t345).f6)) else (some false))) else (none)) else (none)) = some r := by rw [if_pos rfl] at H; exact H
              clear H
              have H := H1
              clear H1
              by_cases c17 : 0 ≤ t345
              · rw [if_pos c17] at H
                have c17b0 : decide (0 ≤ t345) = true := decide_eq_true c17
                clear c17
                by_cases c18 : t345 < (l0_1.length : Int)
                · rw [if_pos c18] at H
                  have c18b0 : decide (t345 < (l0_1.length : Int)) = true := decide_eq_true c18
                  clear c18
                  replace H := Option.bind_eq_some_iff.mp H
                  obtain ⟨t348, A190, H⟩ := H
                  replace H : (if t348 = true then (topiaryref02_below.l0 k1 (wrap64 (x5_1 + 1)) a0_0 l0_1 ((rd_T76 l0_1 t345).f0) ((rd_T76 l0_1 t345).f1) ((rd_T76 l0_1 t345).f2) ((rd_T76 l0_1 t345).f3) ((rd_T76 l0_1 t345).f4) ((rd_T76 l0_1 t345).f5) ((rd_T76 l0_1 t345).f6)) else (some false)) = some r := H
                  have A19 := Aside0.mk A190
                  clear A190
                  by_cases c20 : t348 = true
                  · subst c20
                    have H1 : (topiaryref02_below.l0 k1 (wrap64 (x5_1 + 1)) a0_0 l0_1 ((rd_T76 l0_1 t345).f0) ((rd_T76 l0_1 t345).f1) ((rd_T76 l0_1 t345).f2) ((rd_T76 l0_1 t345).f3) ((rd_T76 l0_1 t345).f4) ((rd_T76 l0_1 t345).f5) ((rd_T76 l0_1 t345).f6)) = some r := by rw [if_pos rfl] at H; exact H
                    clear H
                    have H := H1
                    clear H1
                    have H' := Aside0.mk H
                    clear H
                    have hnb21 := NB344_343.out
                    have hnc21 := NB343_344.out
                    have hcz22_0 : wr.cell? ⟨gb344, 0, none⟩ = some (.int .i64 x345000_1) := (blk_cell BK344.out 0).trans rfl
                    have hcz22_1 : wr.cell? ⟨gb344, 1, none⟩ = some (.string x345001_1) := (blk_cell BK344.out 1).trans rfl
                    have hcz22_2 : wr.cell? ⟨gb344, 2, none⟩ = some (.int .i64 x345002_1) := (blk_cell BK344.out 2).trans rfl
                    have hcz22_3 : wr.cell? ⟨gb344, 3, none⟩ = some (.string x345003_1) := (blk_cell BK344.out 3).trans rfl
                    have hcz22_4 : wr.cell? ⟨gb344, 4, none⟩ = some (u345004) := (blk_cell BK344.out 4).trans rfl
                    have hcz22_5 : wr.cell? ⟨gb344, 5, none⟩ = some (u345005) := (blk_cell BK344.out 5).trans rfl
                    have hcz22_6 : wr.cell? ⟨gb344, 6, none⟩ = some (u345006) := (blk_cell BK344.out 6).trans rfl
                    have hfz22_0 := blk_frozen BK344.out 0
                    have hfz22_1 := blk_frozen BK344.out 1
                    have hfz22_2 := blk_frozen BK344.out 2
                    have hfz22_3 := blk_frozen BK344.out 3
                    have hfz22_4 := blk_frozen BK344.out 4
                    have hfz22_5 := blk_frozen BK344.out 5
                    have hfz22_6 := blk_frozen BK344.out 6
                    have hcz23_0 : wr.cell? ⟨gb343, 0, none⟩ = some (.int .i64 a0_0) := (blk_cell BK343.out 0).trans rfl
                    have hcz23_1 : wr.cell? ⟨gb343, 1, none⟩ = some (.slice A0_1 l0_1.length c0_1) := (blk_cell BK343.out 1).trans rfl
                    have hfz23_0 := blk_frozen BK343.out 0
                    have hfz23_1 := blk_frozen BK343.out 1
                    go_wp2_with (first | (go_at_call 84; (with_reducible refine (topiaryref02_At.calls k1 a0_0 _ _ l0_1 x345002_1 t345 _ ?side1 ?side2 A9.out).mono ?_); (case side1 => repeat (first | exact (Kd.V_reads' HO_344001.out).2.2 | (with_reducible refine Kd.C_alloc ?_ _) | (with_reducible refine Kd.C_drewN ?_ _) | (with_reducible refine Kd.C_drew ?_))); (case side2 => exact (Kd.V_reads' HO_344001.out).2.1); rintro e w24 ⟨rfl, hb⟩; have n0_ := Aside0.mk (Kd.V_below (by (with_reducible repeat (first | apply Kd.V_alloc | apply Kd.V_drewN | apply Kd.V_drew)); exact HO_344001.out) hb); have n1_ := Aside0.mk (Kd.V_below (by (with_reducible repeat (first | apply Kd.V_alloc | apply Kd.V_drewN | apply Kd.V_drew)); exact HO_345004.out) hb); have n2_ := Aside0.mk (Kd.V_below (by (with_reducible repeat (first | apply Kd.V_alloc | apply Kd.V_drewN | apply Kd.V_drew)); exact HO_345005.out) hb); have n3_ := Aside0.mk (Kd.V_below (by (with_reducible repeat (first | apply Kd.V_alloc | apply Kd.V_drewN | apply Kd.V_drew)); exact HO_345006.out) hb); have n4_ := Aside0.mk (blk_below (g := gb343) (o := .cells #[.int .i64 a0_0, .slice A0_1 l0_1.length c0_1] 27 (0, 0)) (by (with_reducible repeat (first | refine blk_drewN ?_ _ | refine blk_drew ?_ | refine blk_alloc ?_ _)); exact BK343.out) hb); have n5_ := Aside0.mk (blk_below (g := gb344) (o := .cells #[.int .i64 x345000_1, .string x345001_1, .int .i64 x345002_1, .string x345003_1, u345004, u345005, u345006] 76 (0, 0)) (by (with_reducible repeat (first | refine blk_drewN ?_ _ | refine blk_drew ?_ | refine blk_alloc ?_ _)); exact BK344.out) hb); have n6_ := Aside0.mk (below_step (by repeat (first | (with_reducible first | exact HB.out | apply below_alloc | apply pw_below_drewN | apply below_drew1 | refine below_set ?_ GE343.out | refine below_set ?_ GE344.out) | exact HB.out)) hb); clear HO_344001; clear HO_345004; clear HO_345005; clear HO_345006; clear BK343; clear BK344; clear HB; have HO_344001 := n0_; have HO_345004 := n1_; have HO_345005 := n2_; have HO_345006 := n3_; have BK343 := n4_; have BK344 := n5_; have HB := n6_; clear n0_ n1_ n2_ n3_ n4_ n5_ n6_; (try clear hb); (try clear hb2); (try clear hk); (try clear hi); have hcz25_0 : w24.cell? ⟨gb344, 0, none⟩ = some (.int .i64 x345000_1) := (blk_cell BK344.out 0).trans rfl; have hcz25_1 : w24.cell? ⟨gb344, 1, none⟩ = some (.string x345001_1) := (blk_cell BK344.out 1).trans rfl; have hcz25_2 : w24.cell? ⟨gb344, 2, none⟩ = some (.int .i64 x345002_1) := (blk_cell BK344.out 2).trans rfl; have hcz25_3 : w24.cell? ⟨gb344, 3, none⟩ = some (.string x345003_1) := (blk_cell BK344.out 3).trans rfl; have hcz25_4 : w24.cell? ⟨gb344, 4, none⟩ = some (u345004) := (blk_cell BK344.out 4).trans rfl; have hcz25_5 : w24.cell? ⟨gb344, 5, none⟩ = some (u345005) := (blk_cell BK344.out 5).trans rfl; have hcz25_6 : w24.cell? ⟨gb344, 6, none⟩ = some (u345006) := (blk_cell BK344.out 6).trans rfl; have hfz25_0 := blk_frozen BK344.out 0; have hfz25_1 := blk_frozen BK344.out 1; have hfz25_2 := blk_frozen BK344.out 2; have hfz25_3 := blk_frozen BK344.out 3; have hfz25_4 := blk_frozen BK344.out 4; have hfz25_5 := blk_frozen BK344.out 5; have hfz25_6 := blk_frozen BK344.out 6) | (go_at_call 83; (with_reducible refine (topiaryref02_Word.calls k1 x345003_1 true _ A15.out).mono ?_); rintro e w' ⟨rfl, ⟨nd, rfl⟩⟩; (try first | exact ⟨rfl, _, World.drewN_drewN _ _ _⟩ | exact ⟨rfl, _, Eq.trans (World.drewN_drewN _ _ _) (congrArg (World.drewN _) (Nat.add_assoc _ _ _))⟩); have hcz26_0 : w24.cell? ⟨gb343, 0, none⟩ = some (.int .i64 a0_0) := (blk_cell BK343.out 0).trans rfl; have hcz26_1 : w24.cell? ⟨gb343, 1, none⟩ = some (.slice A0_1 l0_1.length c0_1) := (blk_cell BK343.out 1).trans rfl; have hfz26_0 := blk_frozen BK343.out 0; have hfz26_1 := blk_frozen BK343.out 1; have p347 : 0 ≤ (t345 : Int) := of_decide_eq_true (by first | (with_reducible assumption) | assumption); have q347 : t345 < (l0_1.length : Int) := of_decide_eq_true (by first | (with_reducible assumption) | assumption); obtain ⟨ad347, A347_4, c347_4, A347_5, c347_5, A347_6, c347_6, e347, hx347_0, hx347_1, hx347_2, hx347_3, hx347_4, hx347_5, hx347_6, hl347_4, hi347_4, hl347_5, hi347_5, hl347_6, hi347_6⟩ := at_T76 (Kd.V_reads' HO_344001.out).2.2 t345 p347 q347; cases e347; obtain ⟨ce347, hce347, hMe347, hcc347⟩ := Kd.V_get HO_344001.out z76 t345 p347 (by first | exact q347 | exact of_decide_eq_true (by first | (with_reducible assumption) | assumption) | (have e_ := (Kd.V_reads' HO_344001.out).1; omega)); obtain ⟨ua347_4, uc347_4, ua347_5, uc347_5, ua347_6, uc347_6, rfl, ul347_4, ge347_4, ul347_5, ge347_5, ul347_6, ge347_6⟩ := k76_openF hMe347; have hv347_4 := hcc347 4 _ rfl; rw [add_field _ _ 4 (by omega)] at hv347_4; replace hv347_4 := Option.some.inj (hv347_4.symm.trans hx347_4); injection hv347_4 with hva_ hvn_ hvc_; rw [hva_] at ge347_4; rw [hvc_] at ul347_4; have HL347_4 := Aside0.mk (show Kd.V k82 82 _ w.heap.size _ _ ((rd_T76 l0_1 t345).f4) from Kd.V_mk ul347_4 ge347_4); clear hva_ hvn_ hvc_ ge347_4 ul347_4; have hv347_5 := hcc347 5 _ rfl; rw [add_field _ _ 5 (by omega)] at hv347_5; replace hv347_5 := Option.some.inj (hv347_5.symm.trans hx347_5); injection hv347_5 with hva_ hvn_ hvc_; rw [hva_] at ge347_5; rw [hvc_] at ul347_5; have HL347_5 := Aside0.mk (show Kd.V (Kd.int .i64) 3 _ w.heap.size _ _ ((rd_T76 l0_1 t345).f5) from Kd.V_mk ul347_5 ge347_5); clear hva_ hvn_ hvc_ ge347_5 ul347_5; have hv347_6 := hcc347 6 _ rfl; rw [add_field _ _ 6 (by omega)] at hv347_6; replace hv347_6 := Option.some.inj (hv347_6.symm.trans hx347_6); injection hv347_6 with hva_ hvn_ hvc_; rw [hva_] at ge347_6; rw [hvc_] at ul347_6; have HL347_6 := Aside0.mk (show Kd.V k84 84 _ w.heap.size _ _ ((rd_T76 l0_1 t345).f6) from Kd.V_mk ul347_6 ge347_6); clear hva_ hvn_ hvc_ ge347_6 ul347_6; clear hcc347 hce347; have HR347_4 := Aside0.mk hi347_4; have HC347_4 := Aside0.mk hl347_4; clear hi347_4 hl347_4; have HR347_5 := Aside0.mk hi347_5; have HC347_5 := Aside0.mk hl347_5; clear hi347_5 hl347_5; have HR347_6 := Aside0.mk hi347_6; have HC347_6 := Aside0.mk hl347_6; clear hi347_6 hl347_6; replace p347 := eq_true p347; replace q347 := eq_true q347) | (go_at_call 85; (with_reducible refine (topiaryref02_has.calls k1 _ _ ((rd_T76 l0_1 t345).f5) x345000_1 true _ ?side1 ?side2 A19.out).mono ?_); (case side1 => repeat (first | exact (by repeat (first | (with_reducible exact HR347_5.out) | (with_reducible refine Kd.C_alloc ?_ _) | (with_reducible refine Kd.C_drewN ?_ _) | (with_reducible refine Kd.C_drew ?_) | exact HR347_5.out)) | (with_reducible refine Kd.C_alloc ?_ _) | (with_reducible refine Kd.C_drewN ?_ _) | (with_reducible refine Kd.C_drew ?_))); (case side2 => exact HC347_5.out); rintro e w' ⟨rfl, ⟨nd, rfl⟩⟩; (try first | exact ⟨rfl, _, World.drewN_drewN _ _ _⟩ | exact ⟨rfl, _, Eq.trans (World.drewN_drewN _ _ _) (congrArg (World.drewN _) (Nat.add_assoc _ _ _))⟩); have p349 : 0 ≤ (t345 : Int) := of_decide_eq_true (by first | (with_reducible assumption) | assumption); have q349 : t345 < (l0_1.length : Int) := of_decide_eq_true (by first | (with_reducible assumption) | assumption); obtain ⟨ad349, A349_4, c349_4, A349_5, c349_5, A349_6, c349_6, e349, hx349_0, hx349_1, hx349_2, hx349_3, hx349_4, hx349_5, hx349_6, hl349_4, hi349_4, hl349_5, hi349_5, hl349_6, hi349_6⟩ := at_T76 (Kd.V_reads' HO_344001.out).2.2 t345 p349 q349; obtain rfl : ad347 = ad349 := (by injection e349); obtain ⟨ce349, hce349, hMe349, hcc349⟩ := Kd.V_get HO_344001.out z76 t345 p349 (by first | exact q349 | exact of_decide_eq_true (by first | (with_reducible assumption) | assumption) | (have e_ := (Kd.V_reads' HO_344001.out).1; omega)); obtain ⟨ua349_4, uc349_4, ua349_5, uc349_5, ua349_6, uc349_6, rfl, ul349_4, ge349_4, ul349_5, ge349_5, ul349_6, ge349_6⟩ := k76_openF hMe349; have hv349_4 := hcc349 4 _ rfl; rw [add_field _ _ 4 (by omega)] at hv349_4; replace hv349_4 := Option.some.inj (hv349_4.symm.trans hx349_4); injection hv349_4 with hva_ hvn_ hvc_; rw [hva_] at ge349_4; rw [hvc_] at ul349_4; have HL349_4 := Aside0.mk (show Kd.V k82 82 _ w.heap.size _ _ ((rd_T76 l0_1 t345).f4) from Kd.V_mk ul349_4 ge349_4); clear hva_ hvn_ hvc_ ge349_4 ul349_4; have hv349_5 := hcc349 5 _ rfl; rw [add_field _ _ 5 (by omega)] at hv349_5; replace hv349_5 := Option.some.inj (hv349_5.symm.trans hx349_5); injection hv349_5 with hva_ hvn_ hvc_; rw [hva_] at ge349_5; rw [hvc_] at ul349_5; have HL349_5 := Aside0.mk (show Kd.V (Kd.int .i64) 3 _ w.heap.size _ _ ((rd_T76 l0_1 t345).f5) from Kd.V_mk ul349_5 ge349_5); clear hva_ hvn_ hvc_ ge349_5 ul349_5; have hv349_6 := hcc349 6 _ rfl; rw [add_field _ _ 6 (by omega)] at hv349_6; replace hv349_6 := Option.some.inj (hv349_6.symm.trans hx349_6); injection hv349_6 with hva_ hvn_ hvc_; rw [hva_] at ge349_6; rw [hvc_] at ul349_6; have HL349_6 := Aside0.mk (show Kd.V k84 84 _ w.heap.size _ _ ((rd_T76 l0_1 t345).f6) from Kd.V_mk ul349_6 ge349_6); clear hva_ hvn_ hvc_ ge349_6 ul349_6; clear hcc349 hce349; have HR349_4 := Aside0.mk hi349_4; have HC349_4 := Aside0.mk hl349_4; clear hi349_4 hl349_4; have HR349_5 := Aside0.mk hi349_5; have HC349_5 := Aside0.mk hl349_5; clear hi349_5 hl349_5; have HR349_6 := Aside0.mk hi349_6; have HC349_6 := Aside0.mk hl349_6; clear hi349_6 hl349_6; replace p349 := eq_true p349; replace q349 := eq_true q349; have ea_ := Option.some.inj (hx347_4.symm.trans hx349_4); injection ea_ with ea_ en_ ec_; subst ea_; subst ec_; clear en_; have ea_ := Option.some.inj (hx347_5.symm.trans hx349_5); injection ea_ with ea_ en_ ec_; subst ea_; subst ec_; clear en_; have ea_ := Option.some.inj (hx347_6.symm.trans hx349_6); injection ea_ with ea_ en_ ec_; subst ea_; subst ec_; clear en_))
                    repeat (go_quiet (first | (go_at_call 84; (with_reducible refine (topiaryref02_At.calls k1 a0_0 _ _ l0_1 x345002_1 t345 _ ?side1 ?side2 A9.out).mono ?_); (case side1 => repeat (first | exact (Kd.V_reads' HO_344001.out).2.2 | (with_reducible refine Kd.C_alloc ?_ _) | (with_reducible refine Kd.C_drewN ?_ _) | (with_reducible refine Kd.C_drew ?_))); (case side2 => exact (Kd.V_reads' HO_344001.out).2.1); rintro e w24 ⟨rfl, hb⟩; have n0_ := Aside0.mk (Kd.V_below (by (with_reducible repeat (first | apply Kd.V_alloc | apply Kd.V_drewN | apply Kd.V_drew)); exact HO_344001.out) hb); have n1_ := Aside0.mk (Kd.V_below (by (with_reducible repeat (first | apply Kd.V_alloc | apply Kd.V_drewN | apply Kd.V_drew)); exact HO_345004.out) hb); have n2_ := Aside0.mk (Kd.V_below (by (with_reducible repeat (first | apply Kd.V_alloc | apply Kd.V_drewN | apply Kd.V_drew)); exact HO_345005.out) hb); have n3_ := Aside0.mk (Kd.V_below (by (with_reducible repeat (first | apply Kd.V_alloc | apply Kd.V_drewN | apply Kd.V_drew)); exact HO_345006.out) hb); have n4_ := Aside0.mk (blk_below (g := gb343) (o := .cells #[.int .i64 a0_0, .slice A0_1 l0_1.length c0_1] 27 (0, 0)) (by (with_reducible repeat (first | refine blk_drewN ?_ _ | refine blk_drew ?_ | refine blk_alloc ?_ _)); exact BK343.out) hb); have n5_ := Aside0.mk (blk_below (g := gb344) (o := .cells #[.int .i64 x345000_1, .string x345001_1, .int .i64 x345002_1, .string x345003_1, u345004, u345005, u345006] 76 (0, 0)) (by (with_reducible repeat (first | refine blk_drewN ?_ _ | refine blk_drew ?_ | refine blk_alloc ?_ _)); exact BK344.out) hb); have n6_ := Aside0.mk (below_step (by repeat (first | (with_reducible first | exact HB.out | apply below_alloc | apply pw_below_drewN | apply below_drew1 | refine below_set ?_ GE343.out | refine below_set ?_ GE344.out) | exact HB.out)) hb); clear HO_344001; clear HO_345004; clear HO_345005; clear HO_345006; clear BK343; clear BK344; clear HB; have HO_344001 := n0_; have HO_345004 := n1_; have HO_345005 := n2_; have HO_345006 := n3_; have BK343 := n4_; have BK344 := n5_; have HB := n6_; clear n0_ n1_ n2_ n3_ n4_ n5_ n6_; (try clear hb); (try clear hb2); (try clear hk); (try clear hi); have hcz25_0 : w24.cell? ⟨gb344, 0, none⟩ = some (.int .i64 x345000_1) := (blk_cell BK344.out 0).trans rfl; have hcz25_1 : w24.cell? ⟨gb344, 1, none⟩ = some (.string x345001_1) := (blk_cell BK344.out 1).trans rfl; have hcz25_2 : w24.cell? ⟨gb344, 2, none⟩ = some (.int .i64 x345002_1) := (blk_cell BK344.out 2).trans rfl; have hcz25_3 : w24.cell? ⟨gb344, 3, none⟩ = some (.string x345003_1) := (blk_cell BK344.out 3).trans rfl; have hcz25_4 : w24.cell? ⟨gb344, 4, none⟩ = some (u345004) := (blk_cell BK344.out 4).trans rfl; have hcz25_5 : w24.cell? ⟨gb344, 5, none⟩ = some (u345005) := (blk_cell BK344.out 5).trans rfl; have hcz25_6 : w24.cell? ⟨gb344, 6, none⟩ = some (u345006) := (blk_cell BK344.out 6).trans rfl; have hfz25_0 := blk_frozen BK344.out 0; have hfz25_1 := blk_frozen BK344.out 1; have hfz25_2 := blk_frozen BK344.out 2; have hfz25_3 := blk_frozen BK344.out 3; have hfz25_4 := blk_frozen BK344.out 4; have hfz25_5 := blk_frozen BK344.out 5; have hfz25_6 := blk_frozen BK344.out 6) | (go_at_call 83; (with_reducible refine (topiaryref02_Word.calls k1 x345003_1 true _ A15.out).mono ?_); rintro e w' ⟨rfl, ⟨nd, rfl⟩⟩; (try first | exact ⟨rfl, _, World.drewN_drewN _ _ _⟩ | exact ⟨rfl, _, Eq.trans (World.drewN_drewN _ _ _) (congrArg (World.drewN _) (Nat.add_assoc _ _ _))⟩); have hcz26_0 : w24.cell? ⟨gb343, 0, none⟩ = some (.int .i64 a0_0) := (blk_cell BK343.out 0).trans rfl; have hcz26_1 : w24.cell? ⟨gb343, 1, none⟩ = some (.slice A0_1 l0_1.length c0_1) := (blk_cell BK343.out 1).trans rfl; have hfz26_0 := blk_frozen BK343.out 0; have hfz26_1 := blk_frozen BK343.out 1; have p347 : 0 ≤ (t345 : Int) := of_decide_eq_true (by first | (with_reducible assumption) | assumption); have q347 : t345 < (l0_1.length : Int) := of_decide_eq_true (by first | (with_reducible assumption) | assumption); obtain ⟨ad347, A347_4, c347_4, A347_5, c347_5, A347_6, c347_6, e347, hx347_0, hx347_1, hx347_2, hx347_3, hx347_4, hx347_5, hx347_6, hl347_4, hi347_4, hl347_5, hi347_5, hl347_6, hi347_6⟩ := at_T76 (Kd.V_reads' HO_344001.out).2.2 t345 p347 q347; cases e347; obtain ⟨ce347, hce347, hMe347, hcc347⟩ := Kd.V_get HO_344001.out z76 t345 p347 (by first | exact q347 | exact of_decide_eq_true (by first | (with_reducible assumption) | assumption) | (have e_ := (Kd.V_reads' HO_344001.out).1; omega)); obtain ⟨ua347_4, uc347_4, ua347_5, uc347_5, ua347_6, uc347_6, rfl, ul347_4, ge347_4, ul347_5, ge347_5, ul347_6, ge347_6⟩ := k76_openF hMe347; have hv347_4 := hcc347 4 _ rfl; rw [add_field _ _ 4 (by omega)] at hv347_4; replace hv347_4 := Option.some.inj (hv347_4.symm.trans hx347_4); injection hv347_4 with hva_ hvn_ hvc_; rw [hva_] at ge347_4; rw [hvc_] at ul347_4; have HL347_4 := Aside0.mk (show Kd.V k82 82 _ w.heap.size _ _ ((rd_T76 l0_1 t345).f4) from Kd.V_mk ul347_4 ge347_4); clear hva_ hvn_ hvc_ ge347_4 ul347_4; have hv347_5 := hcc347 5 _ rfl; rw [add_field _ _ 5 (by omega)] at hv347_5; replace hv347_5 := Option.some.inj (hv347_5.symm.trans hx347_5); injection hv347_5 with hva_ hvn_ hvc_; rw [hva_] at ge347_5; rw [hvc_] at ul347_5; have HL347_5 := Aside0.mk (show Kd.V (Kd.int .i64) 3 _ w.heap.size _ _ ((rd_T76 l0_1 t345).f5) from Kd.V_mk ul347_5 ge347_5); clear hva_ hvn_ hvc_ ge347_5 ul347_5; have hv347_6 := hcc347 6 _ rfl; rw [add_field _ _ 6 (by omega)] at hv347_6; replace hv347_6 := Option.some.inj (hv347_6.symm.trans hx347_6); injection hv347_6 with hva_ hvn_ hvc_; rw [hva_] at ge347_6; rw [hvc_] at ul347_6; have HL347_6 := Aside0.mk (show Kd.V k84 84 _ w.heap.size _ _ ((rd_T76 l0_1 t345).f6) from Kd.V_mk ul347_6 ge347_6); clear hva_ hvn_ hvc_ ge347_6 ul347_6; clear hcc347 hce347; have HR347_4 := Aside0.mk hi347_4; have HC347_4 := Aside0.mk hl347_4; clear hi347_4 hl347_4; have HR347_5 := Aside0.mk hi347_5; have HC347_5 := Aside0.mk hl347_5; clear hi347_5 hl347_5; have HR347_6 := Aside0.mk hi347_6; have HC347_6 := Aside0.mk hl347_6; clear hi347_6 hl347_6; replace p347 := eq_true p347; replace q347 := eq_true q347) | (go_at_call 85; (with_reducible refine (topiaryref02_has.calls k1 _ _ ((rd_T76 l0_1 t345).f5) x345000_1 true _ ?side1 ?side2 A19.out).mono ?_); (case side1 => repeat (first | exact (by repeat (first | (with_reducible exact HR347_5.out) | (with_reducible refine Kd.C_alloc ?_ _) | (with_reducible refine Kd.C_drewN ?_ _) | (with_reducible refine Kd.C_drew ?_) | exact HR347_5.out)) | (with_reducible refine Kd.C_alloc ?_ _) | (with_reducible refine Kd.C_drewN ?_ _) | (with_reducible refine Kd.C_drew ?_))); (case side2 => exact HC347_5.out); rintro e w' ⟨rfl, ⟨nd, rfl⟩⟩; (try first | exact ⟨rfl, _, World.drewN_drewN _ _ _⟩ | exact ⟨rfl, _, Eq.trans (World.drewN_drewN _ _ _) (congrArg (World.drewN _) (Nat.add_assoc _ _ _))⟩); have p349 : 0 ≤ (t345 : Int) := of_decide_eq_true (by first | (with_reducible assumption) | assumption); have q349 : t345 < (l0_1.length : Int) := of_decide_eq_true (by first | (with_reducible assumption) | assumption); obtain ⟨ad349, A349_4, c349_4, A349_5, c349_5, A349_6, c349_6, e349, hx349_0, hx349_1, hx349_2, hx349_3, hx349_4, hx349_5, hx349_6, hl349_4, hi349_4, hl349_5, hi349_5, hl349_6, hi349_6⟩ := at_T76 (Kd.V_reads' HO_344001.out).2.2 t345 p349 q349; obtain rfl : ad347 = ad349 := (by injection e349); obtain ⟨ce349, hce349, hMe349, hcc349⟩ := Kd.V_get HO_344001.out z76 t345 p349 (by first | exact q349 | exact of_decide_eq_true (by first | (with_reducible assumption) | assumption) | (have e_ := (Kd.V_reads' HO_344001.out).1; omega)); obtain ⟨ua349_4, uc349_4, ua349_5, uc349_5, ua349_6, uc349_6, rfl, ul349_4, ge349_4, ul349_5, ge349_5, ul349_6, ge349_6⟩ := k76_openF hMe349; have hv349_4 := hcc349 4 _ rfl; rw [add_field _ _ 4 (by omega)] at hv349_4; replace hv349_4 := Option.some.inj (hv349_4.symm.trans hx349_4); injection hv349_4 with hva_ hvn_ hvc_; rw [hva_] at ge349_4; rw [hvc_] at ul349_4; have HL349_4 := Aside0.mk (show Kd.V k82 82 _ w.heap.size _ _ ((rd_T76 l0_1 t345).f4) from Kd.V_mk ul349_4 ge349_4); clear hva_ hvn_ hvc_ ge349_4 ul349_4; have hv349_5 := hcc349 5 _ rfl; rw [add_field _ _ 5 (by omega)] at hv349_5; replace hv349_5 := Option.some.inj (hv349_5.symm.trans hx349_5); injection hv349_5 with hva_ hvn_ hvc_; rw [hva_] at ge349_5; rw [hvc_] at ul349_5; have HL349_5 := Aside0.mk (show Kd.V (Kd.int .i64) 3 _ w.heap.size _ _ ((rd_T76 l0_1 t345).f5) from Kd.V_mk ul349_5 ge349_5); clear hva_ hvn_ hvc_ ge349_5 ul349_5; have hv349_6 := hcc349 6 _ rfl; rw [add_field _ _ 6 (by omega)] at hv349_6; replace hv349_6 := Option.some.inj (hv349_6.symm.trans hx349_6); injection hv349_6 with hva_ hvn_ hvc_; rw [hva_] at ge349_6; rw [hvc_] at ul349_6; have HL349_6 := Aside0.mk (show Kd.V k84 84 _ w.heap.size _ _ ((rd_T76 l0_1 t345).f6) from Kd.V_mk ul349_6 ge349_6); clear hva_ hvn_ hvc_ ge349_6 ul349_6; clear hcc349 hce349; have HR349_4 := Aside0.mk hi349_4; have HC349_4 := Aside0.mk hl349_4; clear hi349_4 hl349_4; have HR349_5 := Aside0.mk hi349_5; have HC349_5 := Aside0.mk hl349_5; clear hi349_5 hl349_5; have HR349_6 := Aside0.mk hi349_6; have HC349_6 := Aside0.mk hl349_6; clear hi349_6 hl349_6; replace p349 := eq_true p349; replace q349 := eq_true q349; have ea_ := Option.some.inj (hx347_4.symm.trans hx349_4); injection ea_ with ea_ en_ ec_; subst ea_; subst ec_; clear en_; have ea_ := Option.some.inj (hx347_5.symm.trans hx349_5); injection ea_ with ea_ en_ ec_; subst ea_; subst ec_; clear en_; have ea_ := Option.some.inj (hx347_6.symm.trans hx349_6); injection ea_ with ea_ en_ ec_; subst ea_; subst ec_; clear en_)); try go_wp2_with (first | (go_at_call 84; (with_reducible refine (topiaryref02_At.calls k1 a0_0 _ _ l0_1 x345002_1 t345 _ ?side1 ?side2 A9.out).mono ?_); (case side1 => repeat (first | exact (Kd.V_reads' HO_344001.out).2.2 | (with_reducible refine Kd.C_alloc ?_ _) | (with_reducible refine Kd.C_drewN ?_ _) | (with_reducible refine Kd.C_drew ?_))); (case side2 => exact (Kd.V_reads' HO_344001.out).2.1); rintro e w24 ⟨rfl, hb⟩; have n0_ := Aside0.mk (Kd.V_below (by (with_reducible repeat (first | apply Kd.V_alloc | apply Kd.V_drewN | apply Kd.V_drew)); exact HO_344001.out) hb); have n1_ := Aside0.mk (Kd.V_below (by (with_reducible repeat (first | apply Kd.V_alloc | apply Kd.V_drewN | apply Kd.V_drew)); exact HO_345004.out) hb); have n2_ := Aside0.mk (Kd.V_below (by (with_reducible repeat (first | apply Kd.V_alloc | apply Kd.V_drewN | apply Kd.V_drew)); exact HO_345005.out) hb); have n3_ := Aside0.mk (Kd.V_below (by (with_reducible repeat (first | apply Kd.V_alloc | apply Kd.V_drewN | apply Kd.V_drew)); exact HO_345006.out) hb); have n4_ := Aside0.mk (blk_below (g := gb343) (o := .cells #[.int .i64 a0_0, .slice A0_1 l0_1.length c0_1] 27 (0, 0)) (by (with_reducible repeat (first | refine blk_drewN ?_ _ | refine blk_drew ?_ | refine blk_alloc ?_ _)); exact BK343.out) hb); have n5_ := Aside0.mk (blk_below (g := gb344) (o := .cells #[.int .i64 x345000_1, .string x345001_1, .int .i64 x345002_1, .string x345003_1, u345004, u345005, u345006] 76 (0, 0)) (by (with_reducible repeat (first | refine blk_drewN ?_ _ | refine blk_drew ?_ | refine blk_alloc ?_ _)); exact BK344.out) hb); have n6_ := Aside0.mk (below_step (by repeat (first | (with_reducible first | exact HB.out | apply below_alloc | apply pw_below_drewN | apply below_drew1 | refine below_set ?_ GE343.out | refine below_set ?_ GE344.out) | exact HB.out)) hb); clear HO_344001; clear HO_345004; clear HO_345005; clear HO_345006; clear BK343; clear BK344; clear HB; have HO_344001 := n0_; have HO_345004 := n1_; have HO_345005 := n2_; have HO_345006 := n3_; have BK343 := n4_; have BK344 := n5_; have HB := n6_; clear n0_ n1_ n2_ n3_ n4_ n5_ n6_; (try clear hb); (try clear hb2); (try clear hk); (try clear hi); have hcz25_0 : w24.cell? ⟨gb344, 0, none⟩ = some (.int .i64 x345000_1) := (blk_cell BK344.out 0).trans rfl; have hcz25_1 : w24.cell? ⟨gb344, 1, none⟩ = some (.string x345001_1) := (blk_cell BK344.out 1).trans rfl; have hcz25_2 : w24.cell? ⟨gb344, 2, none⟩ = some (.int .i64 x345002_1) := (blk_cell BK344.out 2).trans rfl; have hcz25_3 : w24.cell? ⟨gb344, 3, none⟩ = some (.string x345003_1) := (blk_cell BK344.out 3).trans rfl; have hcz25_4 : w24.cell? ⟨gb344, 4, none⟩ = some (u345004) := (blk_cell BK344.out 4).trans rfl; have hcz25_5 : w24.cell? ⟨gb344, 5, none⟩ = some (u345005) := (blk_cell BK344.out 5).trans rfl; have hcz25_6 : w24.cell? ⟨gb344, 6, none⟩ = some (u345006) := (blk_cell BK344.out 6).trans rfl; have hfz25_0 := blk_frozen BK344.out 0; have hfz25_1 := blk_frozen BK344.out 1; have hfz25_2 := blk_frozen BK344.out 2; have hfz25_3 := blk_frozen BK344.out 3; have hfz25_4 := blk_frozen BK344.out 4; have hfz25_5 := blk_frozen BK344.out 5; have hfz25_6 := blk_frozen BK344.out 6) | (go_at_call 83; (with_reducible refine (topiaryref02_Word.calls k1 x345003_1 true _ A15.out).mono ?_); rintro e w' ⟨rfl, ⟨nd, rfl⟩⟩; (try first | exact ⟨rfl, _, World.drewN_drewN _ _ _⟩ | exact ⟨rfl, _, Eq.trans (World.drewN_drewN _ _ _) (congrArg (World.drewN _) (Nat.add_assoc _ _ _))⟩); have hcz26_0 : w24.cell? ⟨gb343, 0, none⟩ = some (.int .i64 a0_0) := (blk_cell BK343.out 0).trans rfl; have hcz26_1 : w24.cell? ⟨gb343, 1, none⟩ = some (.slice A0_1 l0_1.length c0_1) := (blk_cell BK343.out 1).trans rfl; have hfz26_0 := blk_frozen BK343.out 0; have hfz26_1 := blk_frozen BK343.out 1; have p347 : 0 ≤ (t345 : Int) := of_decide_eq_true (by first | (with_reducible assumption) | assumption); have q347 : t345 < (l0_1.length : Int) := of_decide_eq_true (by first | (with_reducible assumption) | assumption); obtain ⟨ad347, A347_4, c347_4, A347_5, c347_5, A347_6, c347_6, e347, hx347_0, hx347_1, hx347_2, hx347_3, hx347_4, hx347_5, hx347_6, hl347_4, hi347_4, hl347_5, hi347_5, hl347_6, hi347_6⟩ := at_T76 (Kd.V_reads' HO_344001.out).2.2 t345 p347 q347; cases e347; obtain ⟨ce347, hce347, hMe347, hcc347⟩ := Kd.V_get HO_344001.out z76 t345 p347 (by first | exact q347 | exact of_decide_eq_true (by first | (with_reducible assumption) | assumption) | (have e_ := (Kd.V_reads' HO_344001.out).1; omega)); obtain ⟨ua347_4, uc347_4, ua347_5, uc347_5, ua347_6, uc347_6, rfl, ul347_4, ge347_4, ul347_5, ge347_5, ul347_6, ge347_6⟩ := k76_openF hMe347; have hv347_4 := hcc347 4 _ rfl; rw [add_field _ _ 4 (by omega)] at hv347_4; replace hv347_4 := Option.some.inj (hv347_4.symm.trans hx347_4); injection hv347_4 with hva_ hvn_ hvc_; rw [hva_] at ge347_4; rw [hvc_] at ul347_4; have HL347_4 := Aside0.mk (show Kd.V k82 82 _ w.heap.size _ _ ((rd_T76 l0_1 t345).f4) from Kd.V_mk ul347_4 ge347_4); clear hva_ hvn_ hvc_ ge347_4 ul347_4; have hv347_5 := hcc347 5 _ rfl; rw [add_field _ _ 5 (by omega)] at hv347_5; replace hv347_5 := Option.some.inj (hv347_5.symm.trans hx347_5); injection hv347_5 with hva_ hvn_ hvc_; rw [hva_] at ge347_5; rw [hvc_] at ul347_5; have HL347_5 := Aside0.mk (show Kd.V (Kd.int .i64) 3 _ w.heap.size _ _ ((rd_T76 l0_1 t345).f5) from Kd.V_mk ul347_5 ge347_5); clear hva_ hvn_ hvc_ ge347_5 ul347_5; have hv347_6 := hcc347 6 _ rfl; rw [add_field _ _ 6 (by omega)] at hv347_6; replace hv347_6 := Option.some.inj (hv347_6.symm.trans hx347_6); injection hv347_6 with hva_ hvn_ hvc_; rw [hva_] at ge347_6; rw [hvc_] at ul347_6; have HL347_6 := Aside0.mk (show Kd.V k84 84 _ w.heap.size _ _ ((rd_T76 l0_1 t345).f6) from Kd.V_mk ul347_6 ge347_6); clear hva_ hvn_ hvc_ ge347_6 ul347_6; clear hcc347 hce347; have HR347_4 := Aside0.mk hi347_4; have HC347_4 := Aside0.mk hl347_4; clear hi347_4 hl347_4; have HR347_5 := Aside0.mk hi347_5; have HC347_5 := Aside0.mk hl347_5; clear hi347_5 hl347_5; have HR347_6 := Aside0.mk hi347_6; have HC347_6 := Aside0.mk hl347_6; clear hi347_6 hl347_6; replace p347 := eq_true p347; replace q347 := eq_true q347) | (go_at_call 85; (with_reducible refine (topiaryref02_has.calls k1 _ _ ((rd_T76 l0_1 t345).f5) x345000_1 true _ ?side1 ?side2 A19.out).mono ?_); (case side1 => repeat (first | exact (by repeat (first | (with_reducible exact HR347_5.out) | (with_reducible refine Kd.C_alloc ?_ _) | (with_reducible refine Kd.C_drewN ?_ _) | (with_reducible refine Kd.C_drew ?_) | exact HR347_5.out)) | (with_reducible refine Kd.C_alloc ?_ _) | (with_reducible refine Kd.C_drewN ?_ _) | (with_reducible refine Kd.C_drew ?_))); (case side2 => exact HC347_5.out); rintro e w' ⟨rfl, ⟨nd, rfl⟩⟩; (try first | exact ⟨rfl, _, World.drewN_drewN _ _ _⟩ | exact ⟨rfl, _, Eq.trans (World.drewN_drewN _ _ _) (congrArg (World.drewN _) (Nat.add_assoc _ _ _))⟩); have p349 : 0 ≤ (t345 : Int) := of_decide_eq_true (by first | (with_reducible assumption) | assumption); have q349 : t345 < (l0_1.length : Int) := of_decide_eq_true (by first | (with_reducible assumption) | assumption); obtain ⟨ad349, A349_4, c349_4, A349_5, c349_5, A349_6, c349_6, e349, hx349_0, hx349_1, hx349_2, hx349_3, hx349_4, hx349_5, hx349_6, hl349_4, hi349_4, hl349_5, hi349_5, hl349_6, hi349_6⟩ := at_T76 (Kd.V_reads' HO_344001.out).2.2 t345 p349 q349; obtain rfl : ad347 = ad349 := (by injection e349); obtain ⟨ce349, hce349, hMe349, hcc349⟩ := Kd.V_get HO_344001.out z76 t345 p349 (by first | exact q349 | exact of_decide_eq_true (by first | (with_reducible assumption) | assumption) | (have e_ := (Kd.V_reads' HO_344001.out).1; omega)); obtain ⟨ua349_4, uc349_4, ua349_5, uc349_5, ua349_6, uc349_6, rfl, ul349_4, ge349_4, ul349_5, ge349_5, ul349_6, ge349_6⟩ := k76_openF hMe349; have hv349_4 := hcc349 4 _ rfl; rw [add_field _ _ 4 (by omega)] at hv349_4; replace hv349_4 := Option.some.inj (hv349_4.symm.trans hx349_4); injection hv349_4 with hva_ hvn_ hvc_; rw [hva_] at ge349_4; rw [hvc_] at ul349_4; have HL349_4 := Aside0.mk (show Kd.V k82 82 _ w.heap.size _ _ ((rd_T76 l0_1 t345).f4) from Kd.V_mk ul349_4 ge349_4); clear hva_ hvn_ hvc_ ge349_4 ul349_4; have hv349_5 := hcc349 5 _ rfl; rw [add_field _ _ 5 (by omega)] at hv349_5; replace hv349_5 := Option.some.inj (hv349_5.symm.trans hx349_5); injection hv349_5 with hva_ hvn_ hvc_; rw [hva_] at ge349_5; rw [hvc_] at ul349_5; have HL349_5 := Aside0.mk (show Kd.V (Kd.int .i64) 3 _ w.heap.size _ _ ((rd_T76 l0_1 t345).f5) from Kd.V_mk ul349_5 ge349_5); clear hva_ hvn_ hvc_ ge349_5 ul349_5; have hv349_6 := hcc349 6 _ rfl; rw [add_field _ _ 6 (by omega)] at hv349_6; replace hv349_6 := Option.some.inj (hv349_6.symm.trans hx349_6); injection hv349_6 with hva_ hvn_ hvc_; rw [hva_] at ge349_6; rw [hvc_] at ul349_6; have HL349_6 := Aside0.mk (show Kd.V k84 84 _ w.heap.size _ _ ((rd_T76 l0_1 t345).f6) from Kd.V_mk ul349_6 ge349_6); clear hva_ hvn_ hvc_ ge349_6 ul349_6; clear hcc349 hce349; have HR349_4 := Aside0.mk hi349_4; have HC349_4 := Aside0.mk hl349_4; clear hi349_4 hl349_4; have HR349_5 := Aside0.mk hi349_5; have HC349_5 := Aside0.mk hl349_5; clear hi349_5 hl349_5; have HR349_6 := Aside0.mk hi349_6; have HC349_6 := Aside0.mk hl349_6; clear hi349_6 hl349_6; replace p349 := eq_true p349; replace q349 := eq_true q349; have ea_ := Option.some.inj (hx347_4.symm.trans hx349_4); injection ea_ with ea_ en_ ec_; subst ea_; subst ec_; clear en_; have ea_ := Option.some.inj (hx347_5.symm.trans hx349_5); injection ea_ with ea_ en_ ec_; subst ea_; subst ec_; clear en_; have ea_ := Option.some.inj (hx347_6.symm.trans hx349_6); injection ea_ with ea_ en_ ec_; subst ea_; subst ec_; clear en_)))
                    go_roundg k1
                    case measure => have := HK1.out; omega
                    case rel => exact ⟨(wrap64 (x5_1 + 1)), ((rd_T76 l0_1 t345).f0), ((rd_T76 l0_1 t345).f1), ((rd_T76 l0_1 t345).f2), ((rd_T76 l0_1 t345).f3), ((rd_T76 l0_1 t345).f4), ((rd_T76 l0_1 t345).f5), ((rd_T76 l0_1 t345).f6), (.slice A347_4 ((rd_T76 l0_1 t345).f4).length c347_4), (.slice A347_5 ((rd_T76 l0_1 t345).f5).length c347_5), (.slice A347_6 ((rd_T76 l0_1 t345).f6).length c347_6), (by first | rfl | (simp; done) | (simp [*]; done)), H', ⟨by have := HK1.out; omega⟩, ⟨by (with_reducible repeat (first | apply Kd.V_alloc | apply Kd.V_drewN | apply Kd.V_drew)); exact Kd.V_mono (Kd.V_far (p := ⟨gb344, 6, none⟩) (Kd.V_far (p := ⟨gb344, 5, none⟩) (Kd.V_far (p := ⟨gb344, 4, none⟩) (Kd.V_far (p := ⟨gb344, 3, none⟩) (Kd.V_far (p := ⟨gb344, 2, none⟩) (Kd.V_far (p := ⟨gb344, 1, none⟩) (Kd.V_far (p := ⟨gb344, 0, none⟩) (Kd.V_mono HO_344001.out (fun k_ hk => (⟨hk, hk.2.2⟩ : _ ∧ k_ ≠ gb344))) (fun _ hk => hk.2) (.int .i64 ((rd_T76 l0_1 t345).f0))) (fun _ hk => hk.2) (.string ((rd_T76 l0_1 t345).f1))) (fun _ hk => hk.2) (.int .i64 ((rd_T76 l0_1 t345).f2))) (fun _ hk => hk.2) (.string ((rd_T76 l0_1 t345).f3))) (fun _ hk => hk.2) (.slice A347_4 ((rd_T76 l0_1 t345).f4).length c347_4)) (fun _ hk => hk.2) (.slice A347_5 ((rd_T76 l0_1 t345).f5).length c347_5)) (fun _ hk => hk.2) (.slice A347_6 ((rd_T76 l0_1 t345).f6).length c347_6)) (fun _ hk => ⟨hk.1.1, ⟨hk.1.2.1, hk.1.2.2⟩⟩)⟩, ⟨by (with_reducible repeat (first | apply Kd.V_alloc | apply Kd.V_drewN | apply Kd.V_drew)); exact Kd.V_mono (Kd.V_far (p := ⟨gb344, 6, none⟩) (Kd.V_far (p := ⟨gb344, 5, none⟩) (Kd.V_far (p := ⟨gb344, 4, none⟩) (Kd.V_far (p := ⟨gb344, 3, none⟩) (Kd.V_far (p := ⟨gb344, 2, none⟩) (Kd.V_far (p := ⟨gb344, 1, none⟩) (Kd.V_far (p := ⟨gb344, 0, none⟩) (Kd.V_mono HL349_4.out (fun k_ hk => (⟨hk, hk.2.2⟩ : _ ∧ k_ ≠ gb344))) (fun _ hk => hk.2) (.int .i64 ((rd_T76 l0_1 t345).f0))) (fun _ hk => hk.2) (.string ((rd_T76 l0_1 t345).f1))) (fun _ hk => hk.2) (.int .i64 ((rd_T76 l0_1 t345).f2))) (fun _ hk => hk.2) (.string ((rd_T76 l0_1 t345).f3))) (fun _ hk => hk.2) (.slice A347_4 ((rd_T76 l0_1 t345).f4).length c347_4)) (fun _ hk => hk.2) (.slice A347_5 ((rd_T76 l0_1 t345).f5).length c347_5)) (fun _ hk => hk.2) (.slice A347_6 ((rd_T76 l0_1 t345).f6).length c347_6)) (fun _ hk => ⟨hk.1.1, ⟨hk.1.2.1, hk.1.2.2⟩⟩)⟩, ⟨by (with_reducible repeat (first | apply Kd.V_alloc | apply Kd.V_drewN | apply Kd.V_drew)); exact Kd.V_mono (Kd.V_far (p := ⟨gb344, 6, none⟩) (Kd.V_far (p := ⟨gb344, 5, none⟩) (Kd.V_far (p := ⟨gb344, 4, none⟩) (Kd.V_far (p := ⟨gb344, 3, none⟩) (Kd.V_far (p := ⟨gb344, 2, none⟩) (Kd.V_far (p := ⟨gb344, 1, none⟩) (Kd.V_far (p := ⟨gb344, 0, none⟩) (Kd.V_mono HL349_5.out (fun k_ hk => (⟨hk, hk.2.2⟩ : _ ∧ k_ ≠ gb344))) (fun _ hk => hk.2) (.int .i64 ((rd_T76 l0_1 t345).f0))) (fun _ hk => hk.2) (.string ((rd_T76 l0_1 t345).f1))) (fun _ hk => hk.2) (.int .i64 ((rd_T76 l0_1 t345).f2))) (fun _ hk => hk.2) (.string ((rd_T76 l0_1 t345).f3))) (fun _ hk => hk.2) (.slice A347_4 ((rd_T76 l0_1 t345).f4).length c347_4)) (fun _ hk => hk.2) (.slice A347_5 ((rd_T76 l0_1 t345).f5).length c347_5)) (fun _ hk => hk.2) (.slice A347_6 ((rd_T76 l0_1 t345).f6).length c347_6)) (fun _ hk => ⟨hk.1.1, ⟨hk.1.2.1, hk.1.2.2⟩⟩)⟩, ⟨by (with_reducible repeat (first | apply Kd.V_alloc | apply Kd.V_drewN | apply Kd.V_drew)); exact Kd.V_mono (Kd.V_far (p := ⟨gb344, 6, none⟩) (Kd.V_far (p := ⟨gb344, 5, none⟩) (Kd.V_far (p := ⟨gb344, 4, none⟩) (Kd.V_far (p := ⟨gb344, 3, none⟩) (Kd.V_far (p := ⟨gb344, 2, none⟩) (Kd.V_far (p := ⟨gb344, 1, none⟩) (Kd.V_far (p := ⟨gb344, 0, none⟩) (Kd.V_mono HL349_6.out (fun k_ hk => (⟨hk, hk.2.2⟩ : _ ∧ k_ ≠ gb344))) (fun _ hk => hk.2) (.int .i64 ((rd_T76 l0_1 t345).f0))) (fun _ hk => hk.2) (.string ((rd_T76 l0_1 t345).f1))) (fun _ hk => hk.2) (.int .i64 ((rd_T76 l0_1 t345).f2))) (fun _ hk => hk.2) (.string ((rd_T76 l0_1 t345).f3))) (fun _ hk => hk.2) (.slice A347_4 ((rd_T76 l0_1 t345).f4).length c347_4)) (fun _ hk => hk.2) (.slice A347_5 ((rd_T76 l0_1 t345).f5).length c347_5)) (fun _ hk => hk.2) (.slice A347_6 ((rd_T76 l0_1 t345).f6).length c347_6)) (fun _ hk => ⟨hk.1.1, ⟨hk.1.2.1, hk.1.2.2⟩⟩)⟩, ⟨by (with_reducible repeat (first | refine blk_drewN ?_ _ | refine blk_drew ?_ | refine blk_alloc ?_ _)); refine blk_far ?_ NB343_344.out _; (with_reducible repeat (first | refine blk_drewN ?_ _ | refine blk_drew ?_ | refine blk_alloc ?_ _)); refine blk_far ?_ NB343_344.out _; (with_reducible repeat (first | refine blk_drewN ?_ _ | refine blk_drew ?_ | refine blk_alloc ?_ _)); refine blk_far ?_ NB343_344.out _; (with_reducible repeat (first | refine blk_drewN ?_ _ | refine blk_drew ?_ | refine blk_alloc ?_ _)); refine blk_far ?_ NB343_344.out _; (with_reducible repeat (first | refine blk_drewN ?_ _ | refine blk_drew ?_ | refine blk_alloc ?_ _)); refine blk_far ?_ NB343_344.out _; (with_reducible repeat (first | refine blk_drewN ?_ _ | refine blk_drew ?_ | refine blk_alloc ?_ _)); refine blk_far ?_ NB343_344.out _; (with_reducible repeat (first | refine blk_drewN ?_ _ | refine blk_drew ?_ | refine blk_alloc ?_ _)); refine blk_far ?_ NB343_344.out _; (with_reducible repeat (first | refine blk_drewN ?_ _ | refine blk_drew ?_ | refine blk_alloc ?_ _)); exact BK343.out⟩, ⟨by (with_reducible repeat (first | refine blk_drewN ?_ _ | refine blk_drew ?_ | refine blk_alloc ?_ _)); refine blk_put (cs := #[.int .i64 ((rd_T76 l0_1 t345).f0), .string ((rd_T76 l0_1 t345).f1), .int .i64 ((rd_T76 l0_1 t345).f2), .string ((rd_T76 l0_1 t345).f3), .slice A347_4 ((rd_T76 l0_1 t345).f4).length c347_4, .slice A347_5 ((rd_T76 l0_1 t345).f5).length c347_5, u345006]) ?_ 6 _ rfl; (with_reducible repeat (first | refine blk_drewN ?_ _ | refine blk_drew ?_ | refine blk_alloc ?_ _)); refine blk_put (cs := #[.int .i64 ((rd_T76 l0_1 t345).f0), .string ((rd_T76 l0_1 t345).f1), .int .i64 ((rd_T76 l0_1 t345).f2), .string ((rd_T76 l0_1 t345).f3), .slice A347_4 ((rd_T76 l0_1 t345).f4).length c347_4, u345005, u345006]) ?_ 5 _ rfl; (with_reducible repeat (first | refine blk_drewN ?_ _ | refine blk_drew ?_ | refine blk_alloc ?_ _)); refine blk_put (cs := #[.int .i64 ((rd_T76 l0_1 t345).f0), .string ((rd_T76 l0_1 t345).f1), .int .i64 ((rd_T76 l0_1 t345).f2), .string ((rd_T76 l0_1 t345).f3), u345004, u345005, u345006]) ?_ 4 _ rfl; (with_reducible repeat (first | refine blk_drewN ?_ _ | refine blk_drew ?_ | refine blk_alloc ?_ _)); refine blk_put (cs := #[.int .i64 ((rd_T76 l0_1 t345).f0), .string ((rd_T76 l0_1 t345).f1), .int .i64 ((rd_T76 l0_1 t345).f2), .string x345003_1, u345004, u345005, u345006]) ?_ 3 _ rfl; (with_reducible repeat (first | refine blk_drewN ?_ _ | refine blk_drew ?_ | refine blk_alloc ?_ _)); refine blk_put (cs := #[.int .i64 ((rd_T76 l0_1 t345).f0), .string ((rd_T76 l0_1 t345).f1), .int .i64 x345002_1, .string x345003_1, u345004, u345005, u345006]) ?_ 2 _ rfl; (with_reducible repeat (first | refine blk_drewN ?_ _ | refine blk_drew ?_ | refine blk_alloc ?_ _)); refine blk_put (cs := #[.int .i64 ((rd_T76 l0_1 t345).f0), .string x345001_1, .int .i64 x345002_1, .string x345003_1, u345004, u345005, u345006]) ?_ 1 _ rfl; (with_reducible repeat (first | refine blk_drewN ?_ _ | refine blk_drew ?_ | refine blk_alloc ?_ _)); refine blk_put (cs := #[.int .i64 x345000_1, .string x345001_1, .int .i64 x345002_1, .string x345003_1, u345004, u345005, u345006]) ?_ 0 _ rfl; (with_reducible repeat (first | refine blk_drewN ?_ _ | refine blk_drew ?_ | refine blk_alloc ?_ _)); exact BK344.out⟩, ⟨by repeat (first | (with_reducible first | exact HB.out | apply below_alloc | apply pw_below_drewN | apply below_drew1 | refine below_set ?_ GE343.out | refine below_set ?_ GE344.out) | exact HB.out)⟩⟩
                  · replace c20 := Bool.eq_false_iff.mpr c20
                    subst c20
                    have H1 : (some false) = some r := by rw [if_neg (show ¬ (false = true) by decide)] at H; exact H
                    clear H
                    have H := H1
                    clear H1
                    obtain rfl := Option.some.inj H
                    have hnb27 := NB344_343.out
                    have hnc27 := NB343_344.out
                    have hcz28_0 : wr.cell? ⟨gb344, 0, none⟩ = some (.int .i64 x345000_1) := (blk_cell BK344.out 0).trans rfl
                    have hcz28_1 : wr.cell? ⟨gb344, 1, none⟩ = some (.string x345001_1) := (blk_cell BK344.out 1).trans rfl
                    have hcz28_2 : wr.cell? ⟨gb344, 2, none⟩ = some (.int .i64 x345002_1) := (blk_cell BK344.out 2).trans rfl
                    have hcz28_3 : wr.cell? ⟨gb344, 3, none⟩ = some (.string x345003_1) := (blk_cell BK344.out 3).trans rfl
                    have hcz28_4 : wr.cell? ⟨gb344, 4, none⟩ = some (u345004) := (blk_cell BK344.out 4).trans rfl
                    have hcz28_5 : wr.cell? ⟨gb344, 5, none⟩ = some (u345005) := (blk_cell BK344.out 5).trans rfl
                    have hcz28_6 : wr.cell? ⟨gb344, 6, none⟩ = some (u345006) := (blk_cell BK344.out 6).trans rfl
                    have hfz28_0 := blk_frozen BK344.out 0
                    have hfz28_1 := blk_frozen BK344.out 1
                    have hfz28_2 := blk_frozen BK344.out 2
                    have hfz28_3 := blk_frozen BK344.out 3
                    have hfz28_4 := blk_frozen BK344.out 4
                    have hfz28_5 := blk_frozen BK344.out 5
                    have hfz28_6 := blk_frozen BK344.out 6
                    have hcz29_0 : wr.cell? ⟨gb343, 0, none⟩ = some (.int .i64 a0_0) := (blk_cell BK343.out 0).trans rfl
                    have hcz29_1 : wr.cell? ⟨gb343, 1, none⟩ = some (.slice A0_1 l0_1.length c0_1) := (blk_cell BK343.out 1).trans rfl
                    have hfz29_0 := blk_frozen BK343.out 0
                    have hfz29_1 := blk_frozen BK343.out 1
                    go_wp2_with (first | (go_at_call 84; (with_reducible refine (topiaryref02_At.calls k1 a0_0 _ _ l0_1 x345002_1 t345 _ ?side1 ?side2 A9.out).mono ?_); (case side1 => repeat (first | exact (Kd.V_reads' HO_344001.out).2.2 | (with_reducible refine Kd.C_alloc ?_ _) | (with_reducible refine Kd.C_drewN ?_ _) | (with_reducible refine Kd.C_drew ?_))); (case side2 => exact (Kd.V_reads' HO_344001.out).2.1); rintro e w30 ⟨rfl, hb⟩; have n0_ := Aside0.mk (Kd.V_below (by (with_reducible repeat (first | apply Kd.V_alloc | apply Kd.V_drewN | apply Kd.V_drew)); exact HO_344001.out) hb); have n1_ := Aside0.mk (Kd.V_below (by (with_reducible repeat (first | apply Kd.V_alloc | apply Kd.V_drewN | apply Kd.V_drew)); exact HO_345004.out) hb); have n2_ := Aside0.mk (Kd.V_below (by (with_reducible repeat (first | apply Kd.V_alloc | apply Kd.V_drewN | apply Kd.V_drew)); exact HO_345005.out) hb); have n3_ := Aside0.mk (Kd.V_below (by (with_reducible repeat (first | apply Kd.V_alloc | apply Kd.V_drewN | apply Kd.V_drew)); exact HO_345006.out) hb); have n4_ := Aside0.mk (blk_below (g := gb343) (o := .cells #[.int .i64 a0_0, .slice A0_1 l0_1.length c0_1] 27 (0, 0)) (by (with_reducible repeat (first | refine blk_drewN ?_ _ | refine blk_drew ?_ | refine blk_alloc ?_ _)); exact BK343.out) hb); have n5_ := Aside0.mk (blk_below (g := gb344) (o := .cells #[.int .i64 x345000_1, .string x345001_1, .int .i64 x345002_1, .string x345003_1, u345004, u345005, u345006] 76 (0, 0)) (by (with_reducible repeat (first | refine blk_drewN ?_ _ | refine blk_drew ?_ | refine blk_alloc ?_ _)); exact BK344.out) hb); have n6_ := Aside0.mk (below_step (by repeat (first | (with_reducible first | exact HB.out | apply below_alloc | apply pw_below_drewN | apply below_drew1 | refine below_set ?_ GE343.out | refine below_set ?_ GE344.out) | exact HB.out)) hb); clear HO_344001; clear HO_345004; clear HO_345005; clear HO_345006; clear BK343; clear BK344; clear HB; have HO_344001 := n0_; have HO_345004 := n1_; have HO_345005 := n2_; have HO_345006 := n3_; have BK343 := n4_; have BK344 := n5_; have HB := n6_; clear n0_ n1_ n2_ n3_ n4_ n5_ n6_; (try clear hb); (try clear hb2); (try clear hk); (try clear hi); have hcz31_0 : w30.cell? ⟨gb344, 0, none⟩ = some (.int .i64 x345000_1) := (blk_cell BK344.out 0).trans rfl; have hcz31_1 : w30.cell? ⟨gb344, 1, none⟩ = some (.string x345001_1) := (blk_cell BK344.out 1).trans rfl; have hcz31_2 : w30.cell? ⟨gb344, 2, none⟩ = some (.int .i64 x345002_1) := (blk_cell BK344.out 2).trans rfl; have hcz31_3 : w30.cell? ⟨gb344, 3, none⟩ = some (.string x345003_1) := (blk_cell BK344.out 3).trans rfl; have hcz31_4 : w30.cell? ⟨gb344, 4, none⟩ = some (u345004) := (blk_cell BK344.out 4).trans rfl; have hcz31_5 : w30.cell? ⟨gb344, 5, none⟩ = some (u345005) := (blk_cell BK344.out 5).trans rfl; have hcz31_6 : w30.cell? ⟨gb344, 6, none⟩ = some (u345006) := (blk_cell BK344.out 6).trans rfl; have hfz31_0 := blk_frozen BK344.out 0; have hfz31_1 := blk_frozen BK344.out 1; have hfz31_2 := blk_frozen BK344.out 2; have hfz31_3 := blk_frozen BK344.out 3; have hfz31_4 := blk_frozen BK344.out 4; have hfz31_5 := blk_frozen BK344.out 5; have hfz31_6 := blk_frozen BK344.out 6) | (go_at_call 83; (with_reducible refine (topiaryref02_Word.calls k1 x345003_1 true _ A15.out).mono ?_); rintro e w' ⟨rfl, ⟨nd, rfl⟩⟩; (try first | exact ⟨rfl, _, World.drewN_drewN _ _ _⟩ | exact ⟨rfl, _, Eq.trans (World.drewN_drewN _ _ _) (congrArg (World.drewN _) (Nat.add_assoc _ _ _))⟩); have hcz32_0 : w30.cell? ⟨gb343, 0, none⟩ = some (.int .i64 a0_0) := (blk_cell BK343.out 0).trans rfl; have hcz32_1 : w30.cell? ⟨gb343, 1, none⟩ = some (.slice A0_1 l0_1.length c0_1) := (blk_cell BK343.out 1).trans rfl; have hfz32_0 := blk_frozen BK343.out 0; have hfz32_1 := blk_frozen BK343.out 1; have p347 : 0 ≤ (t345 : Int) := of_decide_eq_true (by first | (with_reducible assumption) | assumption); have q347 : t345 < (l0_1.length : Int) := of_decide_eq_true (by first | (with_reducible assumption) | assumption); obtain ⟨ad347, A347_4, c347_4, A347_5, c347_5, A347_6, c347_6, e347, hx347_0, hx347_1, hx347_2, hx347_3, hx347_4, hx347_5, hx347_6, hl347_4, hi347_4, hl347_5, hi347_5, hl347_6, hi347_6⟩ := at_T76 (Kd.V_reads' HO_344001.out).2.2 t345 p347 q347; cases e347; obtain ⟨ce347, hce347, hMe347, hcc347⟩ := Kd.V_get HO_344001.out z76 t345 p347 (by first | exact q347 | exact of_decide_eq_true (by first | (with_reducible assumption) | assumption) | (have e_ := (Kd.V_reads' HO_344001.out).1; omega)); obtain ⟨ua347_4, uc347_4, ua347_5, uc347_5, ua347_6, uc347_6, rfl, ul347_4, ge347_4, ul347_5, ge347_5, ul347_6, ge347_6⟩ := k76_openF hMe347; have hv347_4 := hcc347 4 _ rfl; rw [add_field _ _ 4 (by omega)] at hv347_4; replace hv347_4 := Option.some.inj (hv347_4.symm.trans hx347_4); injection hv347_4 with hva_ hvn_ hvc_; rw [hva_] at ge347_4; rw [hvc_] at ul347_4; have HL347_4 := Aside0.mk (show Kd.V k82 82 _ w.heap.size _ _ ((rd_T76 l0_1 t345).f4) from Kd.V_mk ul347_4 ge347_4); clear hva_ hvn_ hvc_ ge347_4 ul347_4; have hv347_5 := hcc347 5 _ rfl; rw [add_field _ _ 5 (by omega)] at hv347_5; replace hv347_5 := Option.some.inj (hv347_5.symm.trans hx347_5); injection hv347_5 with hva_ hvn_ hvc_; rw [hva_] at ge347_5; rw [hvc_] at ul347_5; have HL347_5 := Aside0.mk (show Kd.V (Kd.int .i64) 3 _ w.heap.size _ _ ((rd_T76 l0_1 t345).f5) from Kd.V_mk ul347_5 ge347_5); clear hva_ hvn_ hvc_ ge347_5 ul347_5; have hv347_6 := hcc347 6 _ rfl; rw [add_field _ _ 6 (by omega)] at hv347_6; replace hv347_6 := Option.some.inj (hv347_6.symm.trans hx347_6); injection hv347_6 with hva_ hvn_ hvc_; rw [hva_] at ge347_6; rw [hvc_] at ul347_6; have HL347_6 := Aside0.mk (show Kd.V k84 84 _ w.heap.size _ _ ((rd_T76 l0_1 t345).f6) from Kd.V_mk ul347_6 ge347_6); clear hva_ hvn_ hvc_ ge347_6 ul347_6; clear hcc347 hce347; have HR347_4 := Aside0.mk hi347_4; have HC347_4 := Aside0.mk hl347_4; clear hi347_4 hl347_4; have HR347_5 := Aside0.mk hi347_5; have HC347_5 := Aside0.mk hl347_5; clear hi347_5 hl347_5; have HR347_6 := Aside0.mk hi347_6; have HC347_6 := Aside0.mk hl347_6; clear hi347_6 hl347_6; replace p347 := eq_true p347; replace q347 := eq_true q347) | (go_at_call 85; (with_reducible refine (topiaryref02_has.calls k1 _ _ ((rd_T76 l0_1 t345).f5) x345000_1 false _ ?side1 ?side2 A19.out).mono ?_); (case side1 => repeat (first | exact (by repeat (first | (with_reducible exact HR347_5.out) | (with_reducible refine Kd.C_alloc ?_ _) | (with_reducible refine Kd.C_drewN ?_ _) | (with_reducible refine Kd.C_drew ?_) | exact HR347_5.out)) | (with_reducible refine Kd.C_alloc ?_ _) | (with_reducible refine Kd.C_drewN ?_ _) | (with_reducible refine Kd.C_drew ?_))); (case side2 => exact HC347_5.out); rintro e w' ⟨rfl, ⟨nd, rfl⟩⟩; (try first | exact ⟨rfl, _, World.drewN_drewN _ _ _⟩ | exact ⟨rfl, _, Eq.trans (World.drewN_drewN _ _ _) (congrArg (World.drewN _) (Nat.add_assoc _ _ _))⟩)))
                    repeat (go_quiet (first | (go_at_call 84; (with_reducible refine (topiaryref02_At.calls k1 a0_0 _ _ l0_1 x345002_1 t345 _ ?side1 ?side2 A9.out).mono ?_); (case side1 => repeat (first | exact (Kd.V_reads' HO_344001.out).2.2 | (with_reducible refine Kd.C_alloc ?_ _) | (with_reducible refine Kd.C_drewN ?_ _) | (with_reducible refine Kd.C_drew ?_))); (case side2 => exact (Kd.V_reads' HO_344001.out).2.1); rintro e w30 ⟨rfl, hb⟩; have n0_ := Aside0.mk (Kd.V_below (by (with_reducible repeat (first | apply Kd.V_alloc | apply Kd.V_drewN | apply Kd.V_drew)); exact HO_344001.out) hb); have n1_ := Aside0.mk (Kd.V_below (by (with_reducible repeat (first | apply Kd.V_alloc | apply Kd.V_drewN | apply Kd.V_drew)); exact HO_345004.out) hb); have n2_ := Aside0.mk (Kd.V_below (by (with_reducible repeat (first | apply Kd.V_alloc | apply Kd.V_drewN | apply Kd.V_drew)); exact HO_345005.out) hb); have n3_ := Aside0.mk (Kd.V_below (by (with_reducible repeat (first | apply Kd.V_alloc | apply Kd.V_drewN | apply Kd.V_drew)); exact HO_345006.out) hb); have n4_ := Aside0.mk (blk_below (g := gb343) (o := .cells #[.int .i64 a0_0, .slice A0_1 l0_1.length c0_1] 27 (0, 0)) (by (with_reducible repeat (first | refine blk_drewN ?_ _ | refine blk_drew ?_ | refine blk_alloc ?_ _)); exact BK343.out) hb); have n5_ := Aside0.mk (blk_below (g := gb344) (o := .cells #[.int .i64 x345000_1, .string x345001_1, .int .i64 x345002_1, .string x345003_1, u345004, u345005, u345006] 76 (0, 0)) (by (with_reducible repeat (first | refine blk_drewN ?_ _ | refine blk_drew ?_ | refine blk_alloc ?_ _)); exact BK344.out) hb); have n6_ := Aside0.mk (below_step (by repeat (first | (with_reducible first | exact HB.out | apply below_alloc | apply pw_below_drewN | apply below_drew1 | refine below_set ?_ GE343.out | refine below_set ?_ GE344.out) | exact HB.out)) hb); clear HO_344001; clear HO_345004; clear HO_345005; clear HO_345006; clear BK343; clear BK344; clear HB; have HO_344001 := n0_; have HO_345004 := n1_; have HO_345005 := n2_; have HO_345006 := n3_; have BK343 := n4_; have BK344 := n5_; have HB := n6_; clear n0_ n1_ n2_ n3_ n4_ n5_ n6_; (try clear hb); (try clear hb2); (try clear hk); (try clear hi); have hcz31_0 : w30.cell? ⟨gb344, 0, none⟩ = some (.int .i64 x345000_1) := (blk_cell BK344.out 0).trans rfl; have hcz31_1 : w30.cell? ⟨gb344, 1, none⟩ = some (.string x345001_1) := (blk_cell BK344.out 1).trans rfl; have hcz31_2 : w30.cell? ⟨gb344, 2, none⟩ = some (.int .i64 x345002_1) := (blk_cell BK344.out 2).trans rfl; have hcz31_3 : w30.cell? ⟨gb344, 3, none⟩ = some (.string x345003_1) := (blk_cell BK344.out 3).trans rfl; have hcz31_4 : w30.cell? ⟨gb344, 4, none⟩ = some (u345004) := (blk_cell BK344.out 4).trans rfl; have hcz31_5 : w30.cell? ⟨gb344, 5, none⟩ = some (u345005) := (blk_cell BK344.out 5).trans rfl; have hcz31_6 : w30.cell? ⟨gb344, 6, none⟩ = some (u345006) := (blk_cell BK344.out 6).trans rfl; have hfz31_0 := blk_frozen BK344.out 0; have hfz31_1 := blk_frozen BK344.out 1; have hfz31_2 := blk_frozen BK344.out 2; have hfz31_3 := blk_frozen BK344.out 3; have hfz31_4 := blk_frozen BK344.out 4; have hfz31_5 := blk_frozen BK344.out 5; have hfz31_6 := blk_frozen BK344.out 6) | (go_at_call 83; (with_reducible refine (topiaryref02_Word.calls k1 x345003_1 true _ A15.out).mono ?_); rintro e w' ⟨rfl, ⟨nd, rfl⟩⟩; (try first | exact ⟨rfl, _, World.drewN_drewN _ _ _⟩ | exact ⟨rfl, _, Eq.trans (World.drewN_drewN _ _ _) (congrArg (World.drewN _) (Nat.add_assoc _ _ _))⟩); have hcz32_0 : w30.cell? ⟨gb343, 0, none⟩ = some (.int .i64 a0_0) := (blk_cell BK343.out 0).trans rfl; have hcz32_1 : w30.cell? ⟨gb343, 1, none⟩ = some (.slice A0_1 l0_1.length c0_1) := (blk_cell BK343.out 1).trans rfl; have hfz32_0 := blk_frozen BK343.out 0; have hfz32_1 := blk_frozen BK343.out 1; have p347 : 0 ≤ (t345 : Int) := of_decide_eq_true (by first | (with_reducible assumption) | assumption); have q347 : t345 < (l0_1.length : Int) := of_decide_eq_true (by first | (with_reducible assumption) | assumption); obtain ⟨ad347, A347_4, c347_4, A347_5, c347_5, A347_6, c347_6, e347, hx347_0, hx347_1, hx347_2, hx347_3, hx347_4, hx347_5, hx347_6, hl347_4, hi347_4, hl347_5, hi347_5, hl347_6, hi347_6⟩ := at_T76 (Kd.V_reads' HO_344001.out).2.2 t345 p347 q347; cases e347; obtain ⟨ce347, hce347, hMe347, hcc347⟩ := Kd.V_get HO_344001.out z76 t345 p347 (by first | exact q347 | exact of_decide_eq_true (by first | (with_reducible assumption) | assumption) | (have e_ := (Kd.V_reads' HO_344001.out).1; omega)); obtain ⟨ua347_4, uc347_4, ua347_5, uc347_5, ua347_6, uc347_6, rfl, ul347_4, ge347_4, ul347_5, ge347_5, ul347_6, ge347_6⟩ := k76_openF hMe347; have hv347_4 := hcc347 4 _ rfl; rw [add_field _ _ 4 (by omega)] at hv347_4; replace hv347_4 := Option.some.inj (hv347_4.symm.trans hx347_4); injection hv347_4 with hva_ hvn_ hvc_; rw [hva_] at ge347_4; rw [hvc_] at ul347_4; have HL347_4 := Aside0.mk (show Kd.V k82 82 _ w.heap.size _ _ ((rd_T76 l0_1 t345).f4) from Kd.V_mk ul347_4 ge347_4); clear hva_ hvn_ hvc_ ge347_4 ul347_4; have hv347_5 := hcc347 5 _ rfl; rw [add_field _ _ 5 (by omega)] at hv347_5; replace hv347_5 := Option.some.inj (hv347_5.symm.trans hx347_5); injection hv347_5 with hva_ hvn_ hvc_; rw [hva_] at ge347_5; rw [hvc_] at ul347_5; have HL347_5 := Aside0.mk (show Kd.V (Kd.int .i64) 3 _ w.heap.size _ _ ((rd_T76 l0_1 t345).f5) from Kd.V_mk ul347_5 ge347_5); clear hva_ hvn_ hvc_ ge347_5 ul347_5; have hv347_6 := hcc347 6 _ rfl; rw [add_field _ _ 6 (by omega)] at hv347_6; replace hv347_6 := Option.some.inj (hv347_6.symm.trans hx347_6); injection hv347_6 with hva_ hvn_ hvc_; rw [hva_] at ge347_6; rw [hvc_] at ul347_6; have HL347_6 := Aside0.mk (show Kd.V k84 84 _ w.heap.size _ _ ((rd_T76 l0_1 t345).f6) from Kd.V_mk ul347_6 ge347_6); clear hva_ hvn_ hvc_ ge347_6 ul347_6; clear hcc347 hce347; have HR347_4 := Aside0.mk hi347_4; have HC347_4 := Aside0.mk hl347_4; clear hi347_4 hl347_4; have HR347_5 := Aside0.mk hi347_5; have HC347_5 := Aside0.mk hl347_5; clear hi347_5 hl347_5; have HR347_6 := Aside0.mk hi347_6; have HC347_6 := Aside0.mk hl347_6; clear hi347_6 hl347_6; replace p347 := eq_true p347; replace q347 := eq_true q347) | (go_at_call 85; (with_reducible refine (topiaryref02_has.calls k1 _ _ ((rd_T76 l0_1 t345).f5) x345000_1 false _ ?side1 ?side2 A19.out).mono ?_); (case side1 => repeat (first | exact (by repeat (first | (with_reducible exact HR347_5.out) | (with_reducible refine Kd.C_alloc ?_ _) | (with_reducible refine Kd.C_drewN ?_ _) | (with_reducible refine Kd.C_drew ?_) | exact HR347_5.out)) | (with_reducible refine Kd.C_alloc ?_ _) | (with_reducible refine Kd.C_drewN ?_ _) | (with_reducible refine Kd.C_drew ?_))); (case side2 => exact HC347_5.out); rintro e w' ⟨rfl, ⟨nd, rfl⟩⟩; (try first | exact ⟨rfl, _, World.drewN_drewN _ _ _⟩ | exact ⟨rfl, _, Eq.trans (World.drewN_drewN _ _ _) (congrArg (World.drewN _) (Nat.add_assoc _ _ _))⟩))); try go_wp2_with (first | (go_at_call 84; (with_reducible refine (topiaryref02_At.calls k1 a0_0 _ _ l0_1 x345002_1 t345 _ ?side1 ?side2 A9.out).mono ?_); (case side1 => repeat (first | exact (Kd.V_reads' HO_344001.out).2.2 | (with_reducible refine Kd.C_alloc ?_ _) | (with_reducible refine Kd.C_drewN ?_ _) | (with_reducible refine Kd.C_drew ?_))); (case side2 => exact (Kd.V_reads' HO_344001.out).2.1); rintro e w30 ⟨rfl, hb⟩; have n0_ := Aside0.mk (Kd.V_below (by (with_reducible repeat (first | apply Kd.V_alloc | apply Kd.V_drewN | apply Kd.V_drew)); exact HO_344001.out) hb); have n1_ := Aside0.mk (Kd.V_below (by (with_reducible repeat (first | apply Kd.V_alloc | apply Kd.V_drewN | apply Kd.V_drew)); exact HO_345004.out) hb); have n2_ := Aside0.mk (Kd.V_below (by (with_reducible repeat (first | apply Kd.V_alloc | apply Kd.V_drewN | apply Kd.V_drew)); exact HO_345005.out) hb); have n3_ := Aside0.mk (Kd.V_below (by (with_reducible repeat (first | apply Kd.V_alloc | apply Kd.V_drewN | apply Kd.V_drew)); exact HO_345006.out) hb); have n4_ := Aside0.mk (blk_below (g := gb343) (o := .cells #[.int .i64 a0_0, .slice A0_1 l0_1.length c0_1] 27 (0, 0)) (by (with_reducible repeat (first | refine blk_drewN ?_ _ | refine blk_drew ?_ | refine blk_alloc ?_ _)); exact BK343.out) hb); have n5_ := Aside0.mk (blk_below (g := gb344) (o := .cells #[.int .i64 x345000_1, .string x345001_1, .int .i64 x345002_1, .string x345003_1, u345004, u345005, u345006] 76 (0, 0)) (by (with_reducible repeat (first | refine blk_drewN ?_ _ | refine blk_drew ?_ | refine blk_alloc ?_ _)); exact BK344.out) hb); have n6_ := Aside0.mk (below_step (by repeat (first | (with_reducible first | exact HB.out | apply below_alloc | apply pw_below_drewN | apply below_drew1 | refine below_set ?_ GE343.out | refine below_set ?_ GE344.out) | exact HB.out)) hb); clear HO_344001; clear HO_345004; clear HO_345005; clear HO_345006; clear BK343; clear BK344; clear HB; have HO_344001 := n0_; have HO_345004 := n1_; have HO_345005 := n2_; have HO_345006 := n3_; have BK343 := n4_; have BK344 := n5_; have HB := n6_; clear n0_ n1_ n2_ n3_ n4_ n5_ n6_; (try clear hb); (try clear hb2); (try clear hk); (try clear hi); have hcz31_0 : w30.cell? ⟨gb344, 0, none⟩ = some (.int .i64 x345000_1) := (blk_cell BK344.out 0).trans rfl; have hcz31_1 : w30.cell? ⟨gb344, 1, none⟩ = some (.string x345001_1) := (blk_cell BK344.out 1).trans rfl; have hcz31_2 : w30.cell? ⟨gb344, 2, none⟩ = some (.int .i64 x345002_1) := (blk_cell BK344.out 2).trans rfl; have hcz31_3 : w30.cell? ⟨gb344, 3, none⟩ = some (.string x345003_1) := (blk_cell BK344.out 3).trans rfl; have hcz31_4 : w30.cell? ⟨gb344, 4, none⟩ = some (u345004) := (blk_cell BK344.out 4).trans rfl; have hcz31_5 : w30.cell? ⟨gb344, 5, none⟩ = some (u345005) := (blk_cell BK344.out 5).trans rfl; have hcz31_6 : w30.cell? ⟨gb344, 6, none⟩ = some (u345006) := (blk_cell BK344.out 6).trans rfl; have hfz31_0 := blk_frozen BK344.out 0; have hfz31_1 := blk_frozen BK344.out 1; have hfz31_2 := blk_frozen BK344.out 2; have hfz31_3 := blk_frozen BK344.out 3; have hfz31_4 := blk_frozen BK344.out 4; have hfz31_5 := blk_frozen BK344.out 5; have hfz31_6 := blk_frozen BK344.out 6) | (go_at_call 83; (with_reducible refine (topiaryref02_Word.calls k1 x345003_1 true _ A15.out).mono ?_); rintro e w' ⟨rfl, ⟨nd, rfl⟩⟩; (try first | exact ⟨rfl, _, World.drewN_drewN _ _ _⟩ | exact ⟨rfl, _, Eq.trans (World.drewN_drewN _ _ _) (congrArg (World.drewN _) (Nat.add_assoc _ _ _))⟩); have hcz32_0 : w30.cell? ⟨gb343, 0, none⟩ = some (.int .i64 a0_0) := (blk_cell BK343.out 0).trans rfl; have hcz32_1 : w30.cell? ⟨gb343, 1, none⟩ = some (.slice A0_1 l0_1.length c0_1) := (blk_cell BK343.out 1).trans rfl; have hfz32_0 := blk_frozen BK343.out 0; have hfz32_1 := blk_frozen BK343.out 1; have p347 : 0 ≤ (t345 : Int) := of_decide_eq_true (by first | (with_reducible assumption) | assumption); have q347 : t345 < (l0_1.length : Int) := of_decide_eq_true (by first | (with_reducible assumption) | assumption); obtain ⟨ad347, A347_4, c347_4, A347_5, c347_5, A347_6, c347_6, e347, hx347_0, hx347_1, hx347_2, hx347_3, hx347_4, hx347_5, hx347_6, hl347_4, hi347_4, hl347_5, hi347_5, hl347_6, hi347_6⟩ := at_T76 (Kd.V_reads' HO_344001.out).2.2 t345 p347 q347; cases e347; obtain ⟨ce347, hce347, hMe347, hcc347⟩ := Kd.V_get HO_344001.out z76 t345 p347 (by first | exact q347 | exact of_decide_eq_true (by first | (with_reducible assumption) | assumption) | (have e_ := (Kd.V_reads' HO_344001.out).1; omega)); obtain ⟨ua347_4, uc347_4, ua347_5, uc347_5, ua347_6, uc347_6, rfl, ul347_4, ge347_4, ul347_5, ge347_5, ul347_6, ge347_6⟩ := k76_openF hMe347; have hv347_4 := hcc347 4 _ rfl; rw [add_field _ _ 4 (by omega)] at hv347_4; replace hv347_4 := Option.some.inj (hv347_4.symm.trans hx347_4); injection hv347_4 with hva_ hvn_ hvc_; rw [hva_] at ge347_4; rw [hvc_] at ul347_4; have HL347_4 := Aside0.mk (show Kd.V k82 82 _ w.heap.size _ _ ((rd_T76 l0_1 t345).f4) from Kd.V_mk ul347_4 ge347_4); clear hva_ hvn_ hvc_ ge347_4 ul347_4; have hv347_5 := hcc347 5 _ rfl; rw [add_field _ _ 5 (by omega)] at hv347_5; replace hv347_5 := Option.some.inj (hv347_5.symm.trans hx347_5); injection hv347_5 with hva_ hvn_ hvc_; rw [hva_] at ge347_5; rw [hvc_] at ul347_5; have HL347_5 := Aside0.mk (show Kd.V (Kd.int .i64) 3 _ w.heap.size _ _ ((rd_T76 l0_1 t345).f5) from Kd.V_mk ul347_5 ge347_5); clear hva_ hvn_ hvc_ ge347_5 ul347_5; have hv347_6 := hcc347 6 _ rfl; rw [add_field _ _ 6 (by omega)] at hv347_6; replace hv347_6 := Option.some.inj (hv347_6.symm.trans hx347_6); injection hv347_6 with hva_ hvn_ hvc_; rw [hva_] at ge347_6; rw [hvc_] at ul347_6; have HL347_6 := Aside0.mk (show Kd.V k84 84 _ w.heap.size _ _ ((rd_T76 l0_1 t345).f6) from Kd.V_mk ul347_6 ge347_6); clear hva_ hvn_ hvc_ ge347_6 ul347_6; clear hcc347 hce347; have HR347_4 := Aside0.mk hi347_4; have HC347_4 := Aside0.mk hl347_4; clear hi347_4 hl347_4; have HR347_5 := Aside0.mk hi347_5; have HC347_5 := Aside0.mk hl347_5; clear hi347_5 hl347_5; have HR347_6 := Aside0.mk hi347_6; have HC347_6 := Aside0.mk hl347_6; clear hi347_6 hl347_6; replace p347 := eq_true p347; replace q347 := eq_true q347) | (go_at_call 85; (with_reducible refine (topiaryref02_has.calls k1 _ _ ((rd_T76 l0_1 t345).f5) x345000_1 false _ ?side1 ?side2 A19.out).mono ?_); (case side1 => repeat (first | exact (by repeat (first | (with_reducible exact HR347_5.out) | (with_reducible refine Kd.C_alloc ?_ _) | (with_reducible refine Kd.C_drewN ?_ _) | (with_reducible refine Kd.C_drew ?_) | exact HR347_5.out)) | (with_reducible refine Kd.C_alloc ?_ _) | (with_reducible refine Kd.C_drewN ?_ _) | (with_reducible refine Kd.C_drew ?_))); (case side2 => exact HC347_5.out); rintro e w' ⟨rfl, ⟨nd, rfl⟩⟩; (try first | exact ⟨rfl, _, World.drewN_drewN _ _ _⟩ | exact ⟨rfl, _, Eq.trans (World.drewN_drewN _ _ _) (congrArg (World.drewN _) (Nat.add_assoc _ _ _))⟩))))
                    go_ret
                    exact ⟨by first | rfl | (simp [errW_none, errW_some] <;> rfl) | (simp [*, errW_none, errW_some] <;> rfl), by repeat (first | (with_reducible first | exact HB.out | apply below_alloc | apply pw_below_drewN | apply below_drew1 | refine below_set ?_ GE343.out | refine below_set ?_ GE344.out) | exact HB.out)⟩
                · rw [if_neg c18] at H
                  exact absurd H (by simp)
              · rw [if_neg c17] at H
                exact absurd H (by simp)
            · replace c16 := Bool.eq_false_iff.mpr c16
              subst c16
              have H1 : (some false) = some r := by rw [if_neg (show ¬ (false = true) by decide)] at H; exact H
              clear H
              have H := H1
              clear H1
              obtain rfl := Option.some.inj H
              have hnb33 := NB344_343.out
              have hnc33 := NB343_344.out
              have hcz34_0 : wr.cell? ⟨gb344, 0, none⟩ = some (.int .i64 x345000_1) := (blk_cell BK344.out 0).trans rfl
              have hcz34_1 : wr.cell? ⟨gb344, 1, none⟩ = some (.string x345001_1) := (blk_cell BK344.out 1).trans rfl
              have hcz34_2 : wr.cell? ⟨gb344, 2, none⟩ = some (.int .i64 x345002_1) := (blk_cell BK344.out 2).trans rfl
              have hcz34_3 : wr.cell? ⟨gb344, 3, none⟩ = some (.string x345003_1) := (blk_cell BK344.out 3).trans rfl
              have hcz34_4 : wr.cell? ⟨gb344, 4, none⟩ = some (u345004) := (blk_cell BK344.out 4).trans rfl
              have hcz34_5 : wr.cell? ⟨gb344, 5, none⟩ = some (u345005) := (blk_cell BK344.out 5).trans rfl
              have hcz34_6 : wr.cell? ⟨gb344, 6, none⟩ = some (u345006) := (blk_cell BK344.out 6).trans rfl
              have hfz34_0 := blk_frozen BK344.out 0
              have hfz34_1 := blk_frozen BK344.out 1
              have hfz34_2 := blk_frozen BK344.out 2
              have hfz34_3 := blk_frozen BK344.out 3
              have hfz34_4 := blk_frozen BK344.out 4
              have hfz34_5 := blk_frozen BK344.out 5
              have hfz34_6 := blk_frozen BK344.out 6
              have hcz35_0 : wr.cell? ⟨gb343, 0, none⟩ = some (.int .i64 a0_0) := (blk_cell BK343.out 0).trans rfl
              have hcz35_1 : wr.cell? ⟨gb343, 1, none⟩ = some (.slice A0_1 l0_1.length c0_1) := (blk_cell BK343.out 1).trans rfl
              have hfz35_0 := blk_frozen BK343.out 0
              have hfz35_1 := blk_frozen BK343.out 1
              go_wp2_with (first | (go_at_call 84; (with_reducible refine (topiaryref02_At.calls k1 a0_0 _ _ l0_1 x345002_1 t345 _ ?side1 ?side2 A9.out).mono ?_); (case side1 => repeat (first | exact (Kd.V_reads' HO_344001.out).2.2 | (with_reducible refine Kd.C_alloc ?_ _) | (with_reducible refine Kd.C_drewN ?_ _) | (with_reducible refine Kd.C_drew ?_))); (case side2 => exact (Kd.V_reads' HO_344001.out).2.1); rintro e w36 ⟨rfl, hb⟩; have n0_ := Aside0.mk (Kd.V_below (by (with_reducible repeat (first | apply Kd.V_alloc | apply Kd.V_drewN | apply Kd.V_drew)); exact HO_344001.out) hb); have n1_ := Aside0.mk (Kd.V_below (by (with_reducible repeat (first | apply Kd.V_alloc | apply Kd.V_drewN | apply Kd.V_drew)); exact HO_345004.out) hb); have n2_ := Aside0.mk (Kd.V_below (by (with_reducible repeat (first | apply Kd.V_alloc | apply Kd.V_drewN | apply Kd.V_drew)); exact HO_345005.out) hb); have n3_ := Aside0.mk (Kd.V_below (by (with_reducible repeat (first | apply Kd.V_alloc | apply Kd.V_drewN | apply Kd.V_drew)); exact HO_345006.out) hb); have n4_ := Aside0.mk (blk_below (g := gb343) (o := .cells #[.int .i64 a0_0, .slice A0_1 l0_1.length c0_1] 27 (0, 0)) (by (with_reducible repeat (first | refine blk_drewN ?_ _ | refine blk_drew ?_ | refine blk_alloc ?_ _)); exact BK343.out) hb); have n5_ := Aside0.mk (blk_below (g := gb344) (o := .cells #[.int .i64 x345000_1, .string x345001_1, .int .i64 x345002_1, .string x345003_1, u345004, u345005, u345006] 76 (0, 0)) (by (with_reducible repeat (first | refine blk_drewN ?_ _ | refine blk_drew ?_ | refine blk_alloc ?_ _)); exact BK344.out) hb); have n6_ := Aside0.mk (below_step (by repeat (first | (with_reducible first | exact HB.out | apply below_alloc | apply pw_below_drewN | apply below_drew1 | refine below_set ?_ GE343.out | refine below_set ?_ GE344.out) | exact HB.out)) hb); clear HO_344001; clear HO_345004; clear HO_345005; clear HO_345006; clear BK343; clear BK344; clear HB; have HO_344001 := n0_; have HO_345004 := n1_; have HO_345005 := n2_; have HO_345006 := n3_; have BK343 := n4_; have BK344 := n5_; have HB := n6_; clear n0_ n1_ n2_ n3_ n4_ n5_ n6_; (try clear hb); (try clear hb2); (try clear hk); (try clear hi); have hcz37_0 : w36.cell? ⟨gb344, 0, none⟩ = some (.int .i64 x345000_1) := (blk_cell BK344.out 0).trans rfl; have hcz37_1 : w36.cell? ⟨gb344, 1, none⟩ = some (.string x345001_1) := (blk_cell BK344.out 1).trans rfl; have hcz37_2 : w36.cell? ⟨gb344, 2, none⟩ = some (.int .i64 x345002_1) := (blk_cell BK344.out 2).trans rfl; have hcz37_3 : w36.cell? ⟨gb344, 3, none⟩ = some (.string x345003_1) := (blk_cell BK344.out 3).trans rfl; have hcz37_4 : w36.cell? ⟨gb344, 4, none⟩ = some (u345004) := (blk_cell BK344.out 4).trans rfl; have hcz37_5 : w36.cell? ⟨gb344, 5, none⟩ = some (u345005) := (blk_cell BK344.out 5).trans rfl; have hcz37_6 : w36.cell? ⟨gb344, 6, none⟩ = some (u345006) := (blk_cell BK344.out 6).trans rfl; have hfz37_0 := blk_frozen BK344.out 0; have hfz37_1 := blk_frozen BK344.out 1; have hfz37_2 := blk_frozen BK344.out 2; have hfz37_3 := blk_frozen BK344.out 3; have hfz37_4 := blk_frozen BK344.out 4; have hfz37_5 := blk_frozen BK344.out 5; have hfz37_6 := blk_frozen BK344.out 6) | (go_at_call 83; (with_reducible refine (topiaryref02_Word.calls k1 x345003_1 false _ A15.out).mono ?_); rintro e w' ⟨rfl, ⟨nd, rfl⟩⟩; (try first | exact ⟨rfl, _, World.drewN_drewN _ _ _⟩ | exact ⟨rfl, _, Eq.trans (World.drewN_drewN _ _ _) (congrArg (World.drewN _) (Nat.add_assoc _ _ _))⟩)))
              repeat (go_quiet (first | (go_at_call 84; (with_reducible refine (topiaryref02_At.calls k1 a0_0 _ _ l0_1 x345002_1 t345 _ ?side1 ?side2 A9.out).mono ?_); (case side1 => repeat (first | exact (Kd.V_reads' HO_344001.out).2.2 | (with_reducible refine Kd.C_alloc ?_ _) | (with_reducible refine Kd.C_drewN ?_ _) | (with_reducible refine Kd.C_drew ?_))); (case side2 => exact (Kd.V_reads' HO_344001.out).2.1); rintro e w36 ⟨rfl, hb⟩; have n0_ := Aside0.mk (Kd.V_below (by (with_reducible repeat (first | apply Kd.V_alloc | apply Kd.V_drewN | apply Kd.V_drew)); exact HO_344001.out) hb); have n1_ := Aside0.mk (Kd.V_below (by (with_reducible repeat (first | apply Kd.V_alloc | apply Kd.V_drewN | apply Kd.V_drew)); exact HO_345004.out) hb); have n2_ := Aside0.mk (Kd.V_below (by (with_reducible repeat (first | apply Kd.V_alloc | apply Kd.V_drewN | apply Kd.V_drew)); exact HO_345005.out) hb); have n3_ := Aside0.mk (Kd.V_below (by (with_reducible repeat (first | apply Kd.V_alloc | apply Kd.V_drewN | apply Kd.V_drew)); exact HO_345006.out) hb); have n4_ := Aside0.mk (blk_below (g := gb343) (o := .cells #[.int .i64 a0_0, .slice A0_1 l0_1.length c0_1] 27 (0, 0)) (by (with_reducible repeat (first | refine blk_drewN ?_ _ | refine blk_drew ?_ | refine blk_alloc ?_ _)); exact BK343.out) hb); have n5_ := Aside0.mk (blk_below (g := gb344) (o := .cells #[.int .i64 x345000_1, .string x345001_1, .int .i64 x345002_1, .string x345003_1, u345004, u345005, u345006] 76 (0, 0)) (by (with_reducible repeat (first | refine blk_drewN ?_ _ | refine blk_drew ?_ | refine blk_alloc ?_ _)); exact BK344.out) hb); have n6_ := Aside0.mk (below_step (by repeat (first | (with_reducible first | exact HB.out | apply below_alloc | apply pw_below_drewN | apply below_drew1 | refine below_set ?_ GE343.out | refine below_set ?_ GE344.out) | exact HB.out)) hb); clear HO_344001; clear HO_345004; clear HO_345005; clear HO_345006; clear BK343; clear BK344; clear HB; have HO_344001 := n0_; have HO_345004 := n1_; have HO_345005 := n2_; have HO_345006 := n3_; have BK343 := n4_; have BK344 := n5_; have HB := n6_; clear n0_ n1_ n2_ n3_ n4_ n5_ n6_; (try clear hb); (try clear hb2); (try clear hk); (try clear hi); have hcz37_0 : w36.cell? ⟨gb344, 0, none⟩ = some (.int .i64 x345000_1) := (blk_cell BK344.out 0).trans rfl; have hcz37_1 : w36.cell? ⟨gb344, 1, none⟩ = some (.string x345001_1) := (blk_cell BK344.out 1).trans rfl; have hcz37_2 : w36.cell? ⟨gb344, 2, none⟩ = some (.int .i64 x345002_1) := (blk_cell BK344.out 2).trans rfl; have hcz37_3 : w36.cell? ⟨gb344, 3, none⟩ = some (.string x345003_1) := (blk_cell BK344.out 3).trans rfl; have hcz37_4 : w36.cell? ⟨gb344, 4, none⟩ = some (u345004) := (blk_cell BK344.out 4).trans rfl; have hcz37_5 : w36.cell? ⟨gb344, 5, none⟩ = some (u345005) := (blk_cell BK344.out 5).trans rfl; have hcz37_6 : w36.cell? ⟨gb344, 6, none⟩ = some (u345006) := (blk_cell BK344.out 6).trans rfl; have hfz37_0 := blk_frozen BK344.out 0; have hfz37_1 := blk_frozen BK344.out 1; have hfz37_2 := blk_frozen BK344.out 2; have hfz37_3 := blk_frozen BK344.out 3; have hfz37_4 := blk_frozen BK344.out 4; have hfz37_5 := blk_frozen BK344.out 5; have hfz37_6 := blk_frozen BK344.out 6) | (go_at_call 83; (with_reducible refine (topiaryref02_Word.calls k1 x345003_1 false _ A15.out).mono ?_); rintro e w' ⟨rfl, ⟨nd, rfl⟩⟩; (try first | exact ⟨rfl, _, World.drewN_drewN _ _ _⟩ | exact ⟨rfl, _, Eq.trans (World.drewN_drewN _ _ _) (congrArg (World.drewN _) (Nat.add_assoc _ _ _))⟩))); try go_wp2_with (first | (go_at_call 84; (with_reducible refine (topiaryref02_At.calls k1 a0_0 _ _ l0_1 x345002_1 t345 _ ?side1 ?side2 A9.out).mono ?_); (case side1 => repeat (first | exact (Kd.V_reads' HO_344001.out).2.2 | (with_reducible refine Kd.C_alloc ?_ _) | (with_reducible refine Kd.C_drewN ?_ _) | (with_reducible refine Kd.C_drew ?_))); (case side2 => exact (Kd.V_reads' HO_344001.out).2.1); rintro e w36 ⟨rfl, hb⟩; have n0_ := Aside0.mk (Kd.V_below (by (with_reducible repeat (first | apply Kd.V_alloc | apply Kd.V_drewN | apply Kd.V_drew)); exact HO_344001.out) hb); have n1_ := Aside0.mk (Kd.V_below (by (with_reducible repeat (first | apply Kd.V_alloc | apply Kd.V_drewN | apply Kd.V_drew)); exact HO_345004.out) hb); have n2_ := Aside0.mk (Kd.V_below (by (with_reducible repeat (first | apply Kd.V_alloc | apply Kd.V_drewN | apply Kd.V_drew)); exact HO_345005.out) hb); have n3_ := Aside0.mk (Kd.V_below (by (with_reducible repeat (first | apply Kd.V_alloc | apply Kd.V_drewN | apply Kd.V_drew)); exact HO_345006.out) hb); have n4_ := Aside0.mk (blk_below (g := gb343) (o := .cells #[.int .i64 a0_0, .slice A0_1 l0_1.length c0_1] 27 (0, 0)) (by (with_reducible repeat (first | refine blk_drewN ?_ _ | refine blk_drew ?_ | refine blk_alloc ?_ _)); exact BK343.out) hb); have n5_ := Aside0.mk (blk_below (g := gb344) (o := .cells #[.int .i64 x345000_1, .string x345001_1, .int .i64 x345002_1, .string x345003_1, u345004, u345005, u345006] 76 (0, 0)) (by (with_reducible repeat (first | refine blk_drewN ?_ _ | refine blk_drew ?_ | refine blk_alloc ?_ _)); exact BK344.out) hb); have n6_ := Aside0.mk (below_step (by repeat (first | (with_reducible first | exact HB.out | apply below_alloc | apply pw_below_drewN | apply below_drew1 | refine below_set ?_ GE343.out | refine below_set ?_ GE344.out) | exact HB.out)) hb); clear HO_344001; clear HO_345004; clear HO_345005; clear HO_345006; clear BK343; clear BK344; clear HB; have HO_344001 := n0_; have HO_345004 := n1_; have HO_345005 := n2_; have HO_345006 := n3_; have BK343 := n4_; have BK344 := n5_; have HB := n6_; clear n0_ n1_ n2_ n3_ n4_ n5_ n6_; (try clear hb); (try clear hb2); (try clear hk); (try clear hi); have hcz37_0 : w36.cell? ⟨gb344, 0, none⟩ = some (.int .i64 x345000_1) := (blk_cell BK344.out 0).trans rfl; have hcz37_1 : w36.cell? ⟨gb344, 1, none⟩ = some (.string x345001_1) := (blk_cell BK344.out 1).trans rfl; have hcz37_2 : w36.cell? ⟨gb344, 2, none⟩ = some (.int .i64 x345002_1) := (blk_cell BK344.out 2).trans rfl; have hcz37_3 : w36.cell? ⟨gb344, 3, none⟩ = some (.string x345003_1) := (blk_cell BK344.out 3).trans rfl; have hcz37_4 : w36.cell? ⟨gb344, 4, none⟩ = some (u345004) := (blk_cell BK344.out 4).trans rfl; have hcz37_5 : w36.cell? ⟨gb344, 5, none⟩ = some (u345005) := (blk_cell BK344.out 5).trans rfl; have hcz37_6 : w36.cell? ⟨gb344, 6, none⟩ = some (u345006) := (blk_cell BK344.out 6).trans rfl; have hfz37_0 := blk_frozen BK344.out 0; have hfz37_1 := blk_frozen BK344.out 1; have hfz37_2 := blk_frozen BK344.out 2; have hfz37_3 := blk_frozen BK344.out 3; have hfz37_4 := blk_frozen BK344.out 4; have hfz37_5 := blk_frozen BK344.out 5; have hfz37_6 := blk_frozen BK344.out 6) | (go_at_call 83; (with_reducible refine (topiaryref02_Word.calls k1 x345003_1 false _ A15.out).mono ?_); rintro e w' ⟨rfl, ⟨nd, rfl⟩⟩; (try first | exact ⟨rfl, _, World.drewN_drewN _ _ _⟩ | exact ⟨rfl, _, Eq.trans (World.drewN_drewN _ _ _) (congrArg (World.drewN _) (Nat.add_assoc _ _ _))⟩))))
              go_ret
              exact ⟨by first | rfl | (simp [errW_none, errW_some] <;> rfl) | (simp [*, errW_none, errW_some] <;> rfl), by repeat (first | (with_reducible first | exact HB.out | apply below_alloc | apply pw_below_drewN | apply below_drew1 | refine below_set ?_ GE343.out | refine below_set ?_ GE344.out) | exact HB.out)⟩
      · rw [if_neg c5] at H
        have c5b0 : decide (x5_1 ≤ 64) = false := decide_eq_false c5
        clear c5
        obtain rfl := Option.some.inj H
        go_wp2
        repeat (go_quiet (fail); try go_wp2)
        go_ret
        exact ⟨by first | rfl | (simp [errW_none, errW_some] <;> rfl) | (simp [*, errW_none, errW_some] <;> rfl), by repeat (first | (with_reducible first | exact HB.out | apply below_alloc | apply pw_below_drewN | apply below_drew1 | refine below_set ?_ GE343.out | refine below_set ?_ GE344.out) | exact HB.out)⟩
end Go.Proofs.Ytlopfkkegjajlaa.PHistoryTouched
namespace Go.Proofs.Ytlopfkkegjajlaa
open Go.RowKit Go.Proofs.YtlopfkkegjajlaaW.PrintWords PHistoryTouched
noncomputable def tv (p : Prop) : Bool := @decide p (Classical.propDecidable p)
theorem tv_yes {p : Prop} (h : p) : tv p = true := @decide_eq_true p (Classical.propDecidable p) h
theorem tv_no {p : Prop} (h : ¬ p) : tv p = false := @decide_eq_false p (Classical.propDecidable p) h
theorem tv_iff {p : Prop} : tv p = true ↔ p := @decide_eq_true_iff p (Classical.propDecidable p)
theorem tv_niff {p : Prop} : tv p = false ↔ ¬ p := @decide_eq_false_iff_not p (Classical.propDecidable p)
theorem tv_congr {p q : Prop} (h : p ↔ q) : tv p = tv q := by rw [propext h]
theorem ba_eq {a b : ByteArray} : a.toList = b.toList ↔ a = b := by
  constructor
  · intro h
    rw [ByteArray.toList_eq, ByteArray.toList_eq] at h
    exact WideShapes.bytes_inj h
  · intro h; rw [h]
theorem wrap_up {i : Nat} (h : (i : Int) < 9223372036854775807) : wrap64 ((i : Int) + 1) = ((i + 1 : Nat) : Int) := by unfold wrap64; omega
theorem ev_ifp {α : Type} {c : Prop} [Decidable c] {g f : Nat → Option α} {r : α} (h : c) (k : Ev g r) : Ev (fun k => if c then g k else f k) r := Ev.congr (fun _ => if_pos h) k
theorem ev_ifn {α : Type} {c : Prop} [Decidable c] {g f : Nat → Option α} {r : α} (h : ¬ c) (k : Ev f r) : Ev (fun k => if c then g k else f k) r := Ev.congr (fun _ => if_neg h) k
theorem ev_all {g : Nat → Int → Option Bool} {rest : Nat → Option Bool} {r : Bool} (n : Nat) (q : Nat → Prop)
    (hstep : ∀ k (i : Nat), i < n → q i → g (k + 1) i = g k ((i + 1 : Nat) : Int)) (hno : ∀ k (i : Nat), i < n → ¬ q i → g (k + 1) i = some false) (hend : ∀ k, g (k + 1) (n : Int) = rest k) (hr : Ev rest r) :
    ∀ (d i : Nat), i + d = n → Ev (fun k => g k i) (tv (∀ j, i ≤ j → j < n → q j) && r)
  | 0, i, h => by
    obtain rfl : i = n := by omega
    rw [tv_yes (fun j h1 h2 => by omega), Bool.true_and]
    exact Ev.step (g := fun k => g k i) hend hr
  | d + 1, i, h => by
    by_cases hq : q i
    · have ih := ev_all n q hstep hno hend hr d (i + 1) (by omega)
      rw [tv_congr (p := ∀ j, i ≤ j → j < n → q j) (q := ∀ j, i + 1 ≤ j → j < n → q j)]
      · exact Ev.step (g := fun k => g k i) (fun k => hstep k i (by omega) hq) ih
      · constructor
        · intro h j h1 h2; exact h j (by omega) h2
        · intro h j h1 h2
          rcases Nat.lt_or_ge i j with h3 | h3
          · exact h j h3 h2
          · obtain rfl : j = i := by omega
            exact hq
    · rw [tv_no (fun h => hq (h i (Nat.le_refl _) (by omega))), Bool.false_and]
      exact Ev.step (g := fun k => g k i) (fun k => hno k i (by omega) hq) (Ev.now false)
theorem list_ext_rd {α : Type} {z : α} {l m : List α} (hl : l.length = m.length) : (∀ j, 0 ≤ j → j < l.length → l.getD j z = m.getD j z) ↔ l = m := by
  constructor
  · intro h
    apply List.ext_getElem hl
    intro j h1 h2
    have := h j (Nat.zero_le _) h1
    rwa [List.getD_eq_getElem?_getD, List.getD_eq_getElem?_getD, List.getElem?_eq_getElem h1, List.getElem?_eq_getElem h2] at this
  · intro h j _ _; rw [h]
theorem s82_ext {a b : S82} : a = b ↔ a.f0 = b.f0 ∧ a.f1 = b.f1 := by cases a; cases b; simp
theorem s84_ext {a b : S84} : a = b ↔ a.f0 = b.f0 ∧ a.f1 = b.f1 := by cases a; cases b; simp
theorem propEq_ev (l m : List S82) (hl : l.length ≤ 9223372036854775807) : Ev (fun k => api_Prop.f k l m) (tv (l = m)) := by
  unfold api_Prop.f
  by_cases h : l.length = m.length
  · refine ev_ifp (by omega) ?_
    have := ev_all (g := fun k i => api_Prop.l0 k l m l.length i) (rest := fun _ => some true) (r := true) l.length (fun j => rd_T82 l j = rd_T82 m j)
      (fun k i hi hq => by
        simp only [api_Prop.l0]
        rw [if_pos (by omega), if_pos (by omega), if_pos (by omega), if_pos (by omega), wrap_up (by omega), if_neg]
        obtain ⟨h1, h2⟩ := s82_ext.1 hq
        simp [h1, h2])
      (fun k i hi hq => by
        simp only [api_Prop.l0]
        rw [if_pos (by omega), if_pos (by omega), if_pos (by omega), if_pos (by omega), if_pos]
        have : ¬ ((rd_T82 l i).f0 = (rd_T82 m i).f0 ∧ (rd_T82 l i).f1 = (rd_T82 m i).f1) := fun h => hq (s82_ext.2 h)
        by_cases h1 : (rd_T82 l i).f0 = (rd_T82 m i).f0
        · have h2 : ¬ (rd_T82 l i).f1 = (rd_T82 m i).f1 := fun h2 => this ⟨h1, h2⟩
          simp [ba_eq, h1, h2]
        · simp [ba_eq, h1])
      (fun k => by simp only [api_Prop.l0]; rw [if_neg (by omega)]) (Ev.now true) l.length 0 (by omega)
    rw [Bool.and_true] at this
    rw [← tv_congr (list_ext_rd (z := z82) h)]
    exact this
  · refine ev_ifn (by omega) ?_
    rw [tv_no (fun e => h (by rw [e]))]
    exact Ev.now false
theorem refEq_ev (l m : List S84) (hl : l.length ≤ 9223372036854775807) : Ev (fun k => api_Ref.f k l m) (tv (l = m)) := by
  unfold api_Ref.f
  by_cases h : l.length = m.length
  · refine ev_ifp (by omega) ?_
    have := ev_all (g := fun k i => api_Ref.l0 k l m l.length i) (rest := fun _ => some true) (r := true) l.length (fun j => rd_T84 l j = rd_T84 m j)
      (fun k i hi hq => by
        simp only [api_Ref.l0]
        rw [if_pos (by omega), if_pos (by omega), if_pos (by omega), if_pos (by omega), wrap_up (by omega), if_neg]
        obtain ⟨h1, h2⟩ := s84_ext.1 hq
        simp [h1, h2])
      (fun k i hi hq => by
        simp only [api_Ref.l0]
        rw [if_pos (by omega), if_pos (by omega), if_pos (by omega), if_pos (by omega), if_pos]
        have : ¬ ((rd_T84 l i).f0 = (rd_T84 m i).f0 ∧ (rd_T84 l i).f1 = (rd_T84 m i).f1) := fun h => hq (s84_ext.2 h)
        by_cases h1 : (rd_T84 l i).f0 = (rd_T84 m i).f0
        · have h2 : ¬ (rd_T84 l i).f1 = (rd_T84 m i).f1 := fun h2 => this ⟨h1, h2⟩
          simp [h1, h2]
        · simp [ba_eq, h1])
      (fun k => by simp only [api_Ref.l0]; rw [if_neg (by omega)]) (Ev.now true) l.length 0 (by omega)
    rw [Bool.and_true] at this
    rw [← tv_congr (list_ext_rd (z := z84) h)]
    exact this
  · refine ev_ifn (by omega) ?_
    rw [tv_no (fun e => h (by rw [e]))]
    exact Ev.now false
theorem intEq_ev (l m : List Int) (hl : l.length ≤ 9223372036854775807) : Ev (fun k => slices_Equal_int_int.f k l m) (tv (l = m)) := by
  unfold slices_Equal_int_int.f
  by_cases h : l.length = m.length
  · refine ev_ifp (by omega) ?_
    have := ev_all (g := fun k i => slices_Equal_int_int.l0 k l m l.length i) (rest := fun _ => some true) (r := true) l.length (fun j => rd l j = rd m j)
      (fun k i hi hq => by
        simp only [slices_Equal_int_int.l0]
        rw [if_pos (by omega), if_pos (by omega), if_pos (by omega), if_pos (by omega), wrap_up (by omega), if_pos hq])
      (fun k i hi hq => by
        simp only [slices_Equal_int_int.l0]
        rw [if_pos (by omega), if_pos (by omega), if_pos (by omega), if_pos (by omega), if_neg hq])
      (fun k => by simp only [slices_Equal_int_int.l0]; rw [if_neg (by omega)]) (Ev.now true) l.length 0 (by omega)
    rw [Bool.and_true] at this
    rw [← tv_congr (list_ext_rd (z := (0 : Int)) h)]
    exact this
  · refine ev_ifn (by omega) ?_
    rw [tv_no (fun e => h (by rw [e]))]
    exact Ev.now false
theorem s76_ext {a b : S76} : a = b ↔ a.f0 = b.f0 ∧ a.f1 = b.f1 ∧ a.f2 = b.f2 ∧ a.f3 = b.f3 ∧ a.f4 = b.f4 ∧ a.f5 = b.f5 ∧ a.f6 = b.f6 := by cases a; cases b; simp
structure LenN (n : S76) : Prop where
  p : n.f4.length ≤ 9223372036854775807
  k : n.f5.length ≤ 9223372036854775807
  r : n.f6.length ≤ 9223372036854775807
theorem histSame_ev (a b : S76) (h : LenN a) (hid : a.f0 = b.f0) : Ev (fun k => history_same.f k a.f0 a.f1 a.f2 a.f3 a.f4 a.f5 a.f6 b.f0 b.f1 b.f2 b.f3 b.f4 b.f5 b.f6) (tv (a = b)) := by
  unfold history_same.f
  by_cases e1 : a.f1 = b.f1
  case neg => rw [tv_no (fun e => e1 (by rw [e]))]; exact ev_ifn (fun e => e1 (ba_eq.1 e)) (Ev.now _)
  refine ev_ifp (ba_eq.2 e1) ?_
  by_cases e2 : a.f2 = b.f2
  case neg => rw [tv_no (fun e => e2 (by rw [e]))]; exact ev_ifn e2 (Ev.now _)
  refine ev_ifp e2 ?_
  by_cases e3 : a.f3 = b.f3
  case neg => rw [tv_no (fun e => e3 (by rw [e]))]; exact ev_ifn (fun e => e3 (ba_eq.1 e)) (Ev.now _)
  refine ev_ifp (ba_eq.2 e3) ?_
  refine Ev.bind (propEq_ev a.f4 b.f4 h.p) ?_
  by_cases e4 : a.f4 = b.f4
  case neg => rw [tv_no e4, tv_no (fun e => e4 (by rw [e]))]; exact ev_ifn (by decide) (Ev.now _)
  rw [tv_yes e4]
  refine ev_ifp rfl ?_
  refine Ev.bind (intEq_ev a.f5 b.f5 h.k) ?_
  by_cases e5 : a.f5 = b.f5
  case neg => rw [tv_no e5, tv_no (fun e => e5 (by rw [e]))]; exact ev_ifn (by decide) (Ev.now _)
  rw [tv_yes e5]
  refine ev_ifp rfl ?_
  refine Ev.bind (refEq_ev a.f6 b.f6 h.r) ?_
  rw [tv_congr (p := a = b) (q := a.f6 = b.f6) ⟨fun e => by rw [e], fun e => s76_ext.2 ⟨hid, e1, e2, e3, e4, e5, e⟩⟩]
  exact Ev.now _
end Go.Proofs.Ytlopfkkegjajlaa
namespace Go.Proofs.Ytlopfkkegjajlaa
open Go.RowKit Go.Proofs.YtlopfkkegjajlaaW.PrintWords PHistoryTouched
structure NodeR (w : World) (n : S76) (A4 : Option Addr) (c4 : Nat) (A5 : Option Addr) (c5 : Nat) (A6 : Option Addr) (c6 : Nat) : Prop where
  l4 : n.f4.length ≤ c4
  r4 : Kd.C k82 w A4 n.f4.length n.f4
  l5 : n.f5.length ≤ c5
  r5 : Kd.C (Kd.int .i64) w A5 n.f5.length n.f5
  l6 : n.f6.length ≤ c6
  r6 : Kd.C k84 w A6 n.f6.length n.f6
theorem NodeR.below {w w' : World} {n : S76} {A4 : Option Addr} {c4 : Nat} {A5 : Option Addr} {c5 : Nat} {A6 : Option Addr} {c6 : Nat} (h : NodeR w n A4 c4 A5 c5 A6 c6) (hb : Below w.heap.size w w') : NodeR w' n A4 c4 A5 c5 A6 c6 :=
  ⟨h.l4, Kd.C_below h.r4 hb, h.l5, Kd.C_below h.r5 hb, h.l6, Kd.C_below h.r6 hb⟩
theorem NodeR.len {w : World} {n : S76} {A4 : Option Addr} {c4 : Nat} {A5 : Option Addr} {c5 : Nat} {A6 : Option Addr} {c6 : Nat} (h : NodeR w n A4 c4 A5 c5 A6 c6) : LenN n := ⟨h.r4.2.1, h.r5.2.1, h.r6.2.1⟩
abbrev nodeCs (n : S76) (A4 : Option Addr) (c4 : Nat) (A5 : Option Addr) (c5 : Nat) (A6 : Option Addr) (c6 : Nat) : Array Value :=
  #[.int .i64 n.f0, .string n.f1, .int .i64 n.f2, .string n.f3, .slice A4 n.f4.length c4, .slice A5 n.f5.length c5, .slice A6 n.f6.length c6]
abbrev nodeV (n : S76) (A4 : Option Addr) (c4 : Nat) (A5 : Option Addr) (c5 : Nat) (A6 : Option Addr) (c6 : Nat) : Value :=
  .agg #[.int .i64 n.f0, .string n.f1, .int .i64 n.f2, .string n.f3, .slice A4 n.f4.length c4, .slice A5 n.f5.length c5, .slice A6 n.f6.length c6]
structure Boxed2 (w : World) (o1 o2 : Obj) (W : World) : Prop where
  b : Below w.heap.size w W
  k1 : W.heap[w.heap.size]? = some o1
  k2 : W.heap[w.heap.size + 1]? = some o2
theorem boxed2 (w : World) (o1 o2 : Obj) : Boxed2 w o1 o2 ((w.alloc o1).alloc o2) :=
  ⟨below_alloc (below_alloc (Below.refl _ _) _) _, blk_alloc (blk_new w o1) o2, by have := blk_new (w.alloc o1) o2; simpa using this⟩
theorem Boxed2.below {w : World} {o1 o2 : Obj} {W W' : World} (h : Boxed2 w o1 o2 W) (hb : Below W.heap.size W W') : Boxed2 w o1 o2 W' :=
  ⟨below_step h.b hb, blk_below h.k1 hb, blk_below h.k2 hb⟩
theorem node_at {w : World} {A : Option Addr} {n : Nat} {xs : List S76} (h : Kd.C k76 w A n xs) (i : Int) (h0 : 0 ≤ i) (h1 : i < n) : ∃ ad A4 c4 A5 c5 A6 c6, A = some ad ∧ w.cell? (ad.add (i.toNat * 7)) = some (.int .i64 (rd_T76 xs i).f0) ∧ w.cell? ⟨(ad.add (i.toNat * 7)).block, (ad.add (i.toNat * 7)).off + 1, none⟩ = some (.string (rd_T76 xs i).f1) ∧ w.cell? ⟨(ad.add (i.toNat * 7)).block, (ad.add (i.toNat * 7)).off + 2, none⟩ = some (.int .i64 (rd_T76 xs i).f2) ∧ w.cell? ⟨(ad.add (i.toNat * 7)).block, (ad.add (i.toNat * 7)).off + 3, none⟩ = some (.string (rd_T76 xs i).f3)
    ∧ w.cell? ⟨(ad.add (i.toNat * 7)).block, (ad.add (i.toNat * 7)).off + 4, none⟩ = some (.slice A4 (rd_T76 xs i).f4.length c4) ∧ w.cell? ⟨(ad.add (i.toNat * 7)).block, (ad.add (i.toNat * 7)).off + 5, none⟩ = some (.slice A5 (rd_T76 xs i).f5.length c5) ∧ w.cell? ⟨(ad.add (i.toNat * 7)).block, (ad.add (i.toNat * 7)).off + 6, none⟩ = some (.slice A6 (rd_T76 xs i).f6.length c6) ∧ NodeR w (rd_T76 xs i) A4 c4 A5 c5 A6 c6 := by
  obtain ⟨ad, A4, c4, A5, c5, A6, c6, h1, h2, h3, h4, h5, h6, h7, h8, l4, g4, l5, g5, l6, g6⟩ := at_T76 h i h0 h1
  exact ⟨ad, A4, c4, A5, c5, A6, c6, h1, h2, h3, h4, h5, h6, h7, h8, l4, g4, l5, g5, l6, g6⟩
theorem node_atN {w : World} {A : Option Addr} {n : Nat} {xs : List S76} (h : Kd.C k76 w A n xs) (i : Nat) (h1 : i < n) : ∃ ad A4 c4 A5 c5 A6 c6, A = some ad ∧ w.cell? (ad.add (i * 7)) = some (.int .i64 (rd_T76 xs i).f0) ∧ w.cell? ⟨(ad.add (i * 7)).block, (ad.add (i * 7)).off + 1, none⟩ = some (.string (rd_T76 xs i).f1) ∧ w.cell? ⟨(ad.add (i * 7)).block, (ad.add (i * 7)).off + 2, none⟩ = some (.int .i64 (rd_T76 xs i).f2) ∧ w.cell? ⟨(ad.add (i * 7)).block, (ad.add (i * 7)).off + 3, none⟩ = some (.string (rd_T76 xs i).f3)
    ∧ w.cell? ⟨(ad.add (i * 7)).block, (ad.add (i * 7)).off + 4, none⟩ = some (.slice A4 (rd_T76 xs i).f4.length c4) ∧ w.cell? ⟨(ad.add (i * 7)).block, (ad.add (i * 7)).off + 5, none⟩ = some (.slice A5 (rd_T76 xs i).f5.length c5) ∧ w.cell? ⟨(ad.add (i * 7)).block, (ad.add (i * 7)).off + 6, none⟩ = some (.slice A6 (rd_T76 xs i).f6.length c6) ∧ NodeR w (rd_T76 xs i) A4 c4 A5 c5 A6 c6 := node_at h i (by omega) (by omega)
theorem propEq_any (l m : List S82) (A A' : Option Addr) (c c' : Nat) (w : World) (hr : Kd.C k82 w A l.length l) (hc : l.length ≤ c) (hr' : Kd.C k82 w A' m.length m) (hc' : m.length ≤ c') :
    Calls Try.prog 50 #[.slice A l.length c, .slice A' m.length c'] w fun e w' => e = .returned (.bool (tv (l = m))) ∧ Below w.heap.size w w' := by
  obtain ⟨k, h⟩ := (propEq_ev l m hr.2.1).rounds
  exact (api_Prop.calls k A c l A' c' m _ w hr hc hr' hc' h).mono fun e w' ⟨h1, h2⟩ => ⟨h1, h2.below⟩
theorem refEq_any (l m : List S84) (A A' : Option Addr) (c c' : Nat) (w : World) (hr : Kd.C k84 w A l.length l) (hc : l.length ≤ c) (hr' : Kd.C k84 w A' m.length m) (hc' : m.length ≤ c') :
    Calls Try.prog 52 #[.slice A l.length c, .slice A' m.length c'] w fun e w' => e = .returned (.bool (tv (l = m))) ∧ Below w.heap.size w w' := by
  obtain ⟨k, h⟩ := (refEq_ev l m hr.2.1).rounds
  exact (api_Ref.calls k A c l A' c' m _ w hr hc hr' hc' h).mono fun e w' ⟨h1, h2⟩ => ⟨h1, h2.below⟩
theorem intEq_any (l m : List Int) (A A' : Option Addr) (c c' : Nat) (w : World) (hr : Kd.C (Kd.int .i64) w A l.length l) (hc : l.length ≤ c) (hr' : Kd.C (Kd.int .i64) w A' m.length m) (hc' : m.length ≤ c') :
    Calls Try.prog 51 #[.slice A l.length c, .slice A' m.length c'] w fun e w' => e = .returned (.bool (tv (l = m))) ∧ Below w.heap.size w w' := by
  obtain ⟨k, h⟩ := (intEq_ev l m hr.2.1).rounds
  exact (slices_Equal_int_int.calls k A c l A' c' m _ w hr hc hr' hc' h).mono fun e w' ⟨h1, h2⟩ => ⟨h1, h2.below⟩
set_option maxRecDepth 100000 in
set_option maxHeartbeats 1000000 in
theorem same1_any (a b : S76) (A4 A5 A6 B4 B5 B6 : Option Addr) (c4 c5 c6 d4 d5 d6 : Nat) (w : World) (ha : NodeR w a A4 c4 A5 c5 A6 c6) (hb : NodeR w b B4 d4 B5 d5 B6 d6) :
    Calls Try.prog 49 #[nodeV a A4 c4 A5 c5 A6 c6, nodeV b B4 d4 B5 d5 B6 d6] w fun e w' => e = .returned (.bool (tv (a = b))) ∧ Below w.heap.size w w' := by
  have HA : Hid (NodeR w a A4 c4 A5 c5 A6 c6) := ha
  have HB : Hid (NodeR w b B4 d4 B5 d5 B6 d6) := hb
  have HE : Hid ((a = b) = (a = b)) := rfl
  have HX : Hid (a = b ↔ a.f0 = b.f0 ∧ a.f1 = b.f1 ∧ a.f2 = b.f2 ∧ a.f3 = b.f3 ∧ a.f4 = b.f4 ∧ a.f5 = b.f5 ∧ a.f6 = b.f6) := s76_ext
  clear ha hb HE
  generalize htv : tv (a = b) = r
  have HT : Hid (tv (a = b) = r) := htv
  clear htv
  have HW : Hid (Boxed2 w (.cells (nodeCs a A4 c4 A5 c5 A6 c6) 76) (.cells (nodeCs b B4 d4 B5 d5 B6 d6) 76) ((w.alloc (.cells (nodeCs a A4 c4 A5 c5 A6 c6) 76)).alloc (.cells (nodeCs b B4 d4 B5 d5 B6 d6) 76))) := boxed2 w _ _
  have no : (a = b → False) → r = false := fun h => by rw [← HT.out]; exact tv_no h
  have NO : Hid ((a = b → False) → r = false) := no
  clear no
  by_cases e0 : a.f0 = b.f0
  case neg =>
    have hr : Hid (r = false) := NO.out (fun e => e0 (by rw [e]))
    have e0' : (a.f0 == b.f0) = false := by simp [e0]
    go_enter Try.func49, Try.ntmps49
    go_wp2_with fail
    go_ret
    exact ⟨by rw [hr.out]; rfl, HW.out.b⟩
  have E0 : Hid (a.f0 = b.f0) := e0
  have e0' : (a.f0 == b.f0) = true := by simp [e0]
  clear e0
  by_cases e1 : a.f1 = b.f1
  case neg =>
    have hr : Hid (r = false) := NO.out (fun e => e1 (by rw [e]))
    have e1' : (a.f1.toList == b.f1.toList) = false := by simpa [ba_eq] using e1
    go_enter Try.func49, Try.ntmps49
    go_wp2_with fail
    go_ret
    exact ⟨by rw [hr.out]; rfl, HW.out.b⟩
  have E1 : Hid (a.f1 = b.f1) := e1
  have e1' : (a.f1.toList == b.f1.toList) = true := by simpa [ba_eq] using e1
  clear e1
  by_cases e2 : a.f2 = b.f2
  case neg =>
    have hr : Hid (r = false) := NO.out (fun e => e2 (by rw [e]))
    have e2' : (a.f2 == b.f2) = false := by simp [e2]
    go_enter Try.func49, Try.ntmps49
    go_wp2_with fail
    go_ret
    exact ⟨by rw [hr.out]; rfl, HW.out.b⟩
  have E2 : Hid (a.f2 = b.f2) := e2
  have e2' : (a.f2 == b.f2) = true := by simp [e2]
  clear e2
  by_cases e3 : a.f3 = b.f3
  case neg =>
    have hr : Hid (r = false) := NO.out (fun e => e3 (by rw [e]))
    have e3' : (a.f3.toList == b.f3.toList) = false := by simpa [ba_eq] using e3
    go_enter Try.func49, Try.ntmps49
    go_wp2_with fail
    go_ret
    exact ⟨by rw [hr.out]; rfl, HW.out.b⟩
  have E3 : Hid (a.f3 = b.f3) := e3
  have e3' : (a.f3.toList == b.f3.toList) = true := by simpa [ba_eq] using e3
  clear e3
  go_enter Try.func49, Try.ntmps49
  go_wp2_with fail
  generalize (World.alloc _ _) = W at HW
  have HA0 := HA.out.below HW.out.b
  have HB0 := HB.out.below HW.out.b
  refine (propEq_any a.f4 b.f4 A4 B4 c4 d4 W HA0.r4 HA0.l4 HB0.r4 HB0.l4).mono ?_
  rintro e w1 ⟨rfl, hb1⟩
  have HW1 : Hid (Boxed2 w (.cells (nodeCs a A4 c4 A5 c5 A6 c6) 76) (.cells (nodeCs b B4 d4 B5 d5 B6 d6) 76) w1) := HW.out.below hb1
  clear HA0 HB0 hb1 HW
  by_cases e4 : a.f4 = b.f4
  case neg =>
    have hr : Hid (r = false) := NO.out (fun e => e4 (by rw [e]))
    rw [tv_no e4]
    clear e4
    go_wp2_with fail
    go_ret
    exact ⟨by rw [hr.out]; rfl, HW1.out.b⟩
  have E4 : Hid (a.f4 = b.f4) := e4
  rw [tv_yes e4]
  clear e4
  have q1 : w1.cell? ⟨w.heap.size, 5, none⟩ = some (.slice A5 a.f5.length c5) := blk_cell HW1.out.k1 5
  have q2 : w1.cell? ⟨w.heap.size + 1, 5, none⟩ = some (.slice B5 b.f5.length d5) := blk_cell HW1.out.k2 5
  go_wp2_with fail
  clear q1 q2
  have HA1 := HA.out.below HW1.out.b
  have HB1 := HB.out.below HW1.out.b
  refine (intEq_any a.f5 b.f5 A5 B5 c5 d5 w1 HA1.r5 HA1.l5 HB1.r5 HB1.l5).mono ?_
  rintro e w2 ⟨rfl, hb2⟩
  have HW2 : Hid (Boxed2 w (.cells (nodeCs a A4 c4 A5 c5 A6 c6) 76) (.cells (nodeCs b B4 d4 B5 d5 B6 d6) 76) w2) := HW1.out.below hb2
  clear HA1 HB1 hb2 HW1
  by_cases e5 : a.f5 = b.f5
  case neg =>
    have hr : Hid (r = false) := NO.out (fun e => e5 (by rw [e]))
    rw [tv_no e5]
    clear e5
    go_wp2_with fail
    go_ret
    exact ⟨by rw [hr.out]; rfl, HW2.out.b⟩
  have E5 : Hid (a.f5 = b.f5) := e5
  rw [tv_yes e5]
  clear e5
  have q1 : w2.cell? ⟨w.heap.size, 6, none⟩ = some (.slice A6 a.f6.length c6) := blk_cell HW2.out.k1 6
  have q2 : w2.cell? ⟨w.heap.size + 1, 6, none⟩ = some (.slice B6 b.f6.length d6) := blk_cell HW2.out.k2 6
  go_wp2_with fail
  clear q1 q2
  have HA2 := HA.out.below HW2.out.b
  have HB2 := HB.out.below HW2.out.b
  refine (refEq_any a.f6 b.f6 A6 B6 c6 d6 w2 HA2.r6 HA2.l6 HB2.r6 HB2.l6).mono ?_
  rintro e w3 ⟨rfl, hb3⟩
  have HW3 : Hid (Boxed2 w (.cells (nodeCs a A4 c4 A5 c5 A6 c6) 76) (.cells (nodeCs b B4 d4 B5 d5 B6 d6) 76) w3) := HW2.out.below hb3
  clear HA2 HB2 hb3 HW2
  have hr : Hid (r = tv (a.f6 = b.f6)) := by
    rw [← HT.out]
    exact tv_congr ⟨fun e => by rw [e], fun e => HX.out.2 ⟨E0.out, E1.out, E2.out, E3.out, E4.out, E5.out, e⟩⟩
  generalize tv (a.f6 = b.f6) = q at hr
  go_wp2_with fail
  go_ret
  exact ⟨by rw [hr.out]; rfl, HW3.out.b⟩
set_option maxRecDepth 100000 in
set_option maxHeartbeats 1000000 in
theorem eqFunc_any (l m : List S76) (A A' : Option Addr) (c c' : Nat) (w : World) (hr : Kd.C k76 w A l.length l) (hr' : Kd.C k76 w A' m.length m) :
    Calls Try.prog 48 #[.slice A l.length c, .slice A' m.length c', .func (.func 49) #[] #[]] w fun e w' => e = .returned (.bool (tv (l = m))) ∧ Below w.heap.size w w' := by
  have HR : Hid (Kd.C k76 w A l.length l) := hr
  have HR' : Hid (Kd.C k76 w A' m.length m) := hr'
  have hmax := hr.2.1
  clear hr hr'
  generalize htv : tv (l = m) = r
  have HT : Hid (tv (l = m) = r) := htv
  clear htv
  by_cases hl : l.length = m.length
  case neg =>
    have hr : Hid (r = false) := by rw [← HT.out]; exact tv_no (fun e => hl (by rw [e]))
    have hl' : ((l.length : Int) != (m.length : Int)) = true := by rw [bne_iff_ne]; omega
    have hl2 : (l.length != m.length) = true := by rw [bne_iff_ne]; omega
    go_enter Try.func48, Try.ntmps48
    go_wp2_with fail
    go_ret
    exact ⟨by rw [hr.out]; rfl, Below.refl _ _⟩
  have HL : Hid (l.length = m.length) := hl
  have hle1 : l.length ≤ m.length := by omega
  have hle2 : m.length ≤ l.length := by omega
  have hl' : ((l.length : Int) != (m.length : Int)) = false := by simp [hl]
  have hl2 : (l.length != m.length) = false := by simp [hl]
  clear hl
  go_enter Try.func48, Try.ntmps48
  go_wp2_with fail
  go_loopw [17] (fun i W => ∃ k : Nat, k ≤ l.length ∧ i = .int .i64 k ∧ Hid (Below w.heap.size w W) ∧ Hid (∀ j : Nat, j < k → rd_T76 l j = rd_T76 m j)) (fun i _ => l.length - (intOf i).toNat)
  case atStart => exact ⟨0, Nat.zero_le _, rfl, Below.refl _ _, fun j hj => by omega⟩
  case round =>
    obtain ⟨k, hk, rfl, HB, HF⟩ := hrel
    by_cases hlt : k < l.length
    · obtain ⟨ad, A4, c4, A5, c5, A6, c6, rfl, x0, x1, x2, x3, x4, x5, x6, hn⟩ := node_atN (Kd.C_below HR.out HB.out) k (by omega)
      have HN : Hid (NodeR wr (rd_T76 l k) A4 c4 A5 c5 A6 c6) := hn
      clear hn
      generalize ha : rd_T76 l k = a at *
      have Ha : Hid (rd_T76 l k = a) := ha
      clear ha
      obtain ⟨bd, B4, d4, B5, d5, B6, d6, rfl, y0, y1, y2, y3, y4, y5, y6, hn'⟩ := node_atN (Kd.C_below HR'.out (below_alloc HB.out (.cells (nodeCs a A4 c4 A5 c5 A6 c6) 76))) k (by omega)
      have HN' : Hid (NodeR (wr.alloc (.cells (nodeCs a A4 c4 A5 c5 A6 c6) 76)) (rd_T76 m k) B4 d4 B5 d5 B6 d6) := hn'
      clear hn'
      generalize hb : rd_T76 m k = b at *
      have Hb : Hid (rd_T76 m k = b) := hb
      clear hb
      have HW : Hid (Boxed2 wr (.cells (nodeCs a A4 c4 A5 c5 A6 c6) 76) (.cells (nodeCs b B4 d4 B5 d5 B6 d6) 76) ((wr.alloc (.cells (nodeCs a A4 c4 A5 c5 A6 c6) 76)).alloc (.cells (nodeCs b B4 d4 B5 d5 B6 d6) 76))) := boxed2 wr _ _
      have HN2 := HN'.out.below (below_alloc (Below.refl _ _) (.cells (nodeCs b B4 d4 B5 d5 B6 d6) 76))
      have HN1 := HN.out.below HW.out.b
      have H1 : Hid (NodeR ((wr.alloc (.cells (nodeCs a A4 c4 A5 c5 A6 c6) 76)).alloc (.cells (nodeCs b B4 d4 B5 d5 B6 d6) 76)) a A4 c4 A5 c5 A6 c6) := HN1
      have H2 : Hid (NodeR ((wr.alloc (.cells (nodeCs a A4 c4 A5 c5 A6 c6) 76)).alloc (.cells (nodeCs b B4 d4 B5 d5 B6 d6) 76)) b B4 d4 B5 d5 B6 d6) := HN2
      clear HN1 HN2 HN HN'
      go_wp2_with fail
      clear x0 x1 x2 x3 x4 x5 x6 y0 y1 y2 y3 y4 y5 y6
      generalize (World.alloc (World.alloc _ _) _) = W at HW H1 H2 ⊢
      refine (same1_any a b A4 A5 A6 B4 B5 B6 c4 c5 c6 d4 d5 d6 W H1.out H2.out).mono ?_
      rintro e w1 ⟨rfl, hb1⟩
      have HB2 : Hid (Below w.heap.size w w1) := below_step (below_step HB.out HW.out.b) hb1
      clear HW H1 H2 hb1 HB
      by_cases e : a = b
      case neg =>
        have hr : Hid (r = false) := by
          rw [← HT.out]
          exact tv_no (fun h => e (by rw [← Ha.out, ← Hb.out, h]))
        rw [tv_no e]
        clear e
        go_wp2_with fail
        go_ret
        exact ⟨by rw [hr.out]; rfl, HB2.out⟩
      have HF' : Hid (∀ j : Nat, j < k + 1 → rd_T76 l j = rd_T76 m j) := by
        intro j hj
        rcases Nat.lt_or_ge j k with h | h
        · exact HF.out j h
        · obtain rfl : j = k := by omega
          rw [Ha.out, Hb.out]; exact e
      rw [tv_yes e]
      clear e HF
      go_wp2_with fail
      go_roundw
      case rel => exact ⟨k + 1, by omega, by go_num, HB2, HF'⟩
      case measure => simp [intOf]; omega
    · have hr : Hid (r = true) := by
        rw [← HT.out]
        exact tv_yes ((list_ext_rd (z := z76) HL.out).1 (fun j _ hj => HF.out j (by omega)))
      clear HF
      go_wp2_with fail
      go_ret
      exact ⟨by rw [hr.out]; rfl, HB.out⟩
set_option maxRecDepth 100000 in
set_option maxHeartbeats 1000000 in
theorem same_any (x y : Int) (l m : List S76) (A A' : Option Addr) (c c' : Nat) (w : World) (hr : Kd.C k76 w A l.length l) (hr' : Kd.C k76 w A' m.length m) :
    Calls Try.prog 30 #[.agg #[.int .i64 x, .slice A l.length c], .agg #[.int .i64 y, .slice A' m.length c']] w fun e w' => e = .returned (.bool (tv (x = y ∧ l = m))) ∧ Below w.heap.size w w' := by
  have HR : Hid (Kd.C k76 w A l.length l) := hr
  have HR' : Hid (Kd.C k76 w A' m.length m) := hr'
  clear hr hr'
  have HW : Hid (Boxed2 w (.cells #[.int .i64 x, .slice A l.length c] 27) (.cells #[.int .i64 y, .slice A' m.length c'] 27) ((w.alloc (.cells #[.int .i64 x, .slice A l.length c] 27)).alloc (.cells #[.int .i64 y, .slice A' m.length c'] 27))) := boxed2 w _ _
  by_cases e : x = y
  case neg =>
    have e' : (x == y) = false := by simp [e]
    rw [tv_no (fun h => e h.1)]
    clear e
    go_enter Try.func30, Try.ntmps30
    go_wp2_with fail
    go_ret
    exact ⟨rfl, HW.out.b⟩
  have e' : (x == y) = true := by simp [e]
  rw [tv_congr (p := x = y ∧ l = m) (q := l = m) ⟨fun h => h.2, fun h => ⟨e, h⟩⟩]
  clear e
  generalize ht : tv (l = m) = r
  have HT : Hid (tv (l = m) = r) := ht
  clear ht
  go_enter Try.func30, Try.ntmps30
  go_wp2_with fail
  have h1 := Kd.C_below HR.out HW.out.b
  have h2 := Kd.C_below HR'.out HW.out.b
  refine (eqFunc_any l m A A' c c' _ h1 h2).mono ?_
  rintro e w1 ⟨rfl, hb1⟩
  rw [HT.out]
  have HB : Hid (Below w.heap.size w w1) := below_step HW.out.b hb1
  clear h1 h2 hb1 HW
  go_wp2_with fail
  go_ret
  exact ⟨rfl, HB.out⟩
end Go.Proofs.Ytlopfkkegjajlaa
namespace Go.Proofs.Ytlopfkkegjajlaa
open Go.RowKit Go.Proofs.YtlopfkkegjajlaaW.PrintWords PHistoryTouched
def BW (w : World) := {W : World // Below w.heap.size w W}
instance (w : World) : Nonempty (BW w) := ⟨⟨w, Below.refl _ _⟩⟩
theorem wp_region_bw {P : Program} {id : Nat} {Q : Exit → Act → World → Prop} {a : Act} {w : World} {l : List Oper} (hm : P.follows .mixedOrders = true) (hB : Region.lexB .any l.toArray = true)
    (h : wpQuiet P l.toArray (fun w' => ∃ x : BW w, w' = x.1) (fun a' => ∀ w', (∃ x : BW w, w' = x.1) → Q .normal a' w') l a) : (Code.region id l.toArray true).wp P Q a w :=
  wp_region_quiet (C := fun w' => ∃ x : BW w, w' = x.1) hm hB ⟨⟨{ w with drawn := w.drawn + 1 }, ⟨rfl, rfl, rfl, Nat.le_refl _, fun _ _ => rfl⟩⟩, rfl⟩ (by simpa using h)
theorem calls_bw {P : Program} {f : FuncId} {args : Array Value} {w : World} {x : BW w} {v : Value} (h : Calls P f args x.1 fun e w' => e = .returned v ∧ Below x.1.heap.size x.1 w') :
    Calls P f args x.1 (fun e w'' => e = .returned v ∧ ∃ y : BW w, w'' = y.1) := h.mono fun _ _ ⟨he, hb⟩ => ⟨he, ⟨_, below_step x.2 hb⟩, rfl⟩
theorem bw_cell {w : World} {a : Addr} {v : Value} (h : w.cell? a = some v) (x : BW w) : x.1.cell? a = some v := pw_cell_below x.2 h
def lessB (a b : ByteArray) : Bool := Op.bytesLess a.toList b.toList
structure PropOk (ps : List S82) (k : Nat) : Prop where
  word : wordB (rd_T82 ps k).f0 = true
  size : (rd_T82 ps k).f1.size ≤ 4096
  up : 0 < k → lessB (rd_T82 ps (k - 1 : Nat)).f0 (rd_T82 ps k).f0 = true
structure RefOk (nx : Int) (rs : List S84) (k : Nat) : Prop where
  word : wordB (rd_T84 rs k).f0 = true
  lo : 1 ≤ (rd_T84 rs k).f1
  hi : (rd_T84 rs k).f1 < nx
  up : 0 < k → lessB (rd_T84 rs (k - 1 : Nat)).f0 (rd_T84 rs k).f0 = true
structure AloneP (nx : Int) (len : Nat) (n : S76) : Prop where
  word : wordB n.f1 = true
  root : n.f2 = 0 ↔ n.f3.toList = []
  role : n.f3.toList ≠ [] → wordB n.f3 = true
  kids : n.f5.length ≤ len
  props : ∀ k, k < n.f4.length → PropOk n.f4 k
  refs : ∀ k, k < n.f6.length → RefOk nx n.f6 k
set_option maxRecDepth 100000 in
set_option maxHeartbeats 16000000 in
theorem alone_yes (nx : Int) (l : List S76) (A : Option Addr) (c : Nat) (n : S76) (A4 A5 A6 : Option Addr) (c4 c5 c6 : Nat) (w : World) (hn : NodeR w n A4 c4 A5 c5 A6 c6)
    (h1 : wordB n.f1 = true) (h2 : n.f2 = 0 ↔ n.f3.toList = []) (h4 : n.f3.toList ≠ [] → wordB n.f3 = true) (h5 : n.f5.length ≤ l.length) :
    Calls Try.prog 46 #[.agg #[.int .i64 nx, .slice A l.length c], nodeV n A4 c4 A5 c5 A6 c6] w fun e w' => e = .returned (.bool (tv (AloneP nx l.length n))) ∧ Below w.heap.size w w' := by
  have HN : Hid (NodeR w n A4 c4 A5 c5 A6 c6) := hn
  have hm4 := hn.r4.2.1
  have hm6 := hn.r6.2.1
  clear hn
  have HW : Hid (Boxed2 w (.cells #[.int .i64 nx, .slice A l.length c] 27) (.cells (nodeCs n A4 c4 A5 c5 A6 c6) 76) ((w.alloc (.cells #[.int .i64 nx, .slice A l.length c] 27)).alloc (.cells (nodeCs n A4 c4 A5 c5 A6 c6) 76))) := boxed2 w _ _
  have YES : Hid ((∀ k, k < n.f4.length → PropOk n.f4 k) → (∀ k, k < n.f6.length → RefOk nx n.f6 k) → AloneP nx l.length n) := fun a b => ⟨h1, h2, h4, h5, a, b⟩
  generalize htv : tv (AloneP nx l.length n) = r
  have HT : Hid (tv (AloneP nx l.length n) = r) := htv
  clear htv
  have HH2 : Hid (n.f2 = 0 ↔ n.f3.toList = []) := h2
  have HH4 : Hid (n.f3.toList ≠ [] → wordB n.f3 = true) := h4
  have HH1 : Hid (wordB n.f1 = true) := h1
  have h5b : decide (l.length < n.f5.length) = false := by simp; omega
  clear h2 h4 h1
  go_enter Try.func46, Try.ntmps46
  go_wp2_with fail
  generalize (World.alloc (World.alloc _ _) _) = W at HW ⊢
  refine (word_any n.f1 W).mono ?_
  rintro e w1 ⟨rfl, hb1⟩
  rw [HH1.out]
  have HW1 : Hid (Boxed2 w (.cells #[.int .i64 nx, .slice A l.length c] 27) (.cells (nodeCs n A4 c4 A5 c5 A6 c6) 76) w1) := HW.out.below hb1
  clear HW hb1
  have q1 : w1.cell? ⟨w.heap.size, 1, none⟩ = some (.slice A l.length c) := blk_cell HW1.out.k1 1
  have q2 : w1.cell? ⟨w.heap.size + 1, 2, none⟩ = some (.int .i64 n.f2) := blk_cell HW1.out.k2 2
  have q3 : w1.cell? ⟨w.heap.size + 1, 3, none⟩ = some (.string n.f3) := blk_cell HW1.out.k2 3
  have q4 : w1.cell? ⟨w.heap.size + 1, 4, none⟩ = some (.slice A4 n.f4.length c4) := blk_cell HW1.out.k2 4
  have q5 : w1.cell? ⟨w.heap.size + 1, 5, none⟩ = some (.slice A5 n.f5.length c5) := blk_cell HW1.out.k2 5
  by_cases e3 : n.f3.toList = []
  · have e2 : n.f2 = 0 := HH2.out.2 e3
    have e2' : (n.f2 == 0) = true := by simp [e2]
    have e3' : (n.f3.toList == []) = true := by simp [e3]
    have e3'' : n.f3.toList.isEmpty = true := by simp [e3]
    have E3 : Hid (n.f3.toList = []) := e3
    clear e2 e3
    go_wp2_with fail
    clear q1 q2 q3 q4 q5
    obtain ⟨w2, HW2, rfl⟩ : ∃ w2 : World, Hid (Boxed2 w (.cells #[.int .i64 nx, .slice A l.length c] 27) (.cells (nodeCs n A4 c4 A5 c5 A6 c6) 76) w2) ∧ w2 = w1 := ⟨w1, HW1, rfl⟩
    clear HW1
    go_loopw [45] (fun i W => ∃ k : Nat, k ≤ n.f4.length ∧ i = .int .i64 k ∧ Hid (Boxed2 w (.cells #[.int .i64 nx, .slice A l.length c] 27) (.cells (nodeCs n A4 c4 A5 c5 A6 c6) 76) W) ∧ Hid (∀ j, j < k → PropOk n.f4 j)) (fun i _ => n.f4.length - (intOf i).toNat)
    case atStart => exact ⟨0, Nat.zero_le _, rfl, HW2, fun j hj => by omega⟩
    case round =>
      obtain ⟨k, hk, rfl, HB, HF⟩ := hrel
      by_cases hlt : k < n.f4.length
      · have bad : ¬ PropOk n.f4 k → r = false := fun h => by rw [← HT.out]; exact tv_no (fun hp => h (hp.props k hlt))
        have BAD : Hid (¬ PropOk n.f4 k → r = false) := bad
        have STEP : Hid (PropOk n.f4 k → ∀ j, j < k + 1 → PropOk n.f4 j) := fun h j hj => by
          rcases Nat.lt_or_ge j k with h2 | h2
          · exact HF.out j h2
          · obtain rfl : j = k := by omega
            exact h
        clear bad HF
        obtain ⟨ad, hade, x0, x1⟩ := at_T82 (Kd.C_below HN.out.r4 HB.out.b) k (by omega) (by omega)
        have HP : Hid (rd_T82 n.f4 k = rd_T82 n.f4 k) := rfl
        simp only [Int.toNat_natCast] at x0 x1
        have OKI : Hid (∀ (_ : wordB (rd_T82 n.f4 k).f0 = true) (_ : (rd_T82 n.f4 k).f1.size ≤ 4096) (_ : 0 < k → lessB (rd_T82 n.f4 (k - 1 : Nat)).f0 (rd_T82 n.f4 k).f0 = true), PropOk n.f4 k) := fun a b d => ⟨a, b, d⟩
        have OKE : Hid (PropOk n.f4 k → wordB (rd_T82 n.f4 k).f0 = true ∧ (rd_T82 n.f4 k).f1.size ≤ 4096 ∧ (0 < k → lessB (rd_T82 n.f4 (k - 1 : Nat)).f0 (rd_T82 n.f4 k).f0 = true)) := fun h => ⟨h.word, h.size, h.up⟩
        have Y : 0 < k → wr.cell? (ad.add ((k - 1) * 2)) = some (.string (rd_T82 n.f4 (k - 1 : Nat)).f0) := fun h => by
          obtain ⟨ad', e', y0, _⟩ := at_T82 (Kd.C_below HN.out.r4 HB.out.b) (k - 1 : Nat) (by omega) (by omega)
          rw [hade] at e'
          cases e'
          exact y0
        have HY : Hid (0 < k → wr.cell? (ad.add ((k - 1) * 2)) = some (.string (rd_T82 n.f4 (k - 1 : Nat)).f0)) := Y
        clear Y HP
        generalize rd_T82 n.f4 k = p at *
        have HB3 : Hid (Boxed2 w (.cells #[.int .i64 nx, .slice A l.length c] 27) (.cells (nodeCs n A4 c4 A5 c5 A6 c6) 76) (wr.alloc (.cells #[.string p.f0, .string p.f1] 82))) := HB.out.below (below_alloc (Below.refl _ _) _)
        have H0 : Hid ((wr.alloc (.cells #[.string p.f0, .string p.f1] 82)).heap[wr.heap.size]? = some (.cells #[.string p.f0, .string p.f1] 82)) := blk_new wr _
        have hA : A4 = some ad := hade
        subst hA
        clear hade
        cases hw : wordB p.f0 with
        | false =>
          have hr : Hid (r = false) := BAD.out (fun h => by have := (OKE.out h).1; rw [hw] at this; cases this)
          clear BAD OKE OKI STEP HY
          go_wp2_with fail
          generalize (wr.alloc (.cells #[.string p.f0, .string p.f1] 82)) = W3 at HB3 H0 ⊢
          generalize hg : wr.heap.size = g at H0 ⊢
          clear hg x0 x1
          have s0 : ∀ x : BW W3, x.1.cell? ⟨g, 0, none⟩ = some (.string p.f0) := bw_cell (blk_cell H0.out 0)
          have s1 : ∀ x : BW W3, x.1.cell? ⟨g, 1, none⟩ = some (.string p.f1) := bw_cell (blk_cell H0.out 1)
          have s2 : ∀ x : BW W3, x.1.cell? ⟨w.heap.size + 1, 4, none⟩ = some (.slice (some ad) n.f4.length c4) := bw_cell (blk_cell HB3.out.k2 4)
          refine wp_region_bw (by kernel_rfl) (by kernel_rfl) ?_
          repeat (go_big_quiet_step ((go_at_call 53; exact calls_bw (word_any _ _))))
          refine wpQuiet_nil ?_
          rintro _ ⟨x, rfl⟩
          have HB4 : Hid (Boxed2 w (.cells #[.int .i64 nx, .slice A l.length c] 27) (.cells (nodeCs n (some ad) c4 A5 c5 A6 c6) 76) x.1) := HB3.out.below x.2
          clear HB3 H0 s0 s1 s2 
          obtain ⟨w4, hw4⟩ := x
          dsimp only at HB4 ⊢
          clear hw4
          go_wp2_with fail
          go_ret
          exact ⟨by rw [hr.out]; rfl, HB4.out.b⟩
        | true =>
          by_cases hv : p.f1.size ≤ 4096
          case neg =>
            have hr : Hid (r = false) := BAD.out (fun h => hv (OKE.out h).2.1)
            clear BAD OKE OKI STEP HY
            have hv1 : decide (4096 < p.f1.size) = true := by simp; omega
            have hv2 : decide ((4096 : Int) < (p.f1.size : Int)) = true := by simp; omega
            go_wp2_with fail
            generalize (wr.alloc (.cells #[.string p.f0, .string p.f1] 82)) = W3 at HB3 H0 ⊢
            generalize hg : wr.heap.size = g at H0 ⊢
            clear hg x0 x1
            have s0 : ∀ x : BW W3, x.1.cell? ⟨g, 0, none⟩ = some (.string p.f0) := bw_cell (blk_cell H0.out 0)
            have s1 : ∀ x : BW W3, x.1.cell? ⟨g, 1, none⟩ = some (.string p.f1) := bw_cell (blk_cell H0.out 1)
            have s2 : ∀ x : BW W3, x.1.cell? ⟨w.heap.size + 1, 4, none⟩ = some (.slice (some ad) n.f4.length c4) := bw_cell (blk_cell HB3.out.k2 4)
            refine wp_region_bw (by kernel_rfl) (by kernel_rfl) ?_
            repeat (go_big_quiet_step ((go_at_call 53; exact calls_bw (word_any _ _))))
            refine wpQuiet_nil ?_
            rintro _ ⟨x, rfl⟩
            have HB4 : Hid (Boxed2 w (.cells #[.int .i64 nx, .slice A l.length c] 27) (.cells (nodeCs n (some ad) c4 A5 c5 A6 c6) 76) x.1) := HB3.out.below x.2
            clear HB3 H0 s0 s1 s2 
            obtain ⟨w4, hw4⟩ := x
            dsimp only at HB4 ⊢
            clear hw4
            go_wp2_with fail
            go_ret
            exact ⟨by rw [hr.out]; rfl, HB4.out.b⟩
          have hv1 : decide (4096 < p.f1.size) = false := by simp; omega
          have hv2 : decide ((4096 : Int) < (p.f1.size : Int)) = false := by simp; omega
          rcases Nat.eq_zero_or_pos k with hk0 | hk0
          · have HO : Hid (PropOk n.f4 k) := OKI.out hw hv (fun h => by omega)
            have hk1 : decide ((0 : Int) < (k : Int)) = false := by simp; omega
            have hk2 : decide (0 < k) = false := by simp; omega
            have K0 : Hid (k = 0) := hk0
            have hk3 : k ≤ 0 := by omega
            clear BAD OKE OKI HY hk0
            go_wp2_with fail
            generalize (wr.alloc (.cells #[.string p.f0, .string p.f1] 82)) = W3 at HB3 H0 ⊢
            generalize hg : wr.heap.size = g at H0 ⊢
            clear hg x0 x1
            have s0 : ∀ x : BW W3, x.1.cell? ⟨g, 0, none⟩ = some (.string p.f0) := bw_cell (blk_cell H0.out 0)
            have s1 : ∀ x : BW W3, x.1.cell? ⟨g, 1, none⟩ = some (.string p.f1) := bw_cell (blk_cell H0.out 1)
            have s2 : ∀ x : BW W3, x.1.cell? ⟨w.heap.size + 1, 4, none⟩ = some (.slice (some ad) n.f4.length c4) := bw_cell (blk_cell HB3.out.k2 4)
            refine wp_region_bw (by kernel_rfl) (by kernel_rfl) ?_
            repeat (go_big_quiet_step ((go_at_call 53; exact calls_bw (word_any _ _))))
            refine wpQuiet_nil ?_
            rintro _ ⟨x, rfl⟩
            have HB4 : Hid (Boxed2 w (.cells #[.int .i64 nx, .slice A l.length c] 27) (.cells (nodeCs n (some ad) c4 A5 c5 A6 c6) 76) x.1) := HB3.out.below x.2
            clear HB3 H0 s0 s1 s2 
            obtain ⟨w4, hw4⟩ := x
            dsimp only at HB4 ⊢
            clear hw4
            go_wp2_with fail
            go_roundw
            case rel => exact ⟨k + 1, by omega, by go_num, HB4, STEP.out HO.out⟩
            case measure => simp [intOf]; omega
          · obtain ⟨j, rfl⟩ : ∃ j, k = j + 1 := ⟨k - 1, by omega⟩
            have HQ : Hid (wr.cell? (ad.add (j * 2)) = some (.string (rd_T82 n.f4 j).f0)) := HY.out hk0
            have HQ : Hid ((wr.alloc (.cells #[.string p.f0, .string p.f1] 82)).cell? (ad.add (j * 2)) = some (.string (rd_T82 n.f4 j).f0)) := pw_cell_below (below_alloc (Below.refl _ _) _) HQ.out
            have OKI' : Hid (lessB (rd_T82 n.f4 j).f0 p.f0 = true → PropOk n.f4 (j + 1)) := fun h => OKI.out hw hv (fun _ => h)
            have OKE' : Hid (PropOk n.f4 (j + 1) → lessB (rd_T82 n.f4 j).f0 p.f0 = true) := fun h => (OKE.out h).2.2 hk0
            clear HY OKI OKE
            generalize rd_T82 n.f4 (j : Int) = q at *
            have hj0 : (0 : Int) ≤ (j : Int) := by omega
            have hj1 : (j : Int) < (n.f4.length : Int) := by omega
            have hw0 : IntKind.i64.wrap (j : Int) = j := IntWalk.i64_in _ (by omega)
            have hw1 : IntKind.i64.wrap ((j : Int) + 1 - 1) = j := by rw [show (j : Int) + 1 - 1 = j by omega]; exact hw0
            cases hls : lessB q.f0 p.f0 with
            | true =>
              have hls' : (!Op.bytesLess q.f0.toList p.f0.toList) = false := by have : Op.bytesLess q.f0.toList p.f0.toList = true := hls; rw [this]; rfl
              have HO : Hid (PropOk n.f4 (j + 1)) := OKI'.out hls
              clear BAD OKE' OKI' hls
              go_wp2_with fail
              generalize (wr.alloc (.cells #[.string p.f0, .string p.f1] 82)) = W3 at HB3 H0 HQ ⊢
              generalize hg : wr.heap.size = g at H0 ⊢
              clear hg x0 x1
              have s0 : ∀ x : BW W3, x.1.cell? ⟨g, 0, none⟩ = some (.string p.f0) := bw_cell (blk_cell H0.out 0)
              have s1 : ∀ x : BW W3, x.1.cell? ⟨g, 1, none⟩ = some (.string p.f1) := bw_cell (blk_cell H0.out 1)
              have s2 : ∀ x : BW W3, x.1.cell? ⟨w.heap.size + 1, 4, none⟩ = some (.slice (some ad) n.f4.length c4) := bw_cell (blk_cell HB3.out.k2 4)
              have s3 : ∀ x : BW W3, x.1.cell? (ad.add (j * 2)) = some (.string q.f0) := bw_cell (HQ.out)
              refine wp_region_bw (by kernel_rfl) (by kernel_rfl) ?_
              repeat (go_big_quiet_step ((go_at_call 53; exact calls_bw (word_any _ _))))
              refine wpQuiet_nil ?_
              rintro _ ⟨x, rfl⟩
              have HB4 : Hid (Boxed2 w (.cells #[.int .i64 nx, .slice A l.length c] 27) (.cells (nodeCs n (some ad) c4 A5 c5 A6 c6) 76) x.1) := HB3.out.below x.2
              clear HB3 H0 s0 s1 s2 s3 HQ
              obtain ⟨w4, hw4⟩ := x
              dsimp only at HB4 ⊢
              clear hw4
              go_wp2_with fail
              go_roundw
              case rel => exact ⟨j + 1 + 1, by omega, by go_num, HB4, STEP.out HO.out⟩
              case measure => simp [intOf]; omega
            | false =>
              have hls' : (!Op.bytesLess q.f0.toList p.f0.toList) = true := by have : Op.bytesLess q.f0.toList p.f0.toList = false := hls; rw [this]; rfl
              have hr : Hid (r = false) := BAD.out (fun h => by have := OKE'.out h; rw [hls] at this; cases this)
              clear BAD OKE' OKI' hls STEP
              go_wp2_with fail
              generalize (wr.alloc (.cells #[.string p.f0, .string p.f1] 82)) = W3 at HB3 H0 HQ ⊢
              generalize hg : wr.heap.size = g at H0 ⊢
              clear hg x0 x1
              have s0 : ∀ x : BW W3, x.1.cell? ⟨g, 0, none⟩ = some (.string p.f0) := bw_cell (blk_cell H0.out 0)
              have s1 : ∀ x : BW W3, x.1.cell? ⟨g, 1, none⟩ = some (.string p.f1) := bw_cell (blk_cell H0.out 1)
              have s2 : ∀ x : BW W3, x.1.cell? ⟨w.heap.size + 1, 4, none⟩ = some (.slice (some ad) n.f4.length c4) := bw_cell (blk_cell HB3.out.k2 4)
              have s3 : ∀ x : BW W3, x.1.cell? (ad.add (j * 2)) = some (.string q.f0) := bw_cell (HQ.out)
              refine wp_region_bw (by kernel_rfl) (by kernel_rfl) ?_
              repeat (go_big_quiet_step ((go_at_call 53; exact calls_bw (word_any _ _))))
              refine wpQuiet_nil ?_
              rintro _ ⟨x, rfl⟩
              have HB4 : Hid (Boxed2 w (.cells #[.int .i64 nx, .slice A l.length c] 27) (.cells (nodeCs n (some ad) c4 A5 c5 A6 c6) 76) x.1) := HB3.out.below x.2
              clear HB3 H0 s0 s1 s2 s3 HQ
              obtain ⟨w4, hw4⟩ := x
              dsimp only at HB4 ⊢
              clear hw4
              go_wp2_with fail
              go_ret
              exact ⟨by rw [hr.out]; rfl, HB4.out.b⟩
      · have HPROPS : Hid (∀ j, j < n.f4.length → PropOk n.f4 j) := fun j hj => HF.out j (by omega)
        clear HF
        have HW2 : Hid (Boxed2 w (.cells #[.int .i64 nx, .slice A l.length c] 27) (.cells (nodeCs n A4 c4 A5 c5 A6 c6) 76) wr) := HB
        have q6 : wr.cell? ⟨w.heap.size + 1, 6, none⟩ = some (.slice A6 n.f6.length c6) := blk_cell HB.out.k2 6
        clear HB
        go_wp2_with fail
        clear q6
        obtain ⟨wo, rfl⟩ : ∃ wo : World, wo = wr := ⟨_, rfl⟩
        go_loopw [80] (fun i W => ∃ k : Nat, k ≤ n.f6.length ∧ i = .int .i64 k ∧ Hid (Boxed2 w (.cells #[.int .i64 nx, .slice A l.length c] 27) (.cells (nodeCs n A4 c4 A5 c5 A6 c6) 76) W) ∧ Hid (∀ j, j < k → RefOk nx n.f6 j)) (fun i _ => n.f6.length - (intOf i).toNat)
        case atStart => exact ⟨0, Nat.zero_le _, rfl, HW2, fun j hj => by omega⟩
        case round =>
          obtain ⟨k, hk, rfl, HB, HF⟩ := hrel
          by_cases hlt : k < n.f6.length
          · have bad : ¬ RefOk nx n.f6 k → r = false := fun h => by rw [← HT.out]; exact tv_no (fun hp => h (hp.refs k hlt))
            have BAD : Hid (¬ RefOk nx n.f6 k → r = false) := bad
            have STEP : Hid (RefOk nx n.f6 k → ∀ j, j < k + 1 → RefOk nx n.f6 j) := fun h j hj => by
              rcases Nat.lt_or_ge j k with h2 | h2
              · exact HF.out j h2
              · obtain rfl : j = k := by omega
                exact h
            clear bad HF
            obtain ⟨ad, hade, x0, x1⟩ := at_T84 (Kd.C_below HN.out.r6 HB.out.b) k (by omega) (by omega)
            have HP : Hid (rd_T84 n.f6 k = rd_T84 n.f6 k) := rfl
            simp only [Int.toNat_natCast] at x0 x1
            have OKI : Hid (∀ (_ : wordB (rd_T84 n.f6 k).f0 = true) (_ : 1 ≤ (rd_T84 n.f6 k).f1) (_ : (rd_T84 n.f6 k).f1 < nx) (_ : 0 < k → lessB (rd_T84 n.f6 (k - 1 : Nat)).f0 (rd_T84 n.f6 k).f0 = true), RefOk nx n.f6 k) := fun a b e d => ⟨a, b, e, d⟩
            have OKE : Hid (RefOk nx n.f6 k → wordB (rd_T84 n.f6 k).f0 = true ∧ (1 ≤ (rd_T84 n.f6 k).f1 ∧ (rd_T84 n.f6 k).f1 < nx) ∧ (0 < k → lessB (rd_T84 n.f6 (k - 1 : Nat)).f0 (rd_T84 n.f6 k).f0 = true)) := fun h => ⟨h.word, ⟨h.lo, h.hi⟩, h.up⟩
            have Y : 0 < k → wr.cell? (ad.add ((k - 1) * 2)) = some (.string (rd_T84 n.f6 (k - 1 : Nat)).f0) := fun h => by
              obtain ⟨ad', e', y0, _⟩ := at_T84 (Kd.C_below HN.out.r6 HB.out.b) (k - 1 : Nat) (by omega) (by omega)
              rw [hade] at e'
              cases e'
              exact y0
            have HY : Hid (0 < k → wr.cell? (ad.add ((k - 1) * 2)) = some (.string (rd_T84 n.f6 (k - 1 : Nat)).f0)) := Y
            clear Y HP
            generalize rd_T84 n.f6 k = p at *
            have HB3 : Hid (Boxed2 w (.cells #[.int .i64 nx, .slice A l.length c] 27) (.cells (nodeCs n A4 c4 A5 c5 A6 c6) 76) (wr.alloc (.cells #[.string p.f0, .int .i64 p.f1] 84))) := HB.out.below (below_alloc (Below.refl _ _) _)
            have H0 : Hid ((wr.alloc (.cells #[.string p.f0, .int .i64 p.f1] 84)).heap[wr.heap.size]? = some (.cells #[.string p.f0, .int .i64 p.f1] 84)) := blk_new wr _
            have hA : A6 = some ad := hade
            subst hA
            clear hade
            cases hw : wordB p.f0 with
            | false =>
              have hr : Hid (r = false) := BAD.out (fun h => by have := (OKE.out h).1; rw [hw] at this; cases this)
              clear BAD OKE OKI STEP HY
              go_wp2_with fail
              generalize (wr.alloc (.cells #[.string p.f0, .int .i64 p.f1] 84)) = W3 at HB3 H0 ⊢
              generalize hg : wr.heap.size = g at H0 ⊢
              clear hg x0 x1
              have s0 : ∀ x : BW W3, x.1.cell? ⟨g, 0, none⟩ = some (.string p.f0) := bw_cell (blk_cell H0.out 0)
              have s1 : ∀ x : BW W3, x.1.cell? ⟨g, 1, none⟩ = some (.int .i64 p.f1) := bw_cell (blk_cell H0.out 1)
              have s2 : ∀ x : BW W3, x.1.cell? ⟨w.heap.size + 1, 6, none⟩ = some (.slice (some ad) n.f6.length c6) := bw_cell (blk_cell HB3.out.k2 6)
              have s3 : ∀ x : BW W3, x.1.cell? ⟨w.heap.size, 0, none⟩ = some (.int .i64 nx) := bw_cell (blk_cell HB3.out.k1 0)
              refine wp_region_bw (by kernel_rfl) (by kernel_rfl) ?_
              repeat (go_big_quiet_step ((go_at_call 53; exact calls_bw (word_any _ _))))
              refine wpQuiet_nil ?_
              rintro _ ⟨x, rfl⟩
              have HB4 : Hid (Boxed2 w (.cells #[.int .i64 nx, .slice A l.length c] 27) (.cells (nodeCs n A4 c4 A5 c5 (some ad) c6) 76) x.1) := HB3.out.below x.2
              clear HB3 H0 s0 s1 s2 s3 
              obtain ⟨w4, hw4⟩ := x
              dsimp only at HB4 ⊢
              clear hw4
              go_wp2_with fail
              go_ret
              exact ⟨by rw [hr.out]; rfl, HB4.out.b⟩
            | true =>
              by_cases hv : 1 ≤ p.f1
              case neg =>
                have hr : Hid (r = false) := BAD.out (fun h => hv (OKE.out h).2.1.1)
                clear BAD OKE OKI STEP HY
                have hv1 : decide (p.f1 < 1) = true := by simp; omega
                go_wp2_with fail
                generalize (wr.alloc (.cells #[.string p.f0, .int .i64 p.f1] 84)) = W3 at HB3 H0 ⊢
                generalize hg : wr.heap.size = g at H0 ⊢
                clear hg x0 x1
                have s0 : ∀ x : BW W3, x.1.cell? ⟨g, 0, none⟩ = some (.string p.f0) := bw_cell (blk_cell H0.out 0)
                have s1 : ∀ x : BW W3, x.1.cell? ⟨g, 1, none⟩ = some (.int .i64 p.f1) := bw_cell (blk_cell H0.out 1)
                have s2 : ∀ x : BW W3, x.1.cell? ⟨w.heap.size + 1, 6, none⟩ = some (.slice (some ad) n.f6.length c6) := bw_cell (blk_cell HB3.out.k2 6)
                have s3 : ∀ x : BW W3, x.1.cell? ⟨w.heap.size, 0, none⟩ = some (.int .i64 nx) := bw_cell (blk_cell HB3.out.k1 0)
                refine wp_region_bw (by kernel_rfl) (by kernel_rfl) ?_
                repeat (go_big_quiet_step ((go_at_call 53; exact calls_bw (word_any _ _))))
                refine wpQuiet_nil ?_
                rintro _ ⟨x, rfl⟩
                have HB4 : Hid (Boxed2 w (.cells #[.int .i64 nx, .slice A l.length c] 27) (.cells (nodeCs n A4 c4 A5 c5 (some ad) c6) 76) x.1) := HB3.out.below x.2
                clear HB3 H0 s0 s1 s2 s3 
                obtain ⟨w4, hw4⟩ := x
                dsimp only at HB4 ⊢
                clear hw4
                go_wp2_with fail
                go_ret
                exact ⟨by rw [hr.out]; rfl, HB4.out.b⟩
              have hv1 : decide (p.f1 < 1) = false := by simp; omega
              by_cases hx : p.f1 < nx
              case neg =>
                have hr : Hid (r = false) := BAD.out (fun h => hx (OKE.out h).2.1.2)
                clear BAD OKE OKI STEP HY
                have hx1 : decide (nx ≤ p.f1) = true := by simp; omega
                go_wp2_with fail
                generalize (wr.alloc (.cells #[.string p.f0, .int .i64 p.f1] 84)) = W3 at HB3 H0 ⊢
                generalize hg : wr.heap.size = g at H0 ⊢
                clear hg x0 x1
                have s0 : ∀ x : BW W3, x.1.cell? ⟨g, 0, none⟩ = some (.string p.f0) := bw_cell (blk_cell H0.out 0)
                have s1 : ∀ x : BW W3, x.1.cell? ⟨g, 1, none⟩ = some (.int .i64 p.f1) := bw_cell (blk_cell H0.out 1)
                have s2 : ∀ x : BW W3, x.1.cell? ⟨w.heap.size + 1, 6, none⟩ = some (.slice (some ad) n.f6.length c6) := bw_cell (blk_cell HB3.out.k2 6)
                have s3 : ∀ x : BW W3, x.1.cell? ⟨w.heap.size, 0, none⟩ = some (.int .i64 nx) := bw_cell (blk_cell HB3.out.k1 0)
                refine wp_region_bw (by kernel_rfl) (by kernel_rfl) ?_
                repeat (go_big_quiet_step ((go_at_call 53; exact calls_bw (word_any _ _))))
                refine wpQuiet_nil ?_
                rintro _ ⟨x, rfl⟩
                have HB4 : Hid (Boxed2 w (.cells #[.int .i64 nx, .slice A l.length c] 27) (.cells (nodeCs n A4 c4 A5 c5 (some ad) c6) 76) x.1) := HB3.out.below x.2
                clear HB3 H0 s0 s1 s2 s3 
                obtain ⟨w4, hw4⟩ := x
                dsimp only at HB4 ⊢
                clear hw4
                go_wp2_with fail
                go_ret
                exact ⟨by rw [hr.out]; rfl, HB4.out.b⟩
              have hx1 : decide (nx ≤ p.f1) = false := by simp; omega
              rcases Nat.eq_zero_or_pos k with hk0 | hk0
              · have HO : Hid (RefOk nx n.f6 k) := OKI.out hw hv hx (fun h => by omega)
                have hk1 : decide ((0 : Int) < (k : Int)) = false := by simp; omega
                have hk2 : decide (0 < k) = false := by simp; omega
                have K0 : Hid (k = 0) := hk0
                have hk3 : k ≤ 0 := by omega
                clear BAD OKE OKI HY hk0
                go_wp2_with fail
                generalize (wr.alloc (.cells #[.string p.f0, .int .i64 p.f1] 84)) = W3 at HB3 H0 ⊢
                generalize hg : wr.heap.size = g at H0 ⊢
                clear hg x0 x1
                have s0 : ∀ x : BW W3, x.1.cell? ⟨g, 0, none⟩ = some (.string p.f0) := bw_cell (blk_cell H0.out 0)
                have s1 : ∀ x : BW W3, x.1.cell? ⟨g, 1, none⟩ = some (.int .i64 p.f1) := bw_cell (blk_cell H0.out 1)
                have s2 : ∀ x : BW W3, x.1.cell? ⟨w.heap.size + 1, 6, none⟩ = some (.slice (some ad) n.f6.length c6) := bw_cell (blk_cell HB3.out.k2 6)
                have s3 : ∀ x : BW W3, x.1.cell? ⟨w.heap.size, 0, none⟩ = some (.int .i64 nx) := bw_cell (blk_cell HB3.out.k1 0)
                refine wp_region_bw (by kernel_rfl) (by kernel_rfl) ?_
                repeat (go_big_quiet_step ((go_at_call 53; exact calls_bw (word_any _ _))))
                refine wpQuiet_nil ?_
                rintro _ ⟨x, rfl⟩
                have HB4 : Hid (Boxed2 w (.cells #[.int .i64 nx, .slice A l.length c] 27) (.cells (nodeCs n A4 c4 A5 c5 (some ad) c6) 76) x.1) := HB3.out.below x.2
                clear HB3 H0 s0 s1 s2 s3 
                obtain ⟨w4, hw4⟩ := x
                dsimp only at HB4 ⊢
                clear hw4
                go_wp2_with fail
                go_roundw
                case rel => exact ⟨k + 1, by omega, by go_num, HB4, STEP.out HO.out⟩
                case measure => simp [intOf]; omega
              · obtain ⟨j, rfl⟩ : ∃ j, k = j + 1 := ⟨k - 1, by omega⟩
                have HQ : Hid (wr.cell? (ad.add (j * 2)) = some (.string (rd_T84 n.f6 j).f0)) := HY.out hk0
                have HQ : Hid ((wr.alloc (.cells #[.string p.f0, .int .i64 p.f1] 84)).cell? (ad.add (j * 2)) = some (.string (rd_T84 n.f6 j).f0)) := pw_cell_below (below_alloc (Below.refl _ _) _) HQ.out
                have OKI' : Hid (lessB (rd_T84 n.f6 j).f0 p.f0 = true → RefOk nx n.f6 (j + 1)) := fun h => OKI.out hw hv hx (fun _ => h)
                have OKE' : Hid (RefOk nx n.f6 (j + 1) → lessB (rd_T84 n.f6 j).f0 p.f0 = true) := fun h => (OKE.out h).2.2 hk0
                clear HY OKI OKE
                generalize rd_T84 n.f6 (j : Int) = q at *
                have hj0 : (0 : Int) ≤ (j : Int) := by omega
                have hj1 : (j : Int) < (n.f6.length : Int) := by omega
                have hw0 : IntKind.i64.wrap (j : Int) = j := IntWalk.i64_in _ (by omega)
                have hw1 : IntKind.i64.wrap ((j : Int) + 1 - 1) = j := by rw [show (j : Int) + 1 - 1 = j by omega]; exact hw0
                cases hls : lessB q.f0 p.f0 with
                | true =>
                  have hls' : (!Op.bytesLess q.f0.toList p.f0.toList) = false := by have : Op.bytesLess q.f0.toList p.f0.toList = true := hls; rw [this]; rfl
                  have HO : Hid (RefOk nx n.f6 (j + 1)) := OKI'.out hls
                  clear BAD OKE' OKI' hls
                  go_wp2_with fail
                  generalize (wr.alloc (.cells #[.string p.f0, .int .i64 p.f1] 84)) = W3 at HB3 H0 HQ ⊢
                  generalize hg : wr.heap.size = g at H0 ⊢
                  clear hg x0 x1
                  have s0 : ∀ x : BW W3, x.1.cell? ⟨g, 0, none⟩ = some (.string p.f0) := bw_cell (blk_cell H0.out 0)
                  have s1 : ∀ x : BW W3, x.1.cell? ⟨g, 1, none⟩ = some (.int .i64 p.f1) := bw_cell (blk_cell H0.out 1)
                  have s2 : ∀ x : BW W3, x.1.cell? ⟨w.heap.size + 1, 6, none⟩ = some (.slice (some ad) n.f6.length c6) := bw_cell (blk_cell HB3.out.k2 6)
                  have s3 : ∀ x : BW W3, x.1.cell? ⟨w.heap.size, 0, none⟩ = some (.int .i64 nx) := bw_cell (blk_cell HB3.out.k1 0)
                  have s4 : ∀ x : BW W3, x.1.cell? (ad.add (j * 2)) = some (.string q.f0) := bw_cell (HQ.out)
                  refine wp_region_bw (by kernel_rfl) (by kernel_rfl) ?_
                  repeat (go_big_quiet_step ((go_at_call 53; exact calls_bw (word_any _ _))))
                  refine wpQuiet_nil ?_
                  rintro _ ⟨x, rfl⟩
                  have HB4 : Hid (Boxed2 w (.cells #[.int .i64 nx, .slice A l.length c] 27) (.cells (nodeCs n A4 c4 A5 c5 (some ad) c6) 76) x.1) := HB3.out.below x.2
                  clear HB3 H0 s0 s1 s2 s3 s4 HQ
                  obtain ⟨w4, hw4⟩ := x
                  dsimp only at HB4 ⊢
                  clear hw4
                  go_wp2_with fail
                  go_roundw
                  case rel => exact ⟨j + 1 + 1, by omega, by go_num, HB4, STEP.out HO.out⟩
                  case measure => simp [intOf]; omega
                | false =>
                  have hls' : (!Op.bytesLess q.f0.toList p.f0.toList) = true := by have : Op.bytesLess q.f0.toList p.f0.toList = false := hls; rw [this]; rfl
                  have hr : Hid (r = false) := BAD.out (fun h => by have := OKE'.out h; rw [hls] at this; cases this)
                  clear BAD OKE' OKI' hls STEP
                  go_wp2_with fail
                  generalize (wr.alloc (.cells #[.string p.f0, .int .i64 p.f1] 84)) = W3 at HB3 H0 HQ ⊢
                  generalize hg : wr.heap.size = g at H0 ⊢
                  clear hg x0 x1
                  have s0 : ∀ x : BW W3, x.1.cell? ⟨g, 0, none⟩ = some (.string p.f0) := bw_cell (blk_cell H0.out 0)
                  have s1 : ∀ x : BW W3, x.1.cell? ⟨g, 1, none⟩ = some (.int .i64 p.f1) := bw_cell (blk_cell H0.out 1)
                  have s2 : ∀ x : BW W3, x.1.cell? ⟨w.heap.size + 1, 6, none⟩ = some (.slice (some ad) n.f6.length c6) := bw_cell (blk_cell HB3.out.k2 6)
                  have s3 : ∀ x : BW W3, x.1.cell? ⟨w.heap.size, 0, none⟩ = some (.int .i64 nx) := bw_cell (blk_cell HB3.out.k1 0)
                  have s4 : ∀ x : BW W3, x.1.cell? (ad.add (j * 2)) = some (.string q.f0) := bw_cell (HQ.out)
                  refine wp_region_bw (by kernel_rfl) (by kernel_rfl) ?_
                  repeat (go_big_quiet_step ((go_at_call 53; exact calls_bw (word_any _ _))))
                  refine wpQuiet_nil ?_
                  rintro _ ⟨x, rfl⟩
                  have HB4 : Hid (Boxed2 w (.cells #[.int .i64 nx, .slice A l.length c] 27) (.cells (nodeCs n A4 c4 A5 c5 (some ad) c6) 76) x.1) := HB3.out.below x.2
                  clear HB3 H0 s0 s1 s2 s3 s4 HQ
                  obtain ⟨w4, hw4⟩ := x
                  dsimp only at HB4 ⊢
                  clear hw4
                  go_wp2_with fail
                  go_ret
                  exact ⟨by rw [hr.out]; rfl, HB4.out.b⟩
          · have hr : Hid (r = true) := by rw [← HT.out]; exact tv_yes (YES.out HPROPS.out (fun j hj => HF.out j (by omega)))
            clear HF HPROPS
            go_wp2_with fail
            go_ret
            exact ⟨by rw [hr.out]; rfl, HB.out.b⟩
  · have hf4 : wordB n.f3 = true := HH4.out e3
    have e2 : ¬ n.f2 = 0 := fun h => e3 (HH2.out.1 h)
    have e2' : (n.f2 == 0) = false := by simp [e2]
    have e3' : (n.f3.toList == []) = false := by simp [e3]
    have e3'' : n.f3.toList.isEmpty = false := by simp [e3]
    have E3 : Hid (¬ n.f3.toList = []) := e3
    clear e2 e3
    go_wp2_with fail
    refine (word_any n.f3 w1).mono ?_
    rintro e w2 ⟨rfl, hb2⟩
    rw [hf4]
    have HW2 : Hid (Boxed2 w (.cells #[.int .i64 nx, .slice A l.length c] 27) (.cells (nodeCs n A4 c4 A5 c5 A6 c6) 76) w2) := HW1.out.below hb2
    clear HW1 hb2 q1 q2 q3 q4 q5 hf4
    have q1 : w2.cell? ⟨w.heap.size, 1, none⟩ = some (.slice A l.length c) := blk_cell HW2.out.k1 1
    have q4 : w2.cell? ⟨w.heap.size + 1, 4, none⟩ = some (.slice A4 n.f4.length c4) := blk_cell HW2.out.k2 4
    have q5 : w2.cell? ⟨w.heap.size + 1, 5, none⟩ = some (.slice A5 n.f5.length c5) := blk_cell HW2.out.k2 5
    go_wp2_with fail
    clear q1 q4 q5
    go_loopw [45] (fun i W => ∃ k : Nat, k ≤ n.f4.length ∧ i = .int .i64 k ∧ Hid (Boxed2 w (.cells #[.int .i64 nx, .slice A l.length c] 27) (.cells (nodeCs n A4 c4 A5 c5 A6 c6) 76) W) ∧ Hid (∀ j, j < k → PropOk n.f4 j)) (fun i _ => n.f4.length - (intOf i).toNat)
    case atStart => exact ⟨0, Nat.zero_le _, rfl, HW2, fun j hj => by omega⟩
    case round =>
      obtain ⟨k, hk, rfl, HB, HF⟩ := hrel
      by_cases hlt : k < n.f4.length
      · have bad : ¬ PropOk n.f4 k → r = false := fun h => by rw [← HT.out]; exact tv_no (fun hp => h (hp.props k hlt))
        have BAD : Hid (¬ PropOk n.f4 k → r = false) := bad
        have STEP : Hid (PropOk n.f4 k → ∀ j, j < k + 1 → PropOk n.f4 j) := fun h j hj => by
          rcases Nat.lt_or_ge j k with h2 | h2
          · exact HF.out j h2
          · obtain rfl : j = k := by omega
            exact h
        clear bad HF
        obtain ⟨ad, hade, x0, x1⟩ := at_T82 (Kd.C_below HN.out.r4 HB.out.b) k (by omega) (by omega)
        have HP : Hid (rd_T82 n.f4 k = rd_T82 n.f4 k) := rfl
        simp only [Int.toNat_natCast] at x0 x1
        have OKI : Hid (∀ (_ : wordB (rd_T82 n.f4 k).f0 = true) (_ : (rd_T82 n.f4 k).f1.size ≤ 4096) (_ : 0 < k → lessB (rd_T82 n.f4 (k - 1 : Nat)).f0 (rd_T82 n.f4 k).f0 = true), PropOk n.f4 k) := fun a b d => ⟨a, b, d⟩
        have OKE : Hid (PropOk n.f4 k → wordB (rd_T82 n.f4 k).f0 = true ∧ (rd_T82 n.f4 k).f1.size ≤ 4096 ∧ (0 < k → lessB (rd_T82 n.f4 (k - 1 : Nat)).f0 (rd_T82 n.f4 k).f0 = true)) := fun h => ⟨h.word, h.size, h.up⟩
        have Y : 0 < k → wr.cell? (ad.add ((k - 1) * 2)) = some (.string (rd_T82 n.f4 (k - 1 : Nat)).f0) := fun h => by
          obtain ⟨ad', e', y0, _⟩ := at_T82 (Kd.C_below HN.out.r4 HB.out.b) (k - 1 : Nat) (by omega) (by omega)
          rw [hade] at e'
          cases e'
          exact y0
        have HY : Hid (0 < k → wr.cell? (ad.add ((k - 1) * 2)) = some (.string (rd_T82 n.f4 (k - 1 : Nat)).f0)) := Y
        clear Y HP
        generalize rd_T82 n.f4 k = p at *
        have HB3 : Hid (Boxed2 w (.cells #[.int .i64 nx, .slice A l.length c] 27) (.cells (nodeCs n A4 c4 A5 c5 A6 c6) 76) (wr.alloc (.cells #[.string p.f0, .string p.f1] 82))) := HB.out.below (below_alloc (Below.refl _ _) _)
        have H0 : Hid ((wr.alloc (.cells #[.string p.f0, .string p.f1] 82)).heap[wr.heap.size]? = some (.cells #[.string p.f0, .string p.f1] 82)) := blk_new wr _
        have hA : A4 = some ad := hade
        subst hA
        clear hade
        cases hw : wordB p.f0 with
        | false =>
          have hr : Hid (r = false) := BAD.out (fun h => by have := (OKE.out h).1; rw [hw] at this; cases this)
          clear BAD OKE OKI STEP HY
          go_wp2_with fail
          generalize (wr.alloc (.cells #[.string p.f0, .string p.f1] 82)) = W3 at HB3 H0 ⊢
          generalize hg : wr.heap.size = g at H0 ⊢
          clear hg x0 x1
          have s0 : ∀ x : BW W3, x.1.cell? ⟨g, 0, none⟩ = some (.string p.f0) := bw_cell (blk_cell H0.out 0)
          have s1 : ∀ x : BW W3, x.1.cell? ⟨g, 1, none⟩ = some (.string p.f1) := bw_cell (blk_cell H0.out 1)
          have s2 : ∀ x : BW W3, x.1.cell? ⟨w.heap.size + 1, 4, none⟩ = some (.slice (some ad) n.f4.length c4) := bw_cell (blk_cell HB3.out.k2 4)
          refine wp_region_bw (by kernel_rfl) (by kernel_rfl) ?_
          repeat (go_big_quiet_step ((go_at_call 53; exact calls_bw (word_any _ _))))
          refine wpQuiet_nil ?_
          rintro _ ⟨x, rfl⟩
          have HB4 : Hid (Boxed2 w (.cells #[.int .i64 nx, .slice A l.length c] 27) (.cells (nodeCs n (some ad) c4 A5 c5 A6 c6) 76) x.1) := HB3.out.below x.2
          clear HB3 H0 s0 s1 s2 
          obtain ⟨w4, hw4⟩ := x
          dsimp only at HB4 ⊢
          clear hw4
          go_wp2_with fail
          go_ret
          exact ⟨by rw [hr.out]; rfl, HB4.out.b⟩
        | true =>
          by_cases hv : p.f1.size ≤ 4096
          case neg =>
            have hr : Hid (r = false) := BAD.out (fun h => hv (OKE.out h).2.1)
            clear BAD OKE OKI STEP HY
            have hv1 : decide (4096 < p.f1.size) = true := by simp; omega
            have hv2 : decide ((4096 : Int) < (p.f1.size : Int)) = true := by simp; omega
            go_wp2_with fail
            generalize (wr.alloc (.cells #[.string p.f0, .string p.f1] 82)) = W3 at HB3 H0 ⊢
            generalize hg : wr.heap.size = g at H0 ⊢
            clear hg x0 x1
            have s0 : ∀ x : BW W3, x.1.cell? ⟨g, 0, none⟩ = some (.string p.f0) := bw_cell (blk_cell H0.out 0)
            have s1 : ∀ x : BW W3, x.1.cell? ⟨g, 1, none⟩ = some (.string p.f1) := bw_cell (blk_cell H0.out 1)
            have s2 : ∀ x : BW W3, x.1.cell? ⟨w.heap.size + 1, 4, none⟩ = some (.slice (some ad) n.f4.length c4) := bw_cell (blk_cell HB3.out.k2 4)
            refine wp_region_bw (by kernel_rfl) (by kernel_rfl) ?_
            repeat (go_big_quiet_step ((go_at_call 53; exact calls_bw (word_any _ _))))
            refine wpQuiet_nil ?_
            rintro _ ⟨x, rfl⟩
            have HB4 : Hid (Boxed2 w (.cells #[.int .i64 nx, .slice A l.length c] 27) (.cells (nodeCs n (some ad) c4 A5 c5 A6 c6) 76) x.1) := HB3.out.below x.2
            clear HB3 H0 s0 s1 s2 
            obtain ⟨w4, hw4⟩ := x
            dsimp only at HB4 ⊢
            clear hw4
            go_wp2_with fail
            go_ret
            exact ⟨by rw [hr.out]; rfl, HB4.out.b⟩
          have hv1 : decide (4096 < p.f1.size) = false := by simp; omega
          have hv2 : decide ((4096 : Int) < (p.f1.size : Int)) = false := by simp; omega
          rcases Nat.eq_zero_or_pos k with hk0 | hk0
          · have HO : Hid (PropOk n.f4 k) := OKI.out hw hv (fun h => by omega)
            have hk1 : decide ((0 : Int) < (k : Int)) = false := by simp; omega
            have hk2 : decide (0 < k) = false := by simp; omega
            have K0 : Hid (k = 0) := hk0
            have hk3 : k ≤ 0 := by omega
            clear BAD OKE OKI HY hk0
            go_wp2_with fail
            generalize (wr.alloc (.cells #[.string p.f0, .string p.f1] 82)) = W3 at HB3 H0 ⊢
            generalize hg : wr.heap.size = g at H0 ⊢
            clear hg x0 x1
            have s0 : ∀ x : BW W3, x.1.cell? ⟨g, 0, none⟩ = some (.string p.f0) := bw_cell (blk_cell H0.out 0)
            have s1 : ∀ x : BW W3, x.1.cell? ⟨g, 1, none⟩ = some (.string p.f1) := bw_cell (blk_cell H0.out 1)
            have s2 : ∀ x : BW W3, x.1.cell? ⟨w.heap.size + 1, 4, none⟩ = some (.slice (some ad) n.f4.length c4) := bw_cell (blk_cell HB3.out.k2 4)
            refine wp_region_bw (by kernel_rfl) (by kernel_rfl) ?_
            repeat (go_big_quiet_step ((go_at_call 53; exact calls_bw (word_any _ _))))
            refine wpQuiet_nil ?_
            rintro _ ⟨x, rfl⟩
            have HB4 : Hid (Boxed2 w (.cells #[.int .i64 nx, .slice A l.length c] 27) (.cells (nodeCs n (some ad) c4 A5 c5 A6 c6) 76) x.1) := HB3.out.below x.2
            clear HB3 H0 s0 s1 s2 
            obtain ⟨w4, hw4⟩ := x
            dsimp only at HB4 ⊢
            clear hw4
            go_wp2_with fail
            go_roundw
            case rel => exact ⟨k + 1, by omega, by go_num, HB4, STEP.out HO.out⟩
            case measure => simp [intOf]; omega
          · obtain ⟨j, rfl⟩ : ∃ j, k = j + 1 := ⟨k - 1, by omega⟩
            have HQ : Hid (wr.cell? (ad.add (j * 2)) = some (.string (rd_T82 n.f4 j).f0)) := HY.out hk0
            have HQ : Hid ((wr.alloc (.cells #[.string p.f0, .string p.f1] 82)).cell? (ad.add (j * 2)) = some (.string (rd_T82 n.f4 j).f0)) := pw_cell_below (below_alloc (Below.refl _ _) _) HQ.out
            have OKI' : Hid (lessB (rd_T82 n.f4 j).f0 p.f0 = true → PropOk n.f4 (j + 1)) := fun h => OKI.out hw hv (fun _ => h)
            have OKE' : Hid (PropOk n.f4 (j + 1) → lessB (rd_T82 n.f4 j).f0 p.f0 = true) := fun h => (OKE.out h).2.2 hk0
            clear HY OKI OKE
            generalize rd_T82 n.f4 (j : Int) = q at *
            have hj0 : (0 : Int) ≤ (j : Int) := by omega
            have hj1 : (j : Int) < (n.f4.length : Int) := by omega
            have hw0 : IntKind.i64.wrap (j : Int) = j := IntWalk.i64_in _ (by omega)
            have hw1 : IntKind.i64.wrap ((j : Int) + 1 - 1) = j := by rw [show (j : Int) + 1 - 1 = j by omega]; exact hw0
            cases hls : lessB q.f0 p.f0 with
            | true =>
              have hls' : (!Op.bytesLess q.f0.toList p.f0.toList) = false := by have : Op.bytesLess q.f0.toList p.f0.toList = true := hls; rw [this]; rfl
              have HO : Hid (PropOk n.f4 (j + 1)) := OKI'.out hls
              clear BAD OKE' OKI' hls
              go_wp2_with fail
              generalize (wr.alloc (.cells #[.string p.f0, .string p.f1] 82)) = W3 at HB3 H0 HQ ⊢
              generalize hg : wr.heap.size = g at H0 ⊢
              clear hg x0 x1
              have s0 : ∀ x : BW W3, x.1.cell? ⟨g, 0, none⟩ = some (.string p.f0) := bw_cell (blk_cell H0.out 0)
              have s1 : ∀ x : BW W3, x.1.cell? ⟨g, 1, none⟩ = some (.string p.f1) := bw_cell (blk_cell H0.out 1)
              have s2 : ∀ x : BW W3, x.1.cell? ⟨w.heap.size + 1, 4, none⟩ = some (.slice (some ad) n.f4.length c4) := bw_cell (blk_cell HB3.out.k2 4)
              have s3 : ∀ x : BW W3, x.1.cell? (ad.add (j * 2)) = some (.string q.f0) := bw_cell (HQ.out)
              refine wp_region_bw (by kernel_rfl) (by kernel_rfl) ?_
              repeat (go_big_quiet_step ((go_at_call 53; exact calls_bw (word_any _ _))))
              refine wpQuiet_nil ?_
              rintro _ ⟨x, rfl⟩
              have HB4 : Hid (Boxed2 w (.cells #[.int .i64 nx, .slice A l.length c] 27) (.cells (nodeCs n (some ad) c4 A5 c5 A6 c6) 76) x.1) := HB3.out.below x.2
              clear HB3 H0 s0 s1 s2 s3 HQ
              obtain ⟨w4, hw4⟩ := x
              dsimp only at HB4 ⊢
              clear hw4
              go_wp2_with fail
              go_roundw
              case rel => exact ⟨j + 1 + 1, by omega, by go_num, HB4, STEP.out HO.out⟩
              case measure => simp [intOf]; omega
            | false =>
              have hls' : (!Op.bytesLess q.f0.toList p.f0.toList) = true := by have : Op.bytesLess q.f0.toList p.f0.toList = false := hls; rw [this]; rfl
              have hr : Hid (r = false) := BAD.out (fun h => by have := OKE'.out h; rw [hls] at this; cases this)
              clear BAD OKE' OKI' hls STEP
              go_wp2_with fail
              generalize (wr.alloc (.cells #[.string p.f0, .string p.f1] 82)) = W3 at HB3 H0 HQ ⊢
              generalize hg : wr.heap.size = g at H0 ⊢
              clear hg x0 x1
              have s0 : ∀ x : BW W3, x.1.cell? ⟨g, 0, none⟩ = some (.string p.f0) := bw_cell (blk_cell H0.out 0)
              have s1 : ∀ x : BW W3, x.1.cell? ⟨g, 1, none⟩ = some (.string p.f1) := bw_cell (blk_cell H0.out 1)
              have s2 : ∀ x : BW W3, x.1.cell? ⟨w.heap.size + 1, 4, none⟩ = some (.slice (some ad) n.f4.length c4) := bw_cell (blk_cell HB3.out.k2 4)
              have s3 : ∀ x : BW W3, x.1.cell? (ad.add (j * 2)) = some (.string q.f0) := bw_cell (HQ.out)
              refine wp_region_bw (by kernel_rfl) (by kernel_rfl) ?_
              repeat (go_big_quiet_step ((go_at_call 53; exact calls_bw (word_any _ _))))
              refine wpQuiet_nil ?_
              rintro _ ⟨x, rfl⟩
              have HB4 : Hid (Boxed2 w (.cells #[.int .i64 nx, .slice A l.length c] 27) (.cells (nodeCs n (some ad) c4 A5 c5 A6 c6) 76) x.1) := HB3.out.below x.2
              clear HB3 H0 s0 s1 s2 s3 HQ
              obtain ⟨w4, hw4⟩ := x
              dsimp only at HB4 ⊢
              clear hw4
              go_wp2_with fail
              go_ret
              exact ⟨by rw [hr.out]; rfl, HB4.out.b⟩
      · have HPROPS : Hid (∀ j, j < n.f4.length → PropOk n.f4 j) := fun j hj => HF.out j (by omega)
        clear HF
        have HW2 : Hid (Boxed2 w (.cells #[.int .i64 nx, .slice A l.length c] 27) (.cells (nodeCs n A4 c4 A5 c5 A6 c6) 76) wr) := HB
        have q6 : wr.cell? ⟨w.heap.size + 1, 6, none⟩ = some (.slice A6 n.f6.length c6) := blk_cell HB.out.k2 6
        clear HB
        go_wp2_with fail
        clear q6
        obtain ⟨wo, rfl⟩ : ∃ wo : World, wo = wr := ⟨_, rfl⟩
        go_loopw [80] (fun i W => ∃ k : Nat, k ≤ n.f6.length ∧ i = .int .i64 k ∧ Hid (Boxed2 w (.cells #[.int .i64 nx, .slice A l.length c] 27) (.cells (nodeCs n A4 c4 A5 c5 A6 c6) 76) W) ∧ Hid (∀ j, j < k → RefOk nx n.f6 j)) (fun i _ => n.f6.length - (intOf i).toNat)
        case atStart => exact ⟨0, Nat.zero_le _, rfl, HW2, fun j hj => by omega⟩
        case round =>
          obtain ⟨k, hk, rfl, HB, HF⟩ := hrel
          by_cases hlt : k < n.f6.length
          · have bad : ¬ RefOk nx n.f6 k → r = false := fun h => by rw [← HT.out]; exact tv_no (fun hp => h (hp.refs k hlt))
            have BAD : Hid (¬ RefOk nx n.f6 k → r = false) := bad
            have STEP : Hid (RefOk nx n.f6 k → ∀ j, j < k + 1 → RefOk nx n.f6 j) := fun h j hj => by
              rcases Nat.lt_or_ge j k with h2 | h2
              · exact HF.out j h2
              · obtain rfl : j = k := by omega
                exact h
            clear bad HF
            obtain ⟨ad, hade, x0, x1⟩ := at_T84 (Kd.C_below HN.out.r6 HB.out.b) k (by omega) (by omega)
            have HP : Hid (rd_T84 n.f6 k = rd_T84 n.f6 k) := rfl
            simp only [Int.toNat_natCast] at x0 x1
            have OKI : Hid (∀ (_ : wordB (rd_T84 n.f6 k).f0 = true) (_ : 1 ≤ (rd_T84 n.f6 k).f1) (_ : (rd_T84 n.f6 k).f1 < nx) (_ : 0 < k → lessB (rd_T84 n.f6 (k - 1 : Nat)).f0 (rd_T84 n.f6 k).f0 = true), RefOk nx n.f6 k) := fun a b e d => ⟨a, b, e, d⟩
            have OKE : Hid (RefOk nx n.f6 k → wordB (rd_T84 n.f6 k).f0 = true ∧ (1 ≤ (rd_T84 n.f6 k).f1 ∧ (rd_T84 n.f6 k).f1 < nx) ∧ (0 < k → lessB (rd_T84 n.f6 (k - 1 : Nat)).f0 (rd_T84 n.f6 k).f0 = true)) := fun h => ⟨h.word, ⟨h.lo, h.hi⟩, h.up⟩
            have Y : 0 < k → wr.cell? (ad.add ((k - 1) * 2)) = some (.string (rd_T84 n.f6 (k - 1 : Nat)).f0) := fun h => by
              obtain ⟨ad', e', y0, _⟩ := at_T84 (Kd.C_below HN.out.r6 HB.out.b) (k - 1 : Nat) (by omega) (by omega)
              rw [hade] at e'
              cases e'
              exact y0
            have HY : Hid (0 < k → wr.cell? (ad.add ((k - 1) * 2)) = some (.string (rd_T84 n.f6 (k - 1 : Nat)).f0)) := Y
            clear Y HP
            generalize rd_T84 n.f6 k = p at *
            have HB3 : Hid (Boxed2 w (.cells #[.int .i64 nx, .slice A l.length c] 27) (.cells (nodeCs n A4 c4 A5 c5 A6 c6) 76) (wr.alloc (.cells #[.string p.f0, .int .i64 p.f1] 84))) := HB.out.below (below_alloc (Below.refl _ _) _)
            have H0 : Hid ((wr.alloc (.cells #[.string p.f0, .int .i64 p.f1] 84)).heap[wr.heap.size]? = some (.cells #[.string p.f0, .int .i64 p.f1] 84)) := blk_new wr _
            have hA : A6 = some ad := hade
            subst hA
            clear hade
            cases hw : wordB p.f0 with
            | false =>
              have hr : Hid (r = false) := BAD.out (fun h => by have := (OKE.out h).1; rw [hw] at this; cases this)
              clear BAD OKE OKI STEP HY
              go_wp2_with fail
              generalize (wr.alloc (.cells #[.string p.f0, .int .i64 p.f1] 84)) = W3 at HB3 H0 ⊢
              generalize hg : wr.heap.size = g at H0 ⊢
              clear hg x0 x1
              have s0 : ∀ x : BW W3, x.1.cell? ⟨g, 0, none⟩ = some (.string p.f0) := bw_cell (blk_cell H0.out 0)
              have s1 : ∀ x : BW W3, x.1.cell? ⟨g, 1, none⟩ = some (.int .i64 p.f1) := bw_cell (blk_cell H0.out 1)
              have s2 : ∀ x : BW W3, x.1.cell? ⟨w.heap.size + 1, 6, none⟩ = some (.slice (some ad) n.f6.length c6) := bw_cell (blk_cell HB3.out.k2 6)
              have s3 : ∀ x : BW W3, x.1.cell? ⟨w.heap.size, 0, none⟩ = some (.int .i64 nx) := bw_cell (blk_cell HB3.out.k1 0)
              refine wp_region_bw (by kernel_rfl) (by kernel_rfl) ?_
              repeat (go_big_quiet_step ((go_at_call 53; exact calls_bw (word_any _ _))))
              refine wpQuiet_nil ?_
              rintro _ ⟨x, rfl⟩
              have HB4 : Hid (Boxed2 w (.cells #[.int .i64 nx, .slice A l.length c] 27) (.cells (nodeCs n A4 c4 A5 c5 (some ad) c6) 76) x.1) := HB3.out.below x.2
              clear HB3 H0 s0 s1 s2 s3 
              obtain ⟨w4, hw4⟩ := x
              dsimp only at HB4 ⊢
              clear hw4
              go_wp2_with fail
              go_ret
              exact ⟨by rw [hr.out]; rfl, HB4.out.b⟩
            | true =>
              by_cases hv : 1 ≤ p.f1
              case neg =>
                have hr : Hid (r = false) := BAD.out (fun h => hv (OKE.out h).2.1.1)
                clear BAD OKE OKI STEP HY
                have hv1 : decide (p.f1 < 1) = true := by simp; omega
                go_wp2_with fail
                generalize (wr.alloc (.cells #[.string p.f0, .int .i64 p.f1] 84)) = W3 at HB3 H0 ⊢
                generalize hg : wr.heap.size = g at H0 ⊢
                clear hg x0 x1
                have s0 : ∀ x : BW W3, x.1.cell? ⟨g, 0, none⟩ = some (.string p.f0) := bw_cell (blk_cell H0.out 0)
                have s1 : ∀ x : BW W3, x.1.cell? ⟨g, 1, none⟩ = some (.int .i64 p.f1) := bw_cell (blk_cell H0.out 1)
                have s2 : ∀ x : BW W3, x.1.cell? ⟨w.heap.size + 1, 6, none⟩ = some (.slice (some ad) n.f6.length c6) := bw_cell (blk_cell HB3.out.k2 6)
                have s3 : ∀ x : BW W3, x.1.cell? ⟨w.heap.size, 0, none⟩ = some (.int .i64 nx) := bw_cell (blk_cell HB3.out.k1 0)
                refine wp_region_bw (by kernel_rfl) (by kernel_rfl) ?_
                repeat (go_big_quiet_step ((go_at_call 53; exact calls_bw (word_any _ _))))
                refine wpQuiet_nil ?_
                rintro _ ⟨x, rfl⟩
                have HB4 : Hid (Boxed2 w (.cells #[.int .i64 nx, .slice A l.length c] 27) (.cells (nodeCs n A4 c4 A5 c5 (some ad) c6) 76) x.1) := HB3.out.below x.2
                clear HB3 H0 s0 s1 s2 s3 
                obtain ⟨w4, hw4⟩ := x
                dsimp only at HB4 ⊢
                clear hw4
                go_wp2_with fail
                go_ret
                exact ⟨by rw [hr.out]; rfl, HB4.out.b⟩
              have hv1 : decide (p.f1 < 1) = false := by simp; omega
              by_cases hx : p.f1 < nx
              case neg =>
                have hr : Hid (r = false) := BAD.out (fun h => hx (OKE.out h).2.1.2)
                clear BAD OKE OKI STEP HY
                have hx1 : decide (nx ≤ p.f1) = true := by simp; omega
                go_wp2_with fail
                generalize (wr.alloc (.cells #[.string p.f0, .int .i64 p.f1] 84)) = W3 at HB3 H0 ⊢
                generalize hg : wr.heap.size = g at H0 ⊢
                clear hg x0 x1
                have s0 : ∀ x : BW W3, x.1.cell? ⟨g, 0, none⟩ = some (.string p.f0) := bw_cell (blk_cell H0.out 0)
                have s1 : ∀ x : BW W3, x.1.cell? ⟨g, 1, none⟩ = some (.int .i64 p.f1) := bw_cell (blk_cell H0.out 1)
                have s2 : ∀ x : BW W3, x.1.cell? ⟨w.heap.size + 1, 6, none⟩ = some (.slice (some ad) n.f6.length c6) := bw_cell (blk_cell HB3.out.k2 6)
                have s3 : ∀ x : BW W3, x.1.cell? ⟨w.heap.size, 0, none⟩ = some (.int .i64 nx) := bw_cell (blk_cell HB3.out.k1 0)
                refine wp_region_bw (by kernel_rfl) (by kernel_rfl) ?_
                repeat (go_big_quiet_step ((go_at_call 53; exact calls_bw (word_any _ _))))
                refine wpQuiet_nil ?_
                rintro _ ⟨x, rfl⟩
                have HB4 : Hid (Boxed2 w (.cells #[.int .i64 nx, .slice A l.length c] 27) (.cells (nodeCs n A4 c4 A5 c5 (some ad) c6) 76) x.1) := HB3.out.below x.2
                clear HB3 H0 s0 s1 s2 s3 
                obtain ⟨w4, hw4⟩ := x
                dsimp only at HB4 ⊢
                clear hw4
                go_wp2_with fail
                go_ret
                exact ⟨by rw [hr.out]; rfl, HB4.out.b⟩
              have hx1 : decide (nx ≤ p.f1) = false := by simp; omega
              rcases Nat.eq_zero_or_pos k with hk0 | hk0
              · have HO : Hid (RefOk nx n.f6 k) := OKI.out hw hv hx (fun h => by omega)
                have hk1 : decide ((0 : Int) < (k : Int)) = false := by simp; omega
                have hk2 : decide (0 < k) = false := by simp; omega
                have K0 : Hid (k = 0) := hk0
                have hk3 : k ≤ 0 := by omega
                clear BAD OKE OKI HY hk0
                go_wp2_with fail
                generalize (wr.alloc (.cells #[.string p.f0, .int .i64 p.f1] 84)) = W3 at HB3 H0 ⊢
                generalize hg : wr.heap.size = g at H0 ⊢
                clear hg x0 x1
                have s0 : ∀ x : BW W3, x.1.cell? ⟨g, 0, none⟩ = some (.string p.f0) := bw_cell (blk_cell H0.out 0)
                have s1 : ∀ x : BW W3, x.1.cell? ⟨g, 1, none⟩ = some (.int .i64 p.f1) := bw_cell (blk_cell H0.out 1)
                have s2 : ∀ x : BW W3, x.1.cell? ⟨w.heap.size + 1, 6, none⟩ = some (.slice (some ad) n.f6.length c6) := bw_cell (blk_cell HB3.out.k2 6)
                have s3 : ∀ x : BW W3, x.1.cell? ⟨w.heap.size, 0, none⟩ = some (.int .i64 nx) := bw_cell (blk_cell HB3.out.k1 0)
                refine wp_region_bw (by kernel_rfl) (by kernel_rfl) ?_
                repeat (go_big_quiet_step ((go_at_call 53; exact calls_bw (word_any _ _))))
                refine wpQuiet_nil ?_
                rintro _ ⟨x, rfl⟩
                have HB4 : Hid (Boxed2 w (.cells #[.int .i64 nx, .slice A l.length c] 27) (.cells (nodeCs n A4 c4 A5 c5 (some ad) c6) 76) x.1) := HB3.out.below x.2
                clear HB3 H0 s0 s1 s2 s3 
                obtain ⟨w4, hw4⟩ := x
                dsimp only at HB4 ⊢
                clear hw4
                go_wp2_with fail
                go_roundw
                case rel => exact ⟨k + 1, by omega, by go_num, HB4, STEP.out HO.out⟩
                case measure => simp [intOf]; omega
              · obtain ⟨j, rfl⟩ : ∃ j, k = j + 1 := ⟨k - 1, by omega⟩
                have HQ : Hid (wr.cell? (ad.add (j * 2)) = some (.string (rd_T84 n.f6 j).f0)) := HY.out hk0
                have HQ : Hid ((wr.alloc (.cells #[.string p.f0, .int .i64 p.f1] 84)).cell? (ad.add (j * 2)) = some (.string (rd_T84 n.f6 j).f0)) := pw_cell_below (below_alloc (Below.refl _ _) _) HQ.out
                have OKI' : Hid (lessB (rd_T84 n.f6 j).f0 p.f0 = true → RefOk nx n.f6 (j + 1)) := fun h => OKI.out hw hv hx (fun _ => h)
                have OKE' : Hid (RefOk nx n.f6 (j + 1) → lessB (rd_T84 n.f6 j).f0 p.f0 = true) := fun h => (OKE.out h).2.2 hk0
                clear HY OKI OKE
                generalize rd_T84 n.f6 (j : Int) = q at *
                have hj0 : (0 : Int) ≤ (j : Int) := by omega
                have hj1 : (j : Int) < (n.f6.length : Int) := by omega
                have hw0 : IntKind.i64.wrap (j : Int) = j := IntWalk.i64_in _ (by omega)
                have hw1 : IntKind.i64.wrap ((j : Int) + 1 - 1) = j := by rw [show (j : Int) + 1 - 1 = j by omega]; exact hw0
                cases hls : lessB q.f0 p.f0 with
                | true =>
                  have hls' : (!Op.bytesLess q.f0.toList p.f0.toList) = false := by have : Op.bytesLess q.f0.toList p.f0.toList = true := hls; rw [this]; rfl
                  have HO : Hid (RefOk nx n.f6 (j + 1)) := OKI'.out hls
                  clear BAD OKE' OKI' hls
                  go_wp2_with fail
                  generalize (wr.alloc (.cells #[.string p.f0, .int .i64 p.f1] 84)) = W3 at HB3 H0 HQ ⊢
                  generalize hg : wr.heap.size = g at H0 ⊢
                  clear hg x0 x1
                  have s0 : ∀ x : BW W3, x.1.cell? ⟨g, 0, none⟩ = some (.string p.f0) := bw_cell (blk_cell H0.out 0)
                  have s1 : ∀ x : BW W3, x.1.cell? ⟨g, 1, none⟩ = some (.int .i64 p.f1) := bw_cell (blk_cell H0.out 1)
                  have s2 : ∀ x : BW W3, x.1.cell? ⟨w.heap.size + 1, 6, none⟩ = some (.slice (some ad) n.f6.length c6) := bw_cell (blk_cell HB3.out.k2 6)
                  have s3 : ∀ x : BW W3, x.1.cell? ⟨w.heap.size, 0, none⟩ = some (.int .i64 nx) := bw_cell (blk_cell HB3.out.k1 0)
                  have s4 : ∀ x : BW W3, x.1.cell? (ad.add (j * 2)) = some (.string q.f0) := bw_cell (HQ.out)
                  refine wp_region_bw (by kernel_rfl) (by kernel_rfl) ?_
                  repeat (go_big_quiet_step ((go_at_call 53; exact calls_bw (word_any _ _))))
                  refine wpQuiet_nil ?_
                  rintro _ ⟨x, rfl⟩
                  have HB4 : Hid (Boxed2 w (.cells #[.int .i64 nx, .slice A l.length c] 27) (.cells (nodeCs n A4 c4 A5 c5 (some ad) c6) 76) x.1) := HB3.out.below x.2
                  clear HB3 H0 s0 s1 s2 s3 s4 HQ
                  obtain ⟨w4, hw4⟩ := x
                  dsimp only at HB4 ⊢
                  clear hw4
                  go_wp2_with fail
                  go_roundw
                  case rel => exact ⟨j + 1 + 1, by omega, by go_num, HB4, STEP.out HO.out⟩
                  case measure => simp [intOf]; omega
                | false =>
                  have hls' : (!Op.bytesLess q.f0.toList p.f0.toList) = true := by have : Op.bytesLess q.f0.toList p.f0.toList = false := hls; rw [this]; rfl
                  have hr : Hid (r = false) := BAD.out (fun h => by have := OKE'.out h; rw [hls] at this; cases this)
                  clear BAD OKE' OKI' hls STEP
                  go_wp2_with fail
                  generalize (wr.alloc (.cells #[.string p.f0, .int .i64 p.f1] 84)) = W3 at HB3 H0 HQ ⊢
                  generalize hg : wr.heap.size = g at H0 ⊢
                  clear hg x0 x1
                  have s0 : ∀ x : BW W3, x.1.cell? ⟨g, 0, none⟩ = some (.string p.f0) := bw_cell (blk_cell H0.out 0)
                  have s1 : ∀ x : BW W3, x.1.cell? ⟨g, 1, none⟩ = some (.int .i64 p.f1) := bw_cell (blk_cell H0.out 1)
                  have s2 : ∀ x : BW W3, x.1.cell? ⟨w.heap.size + 1, 6, none⟩ = some (.slice (some ad) n.f6.length c6) := bw_cell (blk_cell HB3.out.k2 6)
                  have s3 : ∀ x : BW W3, x.1.cell? ⟨w.heap.size, 0, none⟩ = some (.int .i64 nx) := bw_cell (blk_cell HB3.out.k1 0)
                  have s4 : ∀ x : BW W3, x.1.cell? (ad.add (j * 2)) = some (.string q.f0) := bw_cell (HQ.out)
                  refine wp_region_bw (by kernel_rfl) (by kernel_rfl) ?_
                  repeat (go_big_quiet_step ((go_at_call 53; exact calls_bw (word_any _ _))))
                  refine wpQuiet_nil ?_
                  rintro _ ⟨x, rfl⟩
                  have HB4 : Hid (Boxed2 w (.cells #[.int .i64 nx, .slice A l.length c] 27) (.cells (nodeCs n A4 c4 A5 c5 (some ad) c6) 76) x.1) := HB3.out.below x.2
                  clear HB3 H0 s0 s1 s2 s3 s4 HQ
                  obtain ⟨w4, hw4⟩ := x
                  dsimp only at HB4 ⊢
                  clear hw4
                  go_wp2_with fail
                  go_ret
                  exact ⟨by rw [hr.out]; rfl, HB4.out.b⟩
          · have hr : Hid (r = true) := by rw [← HT.out]; exact tv_yes (YES.out HPROPS.out (fun j hj => HF.out j (by omega)))
            clear HF HPROPS
            go_wp2_with fail
            go_ret
            exact ⟨by rw [hr.out]; rfl, HB.out.b⟩
end Go.Proofs.Ytlopfkkegjajlaa
