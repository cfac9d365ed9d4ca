/- HistoryThree answers true for all inputs whose bulk is at most 1048576, and they read as they did; no other condition. -/
import Derived.Test.YtlopfkkegjajlaaZd5
import Derived.Test.YtlopfkkegjajlaaRows
import Derived.WalkKit
import Derived.ProofKit
import Derived.OpenShut
import Derived.JoinedCond
import Derived.Lib.SmallJoins
namespace Go.Proofs.Ytlopfkkegjajlaa.threeLaw
open Go.ChangeShapes Go.WideShapes Go.ChangeAt Go.RowKit Go.Joins Go.Proofs.YtlopfkkegjajlaaW.PrintWords PHistoryTouched

theorem own : ownKnob Try.prog.godebug = none := by kernel_rfl
theorem laidOut : laidOutB Try.prog = true := by kernel_rfl

set_option maxRecDepth 100000 in
theorem contract (H : Type) (enc : TypeId × Value → H) (W : World) (base : Nat) (args : Array Value) (ds gs : List (DataW H)) (before : List MemPlace)
    (hval : ∀ (j : Nat) t v, Try.f7.params[j]? = some t → args[j]? = some v → Value.okWide Try.prog W .any base t v)
    (hW : DataW.Whole enc Try.prog Try.f7.params.toList Rows.historyThreeSpec.vars false W args.toList ds gs before) (hk : Rows.uptoSmall H (ds ++ gs) = true) :
    Calls Try.prog 7 args W fun e W' => ∃ v, e = .returned v ∧ Rows.historyThreeSpec.post enc Try.prog Try.f7 false true false false W args v W' := by
  have hW' := hW
  obtain ⟨p, q, hA0, hV, rfl, hfz, hnd⟩ := hW
  have hA : DataW.TrodAll enc Try.prog W 0 (fun _ => true) true Try.f7.params.toList args.toList ds p := hA0
  rw [Try.params7] at hA hval
  obtain ⟨v0, v1, v2, d0, d1, d2, p0, p1, p2, rfl, rfl, rfl, h0, h1, h2⟩ := trodAll_three hA
  obtain ⟨rfl, rfl⟩ := trodVars_none hV
  obtain ⟨a0, rfl, _⟩ := okWide_struct Try.underlying27 (hval 0 27 v0 rfl rfl)
  obtain ⟨a1, rfl, _⟩ := okWide_struct Try.underlying27 (hval 1 27 v1 rfl rfl)
  obtain ⟨a2, rfl, _⟩ := okWide_struct Try.underlying27 (hval 2 27 v2 rfl rfl)
  have h0k := h0
  have h2k := h2
  have h1k := h1
  obtain ⟨f0, g0⟩ := h0
  obtain ⟨f1, g1⟩ := h1
  obtain ⟨f2, g2⟩ := h2
  clear hA0
  simp only [List.append_nil] at hW'
  have hb := bulks.bound hk
  have hb0 : Rows.uptoBulk d0 ≤ 1048576 := Nat.le_trans (bulks.part_le (l := [d0, d1, d2] ++ []) (by simp)) hb
  have hb1 : Rows.uptoBulk d1 ≤ 1048576 := Nat.le_trans (bulks.part_le (l := [d0, d1, d2] ++ []) (by simp)) hb
  have hb2 : Rows.uptoBulk d2 ≤ 1048576 := Nat.le_trans (bulks.part_le (l := [d0, d1, d2] ++ []) (by simp)) hb
  obtain ⟨m2, hK2, hm2⟩ := rd_27 enc W f2 _ _ g2 hb2
  obtain ⟨A2, c2, hcs2, hc2, hC2⟩ := k27_open hK2
  obtain ⟨m0, hK0, hm0⟩ := rd_27 enc W f0 _ _ g0 hb0
  obtain ⟨m1, hK1, hm1⟩ := rd_27 enc W f1 _ _ g1 hb1
  obtain ⟨A, c, hcs, hc, hC⟩ := k27_open hK0
  obtain ⟨A', c', hcs', hc', hC'⟩ := k27_open hK1
  have e0 : a0 = #[.int .i64 m0.f0, .slice A m0.f1.length c] := by
    have : a0.toList = [.int .i64 m0.f0, .slice A m0.f1.length c] := hcs
    rw [← Array.toArray_toList (xs := a0), this]
  have e1 : a1 = #[.int .i64 m1.f0, .slice A' m1.f1.length c'] := by
    have : a1.toList = [.int .i64 m1.f0, .slice A' m1.f1.length c'] := hcs'
    rw [← Array.toArray_toList (xs := a1), this]
  have e2 : a2 = #[.int .i64 m2.f0, .slice A2 m2.f1.length c2] := by
    have : a2.toList = [.int .i64 m2.f0, .slice A2 m2.f1.length c2] := hcs2
    rw [← Array.toArray_toList (xs := a2), this]
  subst e0 e1 e2
  have hlt : ∀ x ∈ p0 ++ (p1 ++ p2), x.block < W.heap.size := fun x hx => by simpa using hW'.lt x (by simpa using hx)
  have hargs : ∀ (W' : World), Below W.heap.size W W' → DataW.TrodAll enc Try.prog W' 0 (fun b => decide (b < W.heap.size)) true [27, 27, 27] [.agg #[.int .i64 m0.f0, .slice A m0.f1.length c], .agg #[.int .i64 m1.f0, .slice A' m1.f1.length c'], .agg #[.int .i64 m2.f0, .slice A2 m2.f1.length c2]] [d0, d1, d2] (p0 ++ (p1 ++ p2)) :=
    fun W' hn => trodAll_mk3 (Below.trod laidOut (by kernel_rfl) (of_decide_eq_true (by kernel_rfl)) h0k hn (fun x hx => hlt x (by simp [hx]))) (Below.trod laidOut (by kernel_rfl) (of_decide_eq_true (by kernel_rfl)) h1k hn (fun x hx => hlt x (by simp [hx]))) (Below.trod laidOut (by kernel_rfl) (of_decide_eq_true (by kernel_rfl)) h2k hn (fun x hx => hlt x (by simp [hx])))
  refine (three_any m0.f0 m1.f0 m2.f0 A A' A2 m0.f1 m1.f1 m2.f1 c c' c2 W ⟨hC, hc, hm0.small, hm0.wf⟩ ⟨hC', hc', hm1.small, hm1.wf⟩ ⟨hC2, hc2, hm2.small, hm2.wf⟩).mono fun e W' ⟨he, hg⟩ => ?_
  subst he
  refine ⟨_, rfl, [d0, d1, d2], [], p0 ++ (p1 ++ p2), [], p0 ++ (p1 ++ p2), [], (by simpa using hW'), trodAll_cons_mk (shut_bool Try.underlying4 _) trodAll_mk0, hargs W' hg, rfl, World.keptBut_mono (fun p hp => hp.elim) (hg.frame (fun _ => False)), fun h => by cases h⟩

set_option maxRecDepth 100000 in
theorem lifted (os : Os) (started : os.Started) (H : Type) (enc : TypeId × Value → H) (F : Stop.Interp) :
    ReturnsInHanded {} Try.checked os 7 .any ((Rows.OpenSpec.upto Rows.historyThreeSpec).pre6 enc Try.prog Try.f7 Rows.historyThreeUptoRow.domain false) (((Rows.OpenSpec.upto Rows.historyThreeSpec).at F).post enc Try.prog Try.f7 false true false false) := by
  refine returnsInHanded_of_cond (C := Try.checked) (s := Rows.OpenSpec.upto Rows.historyThreeSpec) (k := Rows.uptoSmall) rfl own started (by kernel_rfl) Try.func7
    (OpenSpec.witness (enc := enc) (C := Try.checked) (s := Rows.OpenSpec.upto Rows.historyThreeSpec) (k := Rows.uptoSmall) rfl false ⟨#[], #[.agg #[.int .i64 0, .slice none 0 0], .agg #[.int .i64 0, .slice none 0 0], .agg #[.int .i64 0, .slice none 0 0]], []⟩ 8 (by kernel_rfl) (by kernel_rfl) (by kernel_rfl)
      (x := ([.agg [.lit (.int .i64 0), .nil], .agg [.lit (.int .i64 0), .nil], .agg [.lit (.int .i64 0), .nil]], [], [])) (by kernel_rfl) rfl (by kernel_rfl)) ?_
  intro W base args ds gs before hval hW _ hk _
  exact contract H enc W base args ds gs before hval hW hk

theorem over : Rows.historyThreeUptoRow.holds Try.pinned (Rows.OpenSpec.upto Rows.historyThreeSpec) :=
  OpenClaim.holds_of_cond 7 Try.f7 rfl rfl rfl rfl rfl rfl rfl ⟨rfl, rfl, rfl, rfl, rfl⟩ rfl rfl rfl rfl rfl (by kernel_rfl) Try.func7 (by kernel_rfl)
    (of_decide_eq_true (by kernel_rfl)) (by unfold Func.isWrapper; first | (rw [if_pos (by decide +kernel)]; kernel_rfl) | (rw [if_neg (by decide +kernel)]; exact ⟨rfl, rfl⟩))
    (fun os started H enc _ F => lifted os started H enc F)
end Go.Proofs.Ytlopfkkegjajlaa.threeLaw
namespace Go.Proofs.Ytlopfkkegjajlaa
theorem historyThreeUpto : Rows.HistoryThreeUptoSaid := threeLaw.over
end Go.Proofs.Ytlopfkkegjajlaa
