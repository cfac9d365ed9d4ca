/- HistoryLong answers true for all inputs whose bulk is at most 1048576, and they read as they did; no other condition. -/
import Derived.Test.YtlopfkkegjajlaaZc5
import Derived.Test.YtlopfkkegjajlaaRows
import Derived.WalkKit
import Derived.ProofKit
import Derived.OpenShut
import Derived.JoinedCond
import Derived.Lib.SmallJoins
namespace Go.Proofs.Ytlopfkkegjajlaa.longLaw
open Go.ChangeShapes Go.WideShapes Go.ChangeAt Go.RowKit Go.Joins Go.Proofs.YtlopfkkegjajlaaW.PrintWords PHistoryTouched

theorem own : ownKnob Try.prog.godebug = none := by kernel_rfl
theorem laidOut : laidOutB Try.prog = true := by kernel_rfl

set_option maxRecDepth 100000 in
theorem contract (H : Type) (enc : TypeId × Value → H) (W : World) (base : Nat) (args : Array Value) (ds gs : List (DataW H)) (before : List MemPlace)
    (hval : ∀ (j : Nat) t v, Try.f6.params[j]? = some t → args[j]? = some v → Value.okWide Try.prog W .any base t v)
    (hW : DataW.Whole enc Try.prog Try.f6.params.toList Rows.historyLongSpec.vars false W args.toList ds gs before) (hk : Rows.uptoSmall H (ds ++ gs) = true) :
    Calls Try.prog 6 args W fun e W' => ∃ v, e = .returned v ∧ Rows.historyLongSpec.post enc Try.prog Try.f6 false true false false W args v W' := by
  have hW' := hW
  obtain ⟨p, q, hA0, hV, rfl, hfz, hnd⟩ := hW
  have hA : DataW.TrodAll enc Try.prog W 0 (fun _ => true) true Try.f6.params.toList args.toList ds p := hA0
  rw [Try.params6] at hA hval
  obtain ⟨v0, v1, d0, d1, p0, p1, rfl, rfl, rfl, h0, h1⟩ := trodAll_two hA
  obtain ⟨rfl, rfl⟩ := trodVars_none hV
  obtain ⟨a0, rfl, _⟩ := okWide_struct Try.underlying27 (hval 0 27 v0 rfl rfl)
  obtain ⟨n1, rfl, rfl, rfl, wn1⟩ := open_int Try.underlying3 (hval 1 3 v1 rfl rfl) h1
  have h0k := h0
  obtain ⟨f0, g0⟩ := h0
  clear hA0
  simp only [List.append_nil] at hW'
  have hb := bulks.bound hk
  have hb0 : Rows.uptoBulk d0 ≤ 1048576 := Nat.le_trans (bulks.part_le (l := [d0, .lit (.int .i64 n1)] ++ []) (by simp)) hb
  obtain ⟨m0, hK0, hm0⟩ := rd_27 enc W f0 _ _ g0 hb0
  obtain ⟨A, c, hcs, hc, hC⟩ := k27_open hK0
  have e0 : a0 = #[.int .i64 m0.f0, .slice A m0.f1.length c] := by
    have : a0.toList = [.int .i64 m0.f0, .slice A m0.f1.length c] := hcs
    rw [← Array.toArray_toList (xs := a0), this]
  subst e0
  have hlt : ∀ x ∈ p0 ++ [], x.block < W.heap.size := fun x hx => by simpa using hW'.lt x (by simpa using hx)
  have hargs : ∀ (W' : World), Below W.heap.size W W' → DataW.TrodAll enc Try.prog W' 0 (fun b => decide (b < W.heap.size)) true [27, 3] [.agg #[.int .i64 m0.f0, .slice A m0.f1.length c], .int .i64 n1] [d0, .lit (.int .i64 n1)] (p0 ++ []) :=
    fun W' hn => trodAll_mk2 (Below.trod laidOut (by kernel_rfl) (of_decide_eq_true (by kernel_rfl)) h0k hn (fun x hx => hlt x (List.mem_append_left _ hx))) (shut_int Try.underlying3 wn1)
  refine (long_any m0.f0 A m0.f1 c n1 W ⟨hC, hc, hm0.small, hm0.wf⟩).mono fun e W' ⟨he, hg⟩ => ?_
  subst he
  refine ⟨_, rfl, [d0, .lit (.int .i64 n1)], [], p0 ++ [], [], p0 ++ [], [], (by simpa using hW'), trodAll_cons_mk (shut_bool Try.underlying4 _) trodAll_mk0, hargs W' hg, rfl, World.keptBut_mono (fun p hp => hp.elim) (hg.frame (fun _ => False)), fun h => by cases h⟩

set_option maxRecDepth 100000 in
theorem lifted (os : Os) (started : os.Started) (H : Type) (enc : TypeId × Value → H) (F : Stop.Interp) :
    ReturnsInHanded {} Try.checked os 6 .any ((Rows.OpenSpec.upto Rows.historyLongSpec).pre6 enc Try.prog Try.f6 Rows.historyLongUptoRow.domain false) (((Rows.OpenSpec.upto Rows.historyLongSpec).at F).post enc Try.prog Try.f6 false true false false) := by
  refine returnsInHanded_of_cond (C := Try.checked) (s := Rows.OpenSpec.upto Rows.historyLongSpec) (k := Rows.uptoSmall) rfl own started (by kernel_rfl) Try.func6
    (OpenSpec.witness (enc := enc) (C := Try.checked) (s := Rows.OpenSpec.upto Rows.historyLongSpec) (k := Rows.uptoSmall) rfl false ⟨#[], #[.agg #[.int .i64 0, .slice none 0 0], .int .i64 0], []⟩ 8 (by kernel_rfl) (by kernel_rfl) (by kernel_rfl)
      (x := ([.agg [.lit (.int .i64 0), .nil], .lit (.int .i64 0)], [], [])) (by kernel_rfl) rfl (by kernel_rfl)) ?_
  intro W base args ds gs before hval hW _ hk _
  exact contract H enc W base args ds gs before hval hW hk

theorem over : Rows.historyLongUptoRow.holds Try.pinned (Rows.OpenSpec.upto Rows.historyLongSpec) :=
  OpenClaim.holds_of_cond 6 Try.f6 rfl rfl rfl rfl rfl rfl rfl ⟨rfl, rfl, rfl, rfl, rfl⟩ rfl rfl rfl rfl rfl (by kernel_rfl) Try.func6 (by kernel_rfl)
    (of_decide_eq_true (by kernel_rfl)) (by unfold Func.isWrapper; first | (rw [if_pos (by decide +kernel)]; kernel_rfl) | (rw [if_neg (by decide +kernel)]; exact ⟨rfl, rfl⟩))
    (fun os started H enc _ F => lifted os started H enc F)
end Go.Proofs.Ytlopfkkegjajlaa.longLaw
namespace Go.Proofs.Ytlopfkkegjajlaa
theorem historyLongUpto : Rows.HistoryLongUptoSaid := longLaw.over
end Go.Proofs.Ytlopfkkegjajlaa
