/- HistoryEdits answers true for all inputs whose bulk is at most 1048576, and they read as they did; no other condition. -/
import Derived.Test.YtlopfkkegjajlaaZf6
import Derived.Test.YtlopfkkegjajlaaRows
import Derived.WalkKit
import Derived.ProofKit
import Derived.OpenShut
import Derived.JoinedCond
import Derived.Lib.SmallJoins
import Derived.Carry
import Derived.ChangeMaps5
namespace Go.Proofs.Ytlopfkkegjajlaa.editsLaw
open Go.ChangeShapes Go.WideShapes Go.ChangeAt Go.RowKit Go.Joins Go.Proofs.YtlopfkkegjajlaaW.PrintWords PHistoryTouched

theorem own : ownKnob Try.prog.godebug = none := by kernel_rfl
theorem laidOut : laidOutB Try.prog = true := by kernel_rfl

set_option maxRecDepth 100000 in
theorem contract (H : Type) (enc : TypeId × Value → H) (W : World) (base : Nat) (args : Array Value) (ds gs : List (DataW H)) (before : List MemPlace)
    (hval : ∀ (j : Nat) t v, Try.f8.params[j]? = some t → args[j]? = some v → Value.okWide Try.prog W .any base t v)
    (hW : DataW.Whole enc Try.prog Try.f8.params.toList Rows.historyEditsSpec.vars false W args.toList ds gs before) (hk : Rows.uptoSmall H (ds ++ gs) = true) :
    Calls Try.prog 8 args W fun e W' => ∃ v, e = .returned v ∧ Rows.historyEditsSpec.post enc Try.prog Try.f8 false true false false W args v W' := by
  have hW' := hW
  obtain ⟨p, q, hA0, hV, rfl, hfz, hnd⟩ := hW
  have hA : DataW.TrodAll enc Try.prog W 0 (fun _ => true) true Try.f8.params.toList args.toList ds p := hA0
  rw [Try.params8] at hA hval
  obtain ⟨v0, v1, v2, v3, d0, d1, d2, d3, p0, p1, p2, p3, rfl, rfl, rfl, h0, h1, h2, h3⟩ := trodAll_four hA
  obtain ⟨rfl, rfl⟩ := trodVars_none hV
  obtain ⟨a0, rfl, _⟩ := okWide_struct Try.underlying27 (hval 0 27 v0 rfl rfl)
  obtain ⟨n1, rfl, rfl, rfl, wn1⟩ := open_int Try.underlying3 (hval 1 3 v1 rfl rfl) h1
  obtain ⟨s2, rfl, rfl, rfl, ws2⟩ := Go.ChangeMaps.open_string Try.underlying9 (hval 2 9 v2 rfl rfl) h2
  obtain ⟨s3, rfl, rfl, rfl, ws3⟩ := Go.ChangeMaps.open_string Try.underlying9 (hval 3 9 v3 rfl rfl) h3
  have h0k := h0
  obtain ⟨f0, g0⟩ := h0
  clear hA0
  simp only [List.append_nil] at hW'
  have hb := bulks.bound hk
  have hb0 : Rows.uptoBulk d0 ≤ 1048576 := Nat.le_trans (bulks.part_le (l := [d0, .lit (.int .i64 n1), .lit (.string s2.data.toList), .lit (.string s3.data.toList)] ++ []) (by simp)) hb
  obtain ⟨m0, hK0, hm0⟩ := rd_27 enc W f0 _ _ g0 hb0
  obtain ⟨A, c, hcs, hc, hC⟩ := k27_open hK0
  have e0 : a0 = #[.int .i64 m0.f0, .slice A m0.f1.length c] := by
    have : a0.toList = [.int .i64 m0.f0, .slice A m0.f1.length c] := hcs
    rw [← Array.toArray_toList (xs := a0), this]
  subst e0
  have hlt : ∀ x ∈ p0, x.block < W.heap.size := fun x hx => by simpa using hW'.lt x (by simpa using hx)
  have hargs : ∀ (W' : World), Below W.heap.size W W' → DataW.TrodAll enc Try.prog W' 0 (fun b => decide (b < W.heap.size)) true [27, 3, 9, 9] [.agg #[.int .i64 m0.f0, .slice A m0.f1.length c], .int .i64 n1, .string s2, .string s3] [d0, .lit (.int .i64 n1), .lit (.string s2.data.toList), .lit (.string s3.data.toList)] (p0 ++ ([] ++ ([] ++ []))) :=
    fun W' hn => trodAll_mk4 (Below.trod laidOut (by kernel_rfl) (of_decide_eq_true (by kernel_rfl)) h0k hn (fun x hx => hlt x hx)) (shut_int Try.underlying3 wn1) (Go.ChangeMaps.shut_string Try.underlying9 ws2) (Go.ChangeMaps.shut_string Try.underlying9 ws3)
  refine (edits_any m0.f0 n1 A m0.f1 c s2 s3 W ⟨hC, hc, hm0.small, hm0.wf⟩ (i64_of_wf wn1)).mono fun e W' ⟨he, hg⟩ => ?_
  subst he
  refine ⟨_, rfl, [d0, .lit (.int .i64 n1), .lit (.string s2.data.toList), .lit (.string s3.data.toList)], [], p0 ++ ([] ++ ([] ++ [])), [], p0 ++ ([] ++ ([] ++ [])), [], (by simpa using hW'), trodAll_cons_mk (shut_bool Try.underlying4 _) trodAll_mk0, hargs W' hg, rfl, World.keptBut_mono (fun p hp => hp.elim) (hg.frame (fun _ => False)), fun h => by cases h⟩

set_option maxRecDepth 100000 in
theorem lifted (os : Os) (started : os.Started) (H : Type) (enc : TypeId × Value → H) (F : Stop.Interp) :
    ReturnsInHanded {} Try.checked os 8 .any ((Rows.OpenSpec.upto Rows.historyEditsSpec).pre6 enc Try.prog Try.f8 Rows.historyEditsUptoRow.domain false) (((Rows.OpenSpec.upto Rows.historyEditsSpec).at F).post enc Try.prog Try.f8 false true false false) := by
  refine returnsInHanded_of_cond (C := Try.checked) (s := Rows.OpenSpec.upto Rows.historyEditsSpec) (k := Rows.uptoSmall) rfl own started (by kernel_rfl) Try.func8
    (OpenSpec.witness (enc := enc) (C := Try.checked) (s := Rows.OpenSpec.upto Rows.historyEditsSpec) (k := Rows.uptoSmall) rfl false ⟨#[], #[.agg #[.int .i64 0, .slice none 0 0], .int .i64 0, .string ⟨#[]⟩, .string ⟨#[]⟩], []⟩ 8 (by kernel_rfl) (by kernel_rfl) (by kernel_rfl)
      (x := ([.agg [.lit (.int .i64 0), .nil], .lit (.int .i64 0), .lit (.string []), .lit (.string [])], [], [])) (by kernel_rfl) rfl (by kernel_rfl)) ?_
  intro W base args ds gs before hval hW _ hk _
  exact contract H enc W base args ds gs before hval hW hk

theorem over : Rows.historyEditsUptoRow.holds Try.pinned (Rows.OpenSpec.upto Rows.historyEditsSpec) :=
  OpenClaim.holds_of_cond 8 Try.f8 rfl rfl rfl rfl rfl rfl rfl ⟨rfl, rfl, rfl, rfl, rfl⟩ rfl rfl rfl rfl rfl (by kernel_rfl) Try.func8 (by kernel_rfl)
    (of_decide_eq_true (by kernel_rfl)) (by unfold Func.isWrapper; first | (rw [if_pos (by decide +kernel)]; kernel_rfl) | (rw [if_neg (by decide +kernel)]; exact ⟨rfl, rfl⟩))
    (fun os started H enc _ F => lifted os started H enc F)
end Go.Proofs.Ytlopfkkegjajlaa.editsLaw
namespace Go.Proofs.Ytlopfkkegjajlaa
theorem historyEditsUpto : Rows.HistoryEditsUptoSaid := editsLaw.over
end Go.Proofs.Ytlopfkkegjajlaa
