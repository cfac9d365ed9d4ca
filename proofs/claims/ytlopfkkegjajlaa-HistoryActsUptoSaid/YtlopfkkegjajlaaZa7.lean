/- Texts of this proof and of the kit's print for this seat, gathered by wip/shake.py: only what the proof reaches. -/
import Derived.Test.YtlopfkkegjajlaaZa6
namespace Go.Proofs.Ytlopfkkegjajlaa
open Go.RowKit Go.Proofs.YtlopfkkegjajlaaW.PrintWords PHistoryTouched
theorem elt27 {W : World} {D : Nat → Prop} {A : Option Addr} {l : List S27} (h : Kd.F k27 W D A l.length l) (j : Nat) (hj : j < l.length) :
    ∃ ad A7 c7, A = some ad ∧ W.cell? (ad.add (j * 2)) = some (.int .i64 (rd_T27 l j).f0) ∧ W.cell? ⟨(ad.add (j * 2)).block, (ad.add (j * 2)).off + 1, none⟩ = some (.slice A7 (rd_T27 l j).f1.length c7) ∧ (rd_T27 l j).f1.length ≤ c7 ∧ Kd.F k76 W D A7 (rd_T27 l j).f1.length (rd_T27 l j).f1 := by
  obtain ⟨ad, cs, hA, _, hFK, hcc, _⟩ := Kd.F_get h z27 (j : Int) (by omega) (by omega)
  obtain ⟨A7, c7, he7, hc7, hF7⟩ := k27_openF hFK
  have g0 := hcc 0 (.int .i64 (rd_T27 l j).f0) (by rw [he7]; rfl)
  have g1 := hcc 1 (.slice A7 (rd_T27 l j).f1.length c7) (by rw [he7]; rfl)
  have e : (j : Int).toNat * k27.sz = j * 2 := rfl
  rw [e] at g0 g1
  refine ⟨ad, A7, c7, hA, g0, ?_, hc7, hF7⟩
  rw [Addr_add_off]; exact g1
theorem rd27_mem {l : List S27} {j : Nat} (hj : j < l.length) : rd_T27 l j ∈ l := by
  have : rd_T27 l j = l[j] := by simp [rd_T27, List.getD_eq_getElem?_getD, List.getElem?_eq_getElem hj]
  rw [this]; exact List.getElem_mem hj
structure In3 (w : World) (Al : Option Addr) (l : List S27) (cl : Nat) (Aa : Option Addr) (acts : List (Int × Int)) : Prop where
  f : Kd.F k27 w (fun k => k < w.heap.size) Al l.length l
  cl : l.length ≤ cl
  c : Kd.C k40 w Aa acts.length acts
  sm : ∀ m ∈ l, SmallL m.f1
  wf : ∀ m ∈ l, WfL m.f1
  ok : ∀ a ∈ acts, I64 a.2
  nl : l.length ≤ 1048576
  na : acts.length ≤ 1048576
theorem acts_start {w w3 w4 w5 w6 : World} {pb qb : Nat} {m : S27} {A : Option Addr} {c : Nat} {S : Nat → Prop} (hs : SmallL m.f1) (hb3 : Below w.heap.size w w3) (hpb : w3.heap.size ≤ pb) (hc : 1 ≤ c) (hblk : w4.heap[pb]? = some (pastO A 1 c 0))
    (hF : Kd.F k27 w4 (fun k => w3.heap.size ≤ k ∧ k < w4.heap.size ∧ k ≠ pb) A 1 [m]) (hb4 : Below w3.heap.size w3 w4) (hqb : w4.heap.size ≤ qb) (hR : RefR w5 (fun k => w4.heap.size ≤ k ∧ k < w5.heap.size ∧ k ≠ qb) qb [] m []) (hb5 : Below w4.heap.size w4 w5)
    (h6 : Wr S w5 w6) (hS : ∀ k, S k → w.heap.size ≤ k ∧ k < w3.heap.size) : ∃ D, AI w w6 D pb qb [] m [] (.slice none 0 0) (.slice none 0 0) [] := by
  have hpl := blk_lt hblk
  have hql := hR.lt
  have s3 := hb3.size
  have s4 := hb4.size
  have s5 := hb5.size
  have s6 := h6.size
  obtain ⟨ad, _, hA, _⟩ := Kd.F_get hF z27 0 (by omega) (by omega)
  subst hA
  refine ⟨fun k => (w3.heap.size ≤ k ∧ k < w5.heap.size) ∧ k ≠ pb ∧ k ≠ qb, ⟨⟨below_trans' (below_step hb3 (below_step hb4 hb5)) h6 (fun k hk _ => (hS k hk).1), fun k hk => by omega, fun hk => hk.2.1 rfl, fun hk => hk.2.2 rfl, by omega, by omega, by omega, by simp, fun x hx => ?_, ?_, ?_⟩, Kd.N_nil _ _ _ _ _, Kd.N_nil _ _ _ _ _, fun o ho => by simp at ho⟩⟩
  · rw [show x = m by simpa using hx]; exact hs
  · have h1 : PastR w4 (fun k => w3.heap.size ≤ k ∧ k < w4.heap.size ∧ k ≠ pb) pb [m] 0 := ⟨ad, c, hblk, hc, hF⟩
    exact ((h1.below hb5).wr h6 (fun e => by have := hS _ e; omega) (fun k hk _ e => by have := hS _ e; omega)).mono (fun k hk h => ⟨⟨h.1, by omega⟩, h.2.2, by omega⟩)
  · exact (hR.wr h6 (fun e => by have := hS _ e; omega) (fun k hk _ e => by have := hS _ e; omega)).mono (fun k hk h => ⟨⟨by omega, h.2.1⟩, by omega, h.2.2⟩)
set_option maxRecDepth 100000 in
set_option maxHeartbeats 8000000 in
theorem acts_any (Al : Option Addr) (l : List S27) (cl : Nat) (Aa : Option Addr) (acts : List (Int × Int)) (ca : Nat) (w : World) (hin : In3 w Al l cl Aa acts) :
    Calls Try.prog 3 #[.slice Al l.length cl, .slice Aa acts.length ca] w fun e w' => e = .returned (.bool true) ∧ Below w.heap.size w w' := by
  obtain ⟨r, hg⟩ := great_any Al l cl w (Kd.F_now hin.f) hin.cl
  have HG := hidm hg
  have HIN := hidm hin
  clear hg hin
  go_enter Try.func3, Try.ntmps3
  go_wp2_with fail
  refine HG.out.mono ?_
  clear HG
  rintro e w1 ⟨rfl, hb1⟩
  have HB1 := hidm hb1
  clear hb1
  cases r with
  | true =>
    go_wp2_with fail
    go_ret
    exact ⟨rfl, HB1.out⟩
  | false =>
  by_cases hl0 : l.length = 0
  · have hl1 : ((l.length : Int) == 0) = true := by rw [hl0]; rfl
    go_wp2_with fail
    go_ret
    exact ⟨rfl, HB1.out⟩
  have hl1 : ((l.length : Int) == 0) = false := by rw [beq_eq_false_iff_ne]; omega
  by_cases hl2 : 100 < l.length
  · have hl3 : decide ((100 : Int) < (l.length : Int)) = true := decide_eq_true (by omega)
    go_wp2_with fail
    go_ret
    exact ⟨rfl, HB1.out⟩
  have hl3 : decide ((100 : Int) < (l.length : Int)) = false := decide_eq_false (by omega)
  have hlp : 0 < l.length := by omega
  have hll : l.length ≤ 100 := by omega
  clear hl0 hl2
  obtain ⟨ad, A0, c0, rfl, z0, z1, hc0, hF0⟩ := elt27 HIN.out.f 0 hlp
  have HC0 := hidm hc0
  have HF0 := hidm hF0
  have q0 : w1.cell? ad = some (.int .i64 (rd_T27 l 0).f0) := pw_cell_below HB1.out (by simpa [Addr.add] using z0)
  have q1 : w1.cell? ⟨ad.block, ad.off + 1, none⟩ = some (.slice A0 (rd_T27 l 0).f1.length c0) := pw_cell_below HB1.out (by simpa [Addr.add] using z1)
  have Z0 : Hid (w.cell? ad = some (.int .i64 (rd_T27 l 0).f0)) := by have := z0; simp [Addr.add] at this; exact this
  have Z1 : Hid (w.cell? ⟨ad.block, ad.off + 1, none⟩ = some (.slice A0 (rd_T27 l 0).f1.length c0)) := by have := z1; simp [Addr.add] at this; exact this
  have HSM : Hid (SmallL (rd_T27 l 0).f1) := HIN.out.sm _ (rd27_mem hlp)
  have HWF : Hid (WfL (rd_T27 l 0).f1) := HIN.out.wf _ (rd27_mem hlp)
  have hi0 : (0 : Int) < (l.length : Int) := by omega
  clear z0 z1 hc0 hF0
  go_wp2_with fail
  refine (refTwin_any (rd_T27 l 0).f0 A0 (rd_T27 l 0).f1 c0 w1 (Kd.C_below (Kd.F_now HF0.out) HB1.out) HC0.out HSM.out).mono ?_
  rintro e w2 ⟨v, rfl, hv, hb2⟩
  obtain ⟨A8, c8, rfl, hc8, _⟩ := Kd.R_reads hv
  have HB2 := hidm (below_step HB1.out hb2)
  have HSHP : Hid (ShpM w2 (fun k => w1.heap.size ≤ k ∧ k < w2.heap.size) A8 (rd_T27 l 0).f1.length) := shpM_of_R hv HSM.out
  have HV := hidm hv
  have K3 : Hid ((w2.alloc (.cells #[.int .i64 (rd_T27 l 0).f0, .slice A8 (rd_T27 l 0).f1.length c8] 27)).heap[w2.heap.size]? = some (.cells #[.int .i64 (rd_T27 l 0).f0, .slice A8 (rd_T27 l 0).f1.length c8] 27 (0, 0))) := blk_new _ _
  have HB3 : Hid (Below w2.heap.size w2 (w2.alloc (.cells #[.int .i64 (rd_T27 l 0).f0, .slice A8 (rd_T27 l 0).f1.length c8] 27))) := below_alloc (Below.refl _ _) _
  have HW1 : Hid (w.heap.size ≤ w1.heap.size) := HB1.out.size
  clear hv hb2 hc8 q0 q1
  go_wp2_with fail
  generalize (w2.alloc (.cells #[.int .i64 (rd_T27 l 0).f0, .slice A8 (rd_T27 l 0).f1.length c8] 27)) = w3 at K3 HB3 ⊢
  have HV3 : Hid (Kd.C k76 w3 A8 (rd_T27 l 0).f1.length (rd_T27 l 0).f1) := by
    obtain ⟨A9, c9, e9, _, h9⟩ := Kd.R_reads (Kd.R_below HV.out HB3.out)
    injection e9 with e1 _ _
    subst e1
    exact h9
  by_cases hk : CheckP (rd_T27 l 0).f0 (rd_T27 l 0).f1
  · have HK := hidm hk
    refine (new_yes (rd_T27 l 0).f0 A8 (rd_T27 l 0).f1 c8 w3 HV3.out HWF.out HSM.out hk).mono ?_
    clear hk
    rintro e w4 ⟨pb, Ap, cp, rfl, hpb, hcp, hblk, hFp, hb4⟩
    have HB0w : Hid (Below w.heap.size w w4) := below_step (below_step HB2.out HB3.out) hb4
    have HPB := hidm hpb
    have HCP := hidm hcp
    have HBLK := hidm hblk
    have HFP := hidm hFp
    have HB4 := hidm hb4
    have q0 : w4.cell? ad = some (.int .i64 (rd_T27 l 0).f0) := pw_cell_below HB0w.out Z0.out
    have q1 : w4.cell? ⟨ad.block, ad.off + 1, none⟩ = some (.slice A0 (rd_T27 l 0).f1.length c0) := pw_cell_below HB0w.out Z1.out
    clear hpb hcp hblk hFp hb4
    go_wp2_with fail
    refine (refNew_any (rd_T27 l 0).f0 A0 (rd_T27 l 0).f1 c0 w4 (Kd.C_below (Kd.F_now HF0.out) HB0w.out) HC0.out HSM.out).mono ?_
    rw [tv_yes HK.out]
    rintro e w5 ⟨qb, rfl, hqb, hR, hb5⟩
    have K5 := hidm (blk_below K3.out (below_step HB4.out hb5))
    have HQB := hidm hqb
    have HR := hidm hR
    have HB5 := hidm hb5
    clear q0 q1 hqb hR hb5
    have q0 : w5.cell? ⟨w2.heap.size, 0, none⟩ = some (.int .i64 (rd_T27 l 0).f0) := blk_cell K5.out 0
    have q1 : w5.cell? ⟨w2.heap.size, 1, none⟩ = some (.slice A8 (rd_T27 l 0).f1.length c8) := blk_cell K5.out 1
    have HSHP5 : Hid (ShpM w5 (fun k => w1.heap.size ≤ k ∧ k < w2.heap.size) A8 (rd_T27 l 0).f1.length) := HSHP.out.move (fun _ h => h) (fun k hk => by
      have s3 := HB3.out.size
      have s4 := HB4.out.size
      rw [HB5.out.block k (by omega), HB4.out.block k (by omega), HB3.out.block k hk.2])
    have hz : ((0 : Int) == 0) = true := rfl
    go_wp2_with fail
    refine (spoil_any (rd_T27 l 0).f0 (fun k => w1.heap.size ≤ k ∧ k < w2.heap.size) A8 (rd_T27 l 0).f1.length c8 w5 HSHP5.out (fun k hk => by have s3 := HB3.out.size; have s4 := HB4.out.size; have s5 := HB5.out.size; omega)).mono ?_
    rintro e w6 ⟨rfl, hw6⟩
    obtain ⟨D, hAI⟩ := acts_start HSM.out (below_step HB2.out HB3.out) HPB.out HCP.out HBLK.out HFP.out HB4.out HQB.out HR.out HB5.out hw6 (fun k hk => by have s1 := HW1.out; have s3 := HB3.out.size; omega)
    have HAI := hidm hAI
    clear hAI hw6 q0 q1 K5 HQB HR HB5 HSHP5 HPB HCP HBLK HFP HB4 HB0w HK K3 HB3 HV3 HV HSHP HB2 HW1
    go_wp2_with fail
    go_loopw [6, 8, 10, 11, 12] (fun p q os ws i W => ∃ k : Nat, k ≤ acts.length ∧ k ≤ 200 ∧ i = .int .i64 k ∧ ∃ D pb qb ah h be ol, p = .pointer (some ⟨pb, 0, none⟩) ∧ q = .pointer (some ⟨qb, 0, none⟩) ∧ ol.length ≤ k ∧ Hid (AI w W D pb qb ah h be os ws ol)) (fun _ _ _ _ i _ => acts.length - (intOf i).toNat)
    case atStart => exact ⟨0, Nat.zero_le _, Nat.zero_le _, rfl, _, _, _, _, _, _, [], rfl, rfl, Nat.le_refl _, HAI⟩
    case round =>
      clear HAI
      obtain ⟨i, hia, hi200, rfl, D, pb, qb, ah, h, be, ol, rfl, rfl, hol, HAI⟩ := hrel
      by_cases hlt : i < acts.length
      · by_cases hlt2 : i < 200
        · have hl1 : (i : Int) < (acts.length : Int) := by omega
          have hl2 : (i : Int) < 200 := by omega
          have hi0 : (0 : Int) ≤ (i : Int) := by omega
          obtain ⟨aa, hAa, y0, y1⟩ := at_T40 HIN.out.c i hlt
          subst hAa
          obtain ⟨kd, hkd⟩ : ∃ kd, (acts.getD i (0, 0)).1 = kd := ⟨_, rfl⟩
          obtain ⟨md, hmd⟩ : ∃ md, (acts.getD i (0, 0)).2 = md := ⟨_, rfl⟩
          have HMD : Hid (I64 md) := by
            have hm : acts.getD i (0, 0) ∈ acts := by
              rw [List.getD_eq_getElem?_getD, List.getElem?_eq_getElem hlt]
              exact List.getElem_mem hlt
            have := HIN.out.ok _ hm
            rw [hmd] at this
            exact hidm this
          rw [hkd] at y0
          rw [hmd] at y1
          have y0' := pw_cell_below HAI.out.p.b y0
          have y1' := pw_cell_below HAI.out.p.b y1
          clear y0 y1 hkd hmd
          by_cases hk0 : kd = 0
          · subst hk0
            obtain ⟨qi, hqi, hidx⟩ := index_any md l.length wr HMD.out hlp (by omega)
            have HX14 := hidm hidx
            clear hidx
            go_wp2_with fail
            refine HX14.out.mono ?_
            rintro e w7 ⟨rfl, hw7⟩
            obtain rfl : wr = w7 := hw7.symm
            obtain ⟨ad7, A7, c7, hA7, z0, z1, hc7, hF7⟩ := elt27 HIN.out.f qi hqi
            injection hA7 with hA7
            subst hA7
            have u0 := pw_cell_below HAI.out.p.b z0
            have u1 := pw_cell_below HAI.out.p.b z1
            have HC7 := hidm hc7
            have HF7 := hidm hF7
            have HSM7 : Hid (SmallL (rd_T27 l qi).f1) := HIN.out.sm _ (rd27_mem hqi)
            have HWF7 : Hid (WfL (rd_T27 l qi).f1) := HIN.out.wf _ (rd27_mem hqi)
            have hq0 : (0 : Int) ≤ (qi : Int) := by omega
            have hq1 : (qi : Int) < (l.length : Int) := by omega
            have K8 : Hid ((wr.alloc (.cells #[.int .i64 (rd_T27 l qi).f0, .slice A7 (rd_T27 l qi).f1.length c7] 27)).heap[wr.heap.size]? = some (.cells #[.int .i64 (rd_T27 l qi).f0, .slice A7 (rd_T27 l qi).f1.length c7] 27 (0, 0))) := blk_new _ _
            have HB8 : Hid (Below wr.heap.size wr (wr.alloc (.cells #[.int .i64 (rd_T27 l qi).f0, .slice A7 (rd_T27 l qi).f1.length c7] 27))) := below_alloc (Below.refl _ _) _
            clear z0 z1 hc7 hF7 hw7
            go_wp2_with fail
            generalize (wr.alloc (.cells #[.int .i64 (rd_T27 l qi).f0, .slice A7 (rd_T27 l qi).f1.length c7] 27)) = w8 at K8 HB8 ⊢
            refine (refTwin_any (rd_T27 l qi).f0 A7 (rd_T27 l qi).f1 c7 w8 (Kd.C_below (Kd.F_now HF7.out) (below_step HAI.out.p.b HB8.out)) HC7.out HSM7.out).mono ?_
            rintro e w9 ⟨v, rfl, hv, hb9⟩
            obtain ⟨A9, c9, rfl, hc9, _⟩ := Kd.R_reads hv
            have HSHP : Hid (ShpM w9 (fun k => w8.heap.size ≤ k ∧ k < w9.heap.size) A9 (rd_T27 l qi).f1.length) := shpM_of_R hv HSM7.out
            have HV := hidm hv
            have HB9 := hidm hb9
            have K10 : Hid ((w9.alloc (.cells #[.int .i64 (rd_T27 l qi).f0, .slice A9 (rd_T27 l qi).f1.length c9] 27)).heap[w9.heap.size]? = some (.cells #[.int .i64 (rd_T27 l qi).f0, .slice A9 (rd_T27 l qi).f1.length c9] 27 (0, 0))) := blk_new _ _
            have HB10 : Hid (Below w9.heap.size w9 (w9.alloc (.cells #[.int .i64 (rd_T27 l qi).f0, .slice A9 (rd_T27 l qi).f1.length c9] 27))) := below_alloc (Below.refl _ _) _
            clear hv hb9 hc9 u0 u1
            go_wp2_with fail
            generalize (w9.alloc (.cells #[.int .i64 (rd_T27 l qi).f0, .slice A9 (rd_T27 l qi).f1.length c9] 27)) = w10 at K10 HB10 ⊢
            have K9 : Hid (w10.heap[wr.heap.size]? = some (.cells #[.int .i64 (rd_T27 l qi).f0, .slice A7 (rd_T27 l qi).f1.length c7] 27 (0, 0))) := blk_below K8.out (below_step HB9.out HB10.out)
            have HBW : Hid (Below wr.heap.size wr w10) := below_step HB8.out (below_step HB9.out HB10.out)
            have HNP : Hid (pb < wr.heap.size ∧ qb < wr.heap.size) := ⟨HAI.out.p.past.lt, HAI.out.p.ref.lt⟩
            have HS89 : Hid (wr.heap.size ≤ w8.heap.size ∧ w8.heap.size ≤ w9.heap.size ∧ w9.heap.size < w10.heap.size) := ⟨HB8.out.size, HB9.out.size, blk_lt K10.out⟩
            have HV10 : Hid (Kd.C k76 w10 A9 (rd_T27 l qi).f1.length (rd_T27 l qi).f1) := by
              obtain ⟨A99, c99, e9, _, h9⟩ := Kd.R_reads (Kd.R_below HV.out HB10.out)
              injection e9 with e1 _ _
              subst e1
              exact h9
            have HSHP10 : Hid (ShpM w10 (fun k => wr.heap.size ≤ k ∧ k < w10.heap.size ∧ k ≠ pb ∧ k ≠ qb) A9 (rd_T27 l qi).f1.length) := HSHP.out.move (fun k hk => by have h1 := HS89.out; have h2 := HNP.out; omega) (fun k hk => HB10.out.block k hk.2)
            obtain ⟨er, ah', h', be', hlen', hsm', h15, h16⟩ := push_both D pb qb ah h be (rd_T27 l qi).f0 (rd_T27 l qi).f1 HAI.out.p.len HWF7.out HSM7.out HAI.out.p.sm HAI.out.p.nP HAI.out.p.nQ
            have HLEN := hidm hlen'
            have HSM := hidm hsm'
            have H15 := hidm h15
            have H16 := hidm h16
            clear hlen' hsm' h15 h16 K8 HB8 HSHP HV HB9 HB10
            have s0 : ∀ y : WW (fun k => k = pb ∨ k = qb) w10, y.1.cell? ⟨wr.heap.size, 0, none⟩ = some (.int .i64 (rd_T27 l qi).f0) := ww_cell (blk_cell K9.out 0) (by have h2 := HNP.out; show ¬ (wr.heap.size = pb ∨ wr.heap.size = qb); omega)
            have s1 : ∀ y : WW (fun k => k = pb ∨ k = qb) w10, y.1.cell? ⟨wr.heap.size, 1, none⟩ = some (.slice A7 (rd_T27 l qi).f1.length c7) := ww_cell (blk_cell K9.out 1) (by have h2 := HNP.out; show ¬ (wr.heap.size = pb ∨ wr.heap.size = qb); omega)
            have s2 : ∀ y : WW (fun k => k = pb ∨ k = qb) w10, y.1.cell? ⟨w9.heap.size, 0, none⟩ = some (.int .i64 (rd_T27 l qi).f0) := ww_cell (blk_cell K10.out 0) (by have h1 := HS89.out; have h2 := HNP.out; show ¬ (w9.heap.size = pb ∨ w9.heap.size = qb); omega)
            have s3 : ∀ y : WW (fun k => k = pb ∨ k = qb) w10, y.1.cell? ⟨w9.heap.size, 1, none⟩ = some (.slice A9 (rd_T27 l qi).f1.length c9) := ww_cell (blk_cell K10.out 1) (by have h1 := HS89.out; have h2 := HNP.out; show ¬ (w9.heap.size = pb ∨ w9.heap.size = qb); omega)
            refine wp_region_noPanic ?_
            refine wp_region_hold1 (C := fun w' => ∃ x : WW (fun k => k = pb ∨ k = qb) w10, w' = x.1) 6 [] [0, 1, 3, 4] [2, 5] (by kernel_rfl) (by kernel_rfl) (by kernel_rfl) (by kernel_rfl) (fun _ _ _ _ _ h => (h : False).elim) ⟨⟨{ w10 with drawn := w10.drawn + 1 }, ⟨rfl, rfl, rfl, Nat.le_refl _, fun _ _ _ => rfl⟩⟩, rfl⟩ ?_
            simp only [pickOps, Option.elim_some, List.getElem?_cons_succ, List.getElem?_cons_zero, List.drop_succ_cons, List.drop_zero]
            repeat (go_big_quiet_step (fail))
            refine wpQuiet_nil ?_
            have HB11 : Hid (Below w10.heap.size w10 ({ w10 with drawn := w10.drawn + 1 } : World)) := ⟨rfl, rfl, rfl, Nat.le_refl _, fun _ _ => rfl⟩
            have HZ11 : Hid (({ w10 with drawn := w10.drawn + 1 } : World).heap.size = w10.heap.size) := rfl
            generalize ({ w10 with drawn := w10.drawn + 1 } : World) = w11 at HB11 HZ11 ⊢
            clear s0 s1 s2 s3
            refine ⟨_, rfl, rfl, .inl ⟨15, #[.pointer (some ⟨pb, 0, none⟩), .agg #[.int .i64 (rd_T27 l qi).f0, .slice A9 (rd_T27 l qi).f1.length c9]], ?_, ?_⟩⟩
            · go_simp
            have HBX : Hid (Below wr.heap.size wr w11) := below_step HBW.out HB11.out
            refine (H15.out w11 A9 c9 (HAI.out.p.past.below HBX.out) (Kd.C_below HV10.out HB11.out)).mono ?_
            rintro e w12 ⟨rfl, hp12, hw12⟩
            refine ⟨_, rfl, ⟨⟨w12, (Wr.of_below (S := fun k => k = pb ∨ k = qb) HB11.out).trans hw12 (fun k _ h => .inl h)⟩, rfl⟩, ?_⟩
            simp only [Act.put, List.getElem_toArray, List.getElem_cons_succ, List.getElem_cons_zero, List.setIfInBounds_toArray, List.set_cons_zero, List.set_cons_succ]
            refine ⟨_, rfl, rfl, .inl ⟨16, #[.pointer (some ⟨qb, 0, none⟩), .agg #[.int .i64 (rd_T27 l qi).f0, .slice A7 (rd_T27 l qi).f1.length c7]], ?_, ?_⟩⟩
            · go_simp
            have HP12 := hidm hp12
            have HW12 := hidm hw12
            have HWX : Hid (Wr (· = pb) wr w12) := (Wr.of_below (S := (· = pb)) HBX.out).trans hw12 (fun _ _ h => h)
            clear hp12 hw12
            refine (H16.out w12 A7 c7 (fun k => k < w.heap.size) (HAI.out.p.ref.wr HWX.out (fun e => HAI.out.p.ne e.symm) (fun k hk _ e => HAI.out.p.nP (by rw [← e]; exact hk))) (fun k hk => Nat.lt_of_lt_of_le (HAI.out.p.lt k hk) HWX.out.size)
              (Kd.F_step HF7.out (fun k hk hlt => (HWX.out.block k (Nat.lt_of_lt_of_le hlt HAI.out.p.b.size) (fun e => by have := HAI.out.p.gp; omega)).trans (HAI.out.p.b.block k hlt))) (fun h => by have := HAI.out.p.gq; omega) HC7.out).mono ?_
            rintro e w13 ⟨rfl, hr13, hw13⟩
            have HR13 := hidm hr13
            have HW13 := hidm hw13
            clear hr13 hw13
            refine ⟨_, rfl, ⟨⟨w13, ((Wr.of_below (S := fun k => k = pb ∨ k = qb) HB11.out).trans HW12.out (fun k _ h => .inl h)).trans HW13.out (fun k _ h => .inr h)⟩, rfl⟩, ?_⟩
            simp only [Act.put, List.getElem_toArray, List.getElem_cons_succ, List.getElem_cons_zero, List.setIfInBounds_toArray, List.set_cons_zero, List.set_cons_succ]
            have HWA : Hid (Wr (fun k => k = pb ∨ k = qb) w10 w13) := ((Wr.of_below (S := fun k => k = pb ∨ k = qb) HB11.out).trans HW12.out (fun k _ h => .inl h)).trans HW13.out (fun k _ h => .inr h)
            have K13 : Hid (w13.heap[w9.heap.size]? = some (.cells #[.int .i64 (rd_T27 l qi).f0, .slice A9 (rd_T27 l qi).f1.length c9] 27 (0, 0))) := (HWA.out.block _ HS89.out.2.2 (by have h1 := HS89.out; have h2 := HNP.out; omega)).trans K10.out
            have HSHP13 : Hid (ShpM w13 (fun k => wr.heap.size ≤ k ∧ k < w11.heap.size) A9 (rd_T27 l qi).f1.length) := HSHP10.out.move (fun k hk => ⟨hk.1, by rw [HZ11.out]; exact hk.2.1⟩) (fun k hk => HWA.out.block k hk.2.1 (fun e => e.elim hk.2.2.1 hk.2.2.2))
            have u0 : w13.cell? ⟨w9.heap.size, 0, none⟩ = some (.int .i64 (rd_T27 l qi).f0) := blk_cell K13.out 0
            have u1 : w13.cell? ⟨w9.heap.size, 1, none⟩ = some (.slice A9 (rd_T27 l qi).f1.length c9) := blk_cell K13.out 1
            clear HWA HSHP10 K10 K9 HV10 HF7 HC7 H15 H16 K13
            show wpList _ _ _ _ _ _
            go_wp2_with fail
            refine NoPanic.normal ?_
            go_wp2_with fail
            refine (spoil_any (rd_T27 l qi).f0 (fun k => wr.heap.size ≤ k ∧ k < w11.heap.size) A9 (rd_T27 l qi).f1.length c9 w13 HSHP13.out (fun k hk => Nat.lt_of_lt_of_le hk.2 (Nat.le_trans HW12.out.size HW13.out.size))).mono ?_
            rintro e w14 ⟨rfl, hw14⟩
            obtain ⟨D', hAJ⟩ := HAI.out.pushed HBX.out HP12.out HW12.out HR13.out HW13.out hw14 HLEN.out HSM.out
            have HAJ := hidm hAJ
            clear hAJ hw14 HAI HBX HP12 HW12 HR13 HW13 HLEN HSM HSHP13 u0 u1 HNP HS89 HBW HB11 HZ11 HWX
            go_wp2_with fail
            refine (same_both D' D' pb qb ah' h' be' w14 HAJ.out.p.len HAJ.out.p.sm HAJ.out.p.past HAJ.out.p.ref).mono ?_
            rintro e w99 ⟨rfl, hb99⟩
            have HAK := hidm (HAJ.out.below hb99)
            clear hb99 HAJ
            go_wp2_with fail
            go_roundw
            case rel => exact ⟨i + 1, by omega, by omega, by go_num, D', pb, qb, ah', h', be', ol, rfl, rfl, by omega, HAK⟩
            case measure => simp [intOf]; omega
          by_cases hk1 : kd = 1
          · subst hk1
            obtain ⟨qi, hqi, hidx⟩ := index_any md l.length wr HMD.out hlp (by omega)
            have HX14 := hidm hidx
            clear hidx
            go_wp2_with fail
            refine HX14.out.mono ?_
            rintro e w7 ⟨rfl, hw7⟩
            obtain rfl : wr = w7 := hw7.symm
            obtain ⟨ad7, A7, c7, hA7, z0, z1, hc7, hF7⟩ := elt27 HIN.out.f qi hqi
            injection hA7 with hA7
            subst hA7
            have u0 := pw_cell_below HAI.out.p.b z0
            have u1 := pw_cell_below HAI.out.p.b z1
            have HC7 := hidm hc7
            have HF7 := hidm hF7
            have HSM7 : Hid (SmallL (rd_T27 l qi).f1) := HIN.out.sm _ (rd27_mem hqi)
            have HWF7 : Hid (WfL (rd_T27 l qi).f1) := HIN.out.wf _ (rd27_mem hqi)
            have hq0 : (0 : Int) ≤ (qi : Int) := by omega
            have hq1 : (qi : Int) < (l.length : Int) := by omega
            have K8 : Hid ((wr.alloc (.cells #[.int .i64 (rd_T27 l qi).f0, .slice A7 (rd_T27 l qi).f1.length c7] 27)).heap[wr.heap.size]? = some (.cells #[.int .i64 (rd_T27 l qi).f0, .slice A7 (rd_T27 l qi).f1.length c7] 27 (0, 0))) := blk_new _ _
            have HB8 : Hid (Below wr.heap.size wr (wr.alloc (.cells #[.int .i64 (rd_T27 l qi).f0, .slice A7 (rd_T27 l qi).f1.length c7] 27))) := below_alloc (Below.refl _ _) _
            clear z0 z1 hc7 hF7 hw7
            go_wp2_with fail
            generalize (wr.alloc (.cells #[.int .i64 (rd_T27 l qi).f0, .slice A7 (rd_T27 l qi).f1.length c7] 27)) = w8 at K8 HB8 ⊢
            refine (refTwin_any (rd_T27 l qi).f0 A7 (rd_T27 l qi).f1 c7 w8 (Kd.C_below (Kd.F_now HF7.out) (below_step HAI.out.p.b HB8.out)) HC7.out HSM7.out).mono ?_
            rintro e w9 ⟨v, rfl, hv, hb9⟩
            obtain ⟨A9, c9, rfl, hc9, _⟩ := Kd.R_reads hv
            have HSHP : Hid (ShpM w9 (fun k => w8.heap.size ≤ k ∧ k < w9.heap.size) A9 (rd_T27 l qi).f1.length) := shpM_of_R hv HSM7.out
            have HV := hidm hv
            have HB9 := hidm hb9
            have K10 : Hid ((w9.alloc (.cells #[.int .i64 (rd_T27 l qi).f0, .slice A9 (rd_T27 l qi).f1.length c9] 27)).heap[w9.heap.size]? = some (.cells #[.int .i64 (rd_T27 l qi).f0, .slice A9 (rd_T27 l qi).f1.length c9] 27 (0, 0))) := blk_new _ _
            have HB10 : Hid (Below w9.heap.size w9 (w9.alloc (.cells #[.int .i64 (rd_T27 l qi).f0, .slice A9 (rd_T27 l qi).f1.length c9] 27))) := below_alloc (Below.refl _ _) _
            clear hv hb9 hc9 u0 u1
            go_wp2_with fail
            generalize (w9.alloc (.cells #[.int .i64 (rd_T27 l qi).f0, .slice A9 (rd_T27 l qi).f1.length c9] 27)) = w10 at K10 HB10 ⊢
            have K9 : Hid (w10.heap[wr.heap.size]? = some (.cells #[.int .i64 (rd_T27 l qi).f0, .slice A7 (rd_T27 l qi).f1.length c7] 27 (0, 0))) := blk_below K8.out (below_step HB9.out HB10.out)
            have HBW : Hid (Below wr.heap.size wr w10) := below_step HB8.out (below_step HB9.out HB10.out)
            have HNP : Hid (pb < wr.heap.size ∧ qb < wr.heap.size) := ⟨HAI.out.p.past.lt, HAI.out.p.ref.lt⟩
            have HS89 : Hid (wr.heap.size ≤ w8.heap.size ∧ w8.heap.size ≤ w9.heap.size ∧ w9.heap.size < w10.heap.size) := ⟨HB8.out.size, HB9.out.size, blk_lt K10.out⟩
            have HV10 : Hid (Kd.C k76 w10 A9 (rd_T27 l qi).f1.length (rd_T27 l qi).f1) := by
              obtain ⟨A99, c99, e9, _, h9⟩ := Kd.R_reads (Kd.R_below HV.out HB10.out)
              injection e9 with e1 _ _
              subst e1
              exact h9
            have HSHP10 : Hid (ShpM w10 (fun k => wr.heap.size ≤ k ∧ k < w10.heap.size ∧ k ≠ pb ∧ k ≠ qb) A9 (rd_T27 l qi).f1.length) := HSHP.out.move (fun k hk => by have h1 := HS89.out; have h2 := HNP.out; omega) (fun k hk => HB10.out.block k hk.2)
            obtain ⟨er, ah', h', be', hlen', hsm', h15, h16⟩ := push_both D pb qb ah h be (rd_T27 l qi).f0 (rd_T27 l qi).f1 HAI.out.p.len HWF7.out HSM7.out HAI.out.p.sm HAI.out.p.nP HAI.out.p.nQ
            have HLEN := hidm hlen'
            have HSM := hidm hsm'
            have H15 := hidm h15
            have H16 := hidm h16
            clear hlen' hsm' h15 h16 K8 HB8 HSHP HV HB9 HB10
            have s0 : ∀ y : WW (fun k => k = pb ∨ k = qb) w10, y.1.cell? ⟨wr.heap.size, 0, none⟩ = some (.int .i64 (rd_T27 l qi).f0) := ww_cell (blk_cell K9.out 0) (by have h2 := HNP.out; show ¬ (wr.heap.size = pb ∨ wr.heap.size = qb); omega)
            have s1 : ∀ y : WW (fun k => k = pb ∨ k = qb) w10, y.1.cell? ⟨wr.heap.size, 1, none⟩ = some (.slice A7 (rd_T27 l qi).f1.length c7) := ww_cell (blk_cell K9.out 1) (by have h2 := HNP.out; show ¬ (wr.heap.size = pb ∨ wr.heap.size = qb); omega)
            have s2 : ∀ y : WW (fun k => k = pb ∨ k = qb) w10, y.1.cell? ⟨w9.heap.size, 0, none⟩ = some (.int .i64 (rd_T27 l qi).f0) := ww_cell (blk_cell K10.out 0) (by have h1 := HS89.out; have h2 := HNP.out; show ¬ (w9.heap.size = pb ∨ w9.heap.size = qb); omega)
            have s3 : ∀ y : WW (fun k => k = pb ∨ k = qb) w10, y.1.cell? ⟨w9.heap.size, 1, none⟩ = some (.slice A9 (rd_T27 l qi).f1.length c9) := ww_cell (blk_cell K10.out 1) (by have h1 := HS89.out; have h2 := HNP.out; show ¬ (w9.heap.size = pb ∨ w9.heap.size = qb); omega)
            refine wp_region_noPanic ?_
            refine wp_region_hold1 (C := fun w' => ∃ x : WW (fun k => k = pb ∨ k = qb) w10, w' = x.1) 6 [] [0, 1, 3, 4] [2, 5] (by kernel_rfl) (by kernel_rfl) (by kernel_rfl) (by kernel_rfl) (fun _ _ _ _ _ h => (h : False).elim) ⟨⟨{ w10 with drawn := w10.drawn + 1 }, ⟨rfl, rfl, rfl, Nat.le_refl _, fun _ _ _ => rfl⟩⟩, rfl⟩ ?_
            simp only [pickOps, Option.elim_some, List.getElem?_cons_succ, List.getElem?_cons_zero, List.drop_succ_cons, List.drop_zero]
            repeat (go_big_quiet_step (fail))
            refine wpQuiet_nil ?_
            have HB11 : Hid (Below w10.heap.size w10 ({ w10 with drawn := w10.drawn + 1 } : World)) := ⟨rfl, rfl, rfl, Nat.le_refl _, fun _ _ => rfl⟩
            have HZ11 : Hid (({ w10 with drawn := w10.drawn + 1 } : World).heap.size = w10.heap.size) := rfl
            generalize ({ w10 with drawn := w10.drawn + 1 } : World) = w11 at HB11 HZ11 ⊢
            clear s0 s1 s2 s3
            refine ⟨_, rfl, rfl, .inl ⟨15, #[.pointer (some ⟨pb, 0, none⟩), .agg #[.int .i64 (rd_T27 l qi).f0, .slice A9 (rd_T27 l qi).f1.length c9]], ?_, ?_⟩⟩
            · go_simp
            have HBX : Hid (Below wr.heap.size wr w11) := below_step HBW.out HB11.out
            refine (H15.out w11 A9 c9 (HAI.out.p.past.below HBX.out) (Kd.C_below HV10.out HB11.out)).mono ?_
            rintro e w12 ⟨rfl, hp12, hw12⟩
            refine ⟨_, rfl, ⟨⟨w12, (Wr.of_below (S := fun k => k = pb ∨ k = qb) HB11.out).trans hw12 (fun k _ h => .inl h)⟩, rfl⟩, ?_⟩
            simp only [Act.put, List.getElem_toArray, List.getElem_cons_succ, List.getElem_cons_zero, List.setIfInBounds_toArray, List.set_cons_zero, List.set_cons_succ]
            refine ⟨_, rfl, rfl, .inl ⟨16, #[.pointer (some ⟨qb, 0, none⟩), .agg #[.int .i64 (rd_T27 l qi).f0, .slice A7 (rd_T27 l qi).f1.length c7]], ?_, ?_⟩⟩
            · go_simp
            have HP12 := hidm hp12
            have HW12 := hidm hw12
            have HWX : Hid (Wr (· = pb) wr w12) := (Wr.of_below (S := (· = pb)) HBX.out).trans hw12 (fun _ _ h => h)
            clear hp12 hw12
            refine (H16.out w12 A7 c7 (fun k => k < w.heap.size) (HAI.out.p.ref.wr HWX.out (fun e => HAI.out.p.ne e.symm) (fun k hk _ e => HAI.out.p.nP (by rw [← e]; exact hk))) (fun k hk => Nat.lt_of_lt_of_le (HAI.out.p.lt k hk) HWX.out.size)
              (Kd.F_step HF7.out (fun k hk hlt => (HWX.out.block k (Nat.lt_of_lt_of_le hlt HAI.out.p.b.size) (fun e => by have := HAI.out.p.gp; omega)).trans (HAI.out.p.b.block k hlt))) (fun h => by have := HAI.out.p.gq; omega) HC7.out).mono ?_
            rintro e w13 ⟨rfl, hr13, hw13⟩
            have HR13 := hidm hr13
            have HW13 := hidm hw13
            clear hr13 hw13
            refine ⟨_, rfl, ⟨⟨w13, ((Wr.of_below (S := fun k => k = pb ∨ k = qb) HB11.out).trans HW12.out (fun k _ h => .inl h)).trans HW13.out (fun k _ h => .inr h)⟩, rfl⟩, ?_⟩
            simp only [Act.put, List.getElem_toArray, List.getElem_cons_succ, List.getElem_cons_zero, List.setIfInBounds_toArray, List.set_cons_zero, List.set_cons_succ]
            have HWA : Hid (Wr (fun k => k = pb ∨ k = qb) w10 w13) := ((Wr.of_below (S := fun k => k = pb ∨ k = qb) HB11.out).trans HW12.out (fun k _ h => .inl h)).trans HW13.out (fun k _ h => .inr h)
            have K13 : Hid (w13.heap[w9.heap.size]? = some (.cells #[.int .i64 (rd_T27 l qi).f0, .slice A9 (rd_T27 l qi).f1.length c9] 27 (0, 0))) := (HWA.out.block _ HS89.out.2.2 (by have h1 := HS89.out; have h2 := HNP.out; omega)).trans K10.out
            have HSHP13 : Hid (ShpM w13 (fun k => wr.heap.size ≤ k ∧ k < w11.heap.size) A9 (rd_T27 l qi).f1.length) := HSHP10.out.move (fun k hk => ⟨hk.1, by rw [HZ11.out]; exact hk.2.1⟩) (fun k hk => HWA.out.block k hk.2.1 (fun e => e.elim hk.2.2.1 hk.2.2.2))
            have u0 : w13.cell? ⟨w9.heap.size, 0, none⟩ = some (.int .i64 (rd_T27 l qi).f0) := blk_cell K13.out 0
            have u1 : w13.cell? ⟨w9.heap.size, 1, none⟩ = some (.slice A9 (rd_T27 l qi).f1.length c9) := blk_cell K13.out 1
            clear HWA HSHP10 K10 K9 HV10 HF7 HC7 H15 H16 K13
            show wpList _ _ _ _ _ _
            go_wp2_with fail
            refine NoPanic.normal ?_
            go_wp2_with fail
            refine (spoil_any (rd_T27 l qi).f0 (fun k => wr.heap.size ≤ k ∧ k < w11.heap.size) A9 (rd_T27 l qi).f1.length c9 w13 HSHP13.out (fun k hk => Nat.lt_of_lt_of_le hk.2 (Nat.le_trans HW12.out.size HW13.out.size))).mono ?_
            rintro e w14 ⟨rfl, hw14⟩
            obtain ⟨D', hAJ⟩ := HAI.out.pushed HBX.out HP12.out HW12.out HR13.out HW13.out hw14 HLEN.out HSM.out
            have HAJ := hidm hAJ
            clear hAJ hw14 HAI HBX HP12 HW12 HR13 HW13 HLEN HSM HSHP13 u0 u1 HNP HS89 HBW HB11 HZ11 HWX
            go_wp2_with fail
            refine (same_both D' D' pb qb ah' h' be' w14 HAJ.out.p.len HAJ.out.p.sm HAJ.out.p.past HAJ.out.p.ref).mono ?_
            rintro e w99 ⟨rfl, hb99⟩
            have HAK := hidm (HAJ.out.below hb99)
            clear hb99 HAJ
            go_wp2_with fail
            go_roundw
            case rel => exact ⟨i + 1, by omega, by omega, by go_num, D', pb, qb, ah', h', be', ol, rfl, rfl, by omega, HAK⟩
            case measure => simp [intOf]; omega
          have g0 : (kd == 0) = false := by rw [beq_eq_false_iff_ne]; exact hk0
          have g1 : (kd == 1) = false := by rw [beq_eq_false_iff_ne]; exact hk1
          clear hk0 hk1
          by_cases hk2 : kd = 2
          · subst hk2
            obtain ⟨er, m, ah', h', be', hem, heq, hsm7, h17, h18⟩ := undo_both D pb qb ah h be HAI.out.p.len HAI.out.p.sm HAI.out.p.nP HAI.out.p.nQ
            have HEM := hidm hem
            have HEQ := hidm heq
            have HSM7 := hidm hsm7
            have H17 := hidm h17
            have H18 := hidm h18
            clear hem heq hsm7 h17 h18
            go_wp2_with fail
            refine (H17.out wr HAI.out.p.past).mono ?_
            rintro e w7 ⟨v, rfl, hv, hp7, hw7⟩
            obtain ⟨A7, c7, rfl, hc7, _⟩ := Kd.R_reads hv
            have HC7 := hidm hc7
            have HSHP : Hid (ShpM w7 (fun k => wr.heap.size ≤ k ∧ k < w7.heap.size) A7 m.f1.length) := shpM_of_R hv HSM7.out
            have HV := hidm hv
            have HP7 := hidm hp7
            have HW7 := hidm hw7
            have K8 : Hid ((w7.alloc (.cells #[.int .i64 m.f0, .slice A7 m.f1.length c7] 27)).heap[w7.heap.size]? = some (.cells #[.int .i64 m.f0, .slice A7 m.f1.length c7] 27 (0, 0))) := blk_new _ _
            have HB8 : Hid (Below w7.heap.size w7 (w7.alloc (.cells #[.int .i64 m.f0, .slice A7 m.f1.length c7] 27))) := below_alloc (Below.refl _ _) _
            clear hv hp7 hw7 hc7
            go_wp2_with fail
            generalize (w7.alloc (.cells #[.int .i64 m.f0, .slice A7 m.f1.length c7] 27)) = w8 at K8 HB8 ⊢
            have HR8 : Hid (RefR w8 D qb ah h be) := (HAI.out.p.ref.wr HW7.out (fun e => HAI.out.p.ne e.symm) (fun k hk _ e => HAI.out.p.nP (by rw [← e]; exact hk))).below HB8.out
            have HNP : Hid (pb < wr.heap.size ∧ qb < wr.heap.size ∧ wr.heap.size ≤ w7.heap.size) := ⟨HAI.out.p.past.lt, HAI.out.p.ref.lt, HW7.out.size⟩
            refine (H18.out w8 HR8.out (fun k hk => Nat.lt_of_lt_of_le (HAI.out.p.lt k hk) (Nat.le_trans HW7.out.size HB8.out.size))).mono ?_
            rintro e w9 ⟨rfl, hr9, hw9⟩
            have HR9 := hidm hr9
            have HW9 := hidm hw9
            have K9 : Hid (w9.heap[w7.heap.size]? = some (.cells #[.int .i64 m.f0, .slice A7 m.f1.length c7] 27 (0, 0))) := (hw9.block _ (blk_lt K8.out) (by have h2 := HNP.out; omega)).trans K8.out
            have HV9 : Hid (Kd.C k76 w9 A7 m.f1.length m.f1) := by
              obtain ⟨A99, c99, e9, _, h9⟩ := Kd.R_reads (Kd.R_step (Kd.R_bound (Kd.R_below HV.out HB8.out)) (fun k hk hlt => hw9.block k hlt (by have h1 := hk.2.1; have h2 := HNP.out; omega)))
              injection e9 with e1 _ _
              subst e1
              exact h9
            have HSHP9 : Hid (ShpM w9 (fun k => wr.heap.size ≤ k ∧ k < w7.heap.size ∧ k ≠ qb) A7 m.f1.length) := HSHP.out.move (fun k hk => ⟨hk.1, hk.2, by have h2 := HNP.out; omega⟩) (fun k hk => (hw9.block k (Nat.lt_of_lt_of_le hk.2 HB8.out.size) (by have h2 := HNP.out; omega)).trans (HB8.out.block k hk.2))
            clear hr9 hw9 HSHP HV K8 HR8 H17 H18
            go_wp2_with fail
            obtain ⟨rfl, rfl⟩ | ⟨rfl, rfl⟩ := HEM.out
            · have L9 : Hid (w9.heap[w7.heap.size]? = some (.cells #[.int .i64 m.f0, .slice A7 m.f1.length c7] 27 (0, 0))) := K9.out
              obtain ⟨A1, c1, A2, c2, A3, c3, hC9⟩ := HR9.out.open_
              have HC9 := hidm hC9
              clear hC9
              have s0 : ∀ y : BW w9, y.1.cell? ⟨w7.heap.size, 0, none⟩ = some (.int .i64 m.f0) := bw_cell (blk_cell L9.out 0)
              have s1 : ∀ y : BW w9, y.1.cell? ⟨w7.heap.size, 1, none⟩ = some (.slice A7 m.f1.length c7) := bw_cell (blk_cell L9.out 1)
              have s2 : ∀ y : BW w9, y.1.cell? ⟨qb, 1, none⟩ = some (.int .i64 m.f0) := bw_cell (blk_cell HC9.out.blk 1)
              have s3 : ∀ y : BW w9, y.1.cell? ⟨qb, 2, none⟩ = some (.slice A2 m.f1.length c2) := bw_cell (blk_cell HC9.out.blk 2)
              have HSC : Hid (∀ y : BW w9, Calls Try.prog 19 #[.agg #[.int .i64 m.f0, .slice A7 m.f1.length c7], .agg #[.int .i64 m.f0, .slice A2 m.f1.length c2]] y.1 fun e w' => e = .returned (.bool true) ∧ Below y.1.heap.size y.1 w') := fun y => by
                have := refSame_any m.f0 m.f0 m.f1 m.f1 A7 A2 c7 c2 y.1 (Kd.C_below HV9.out y.2) HC7.out (Kd.C_below (Kd.F_now HC9.out.f2) y.2) HC9.out.l2
                rwa [tv_yes ⟨rfl, rfl⟩] at this
              refine wp_region_bw (by kernel_rfl) (by kernel_rfl) ?_
              repeat (go_big_quiet_step ((go_at_call 19; exact calls_bw (HSC.out _))))
              refine wpQuiet_nil ?_
              rintro _ ⟨y, rfl⟩
              have HY : Hid (Below w9.heap.size w9 y.1) := y.2
              clear s0 s1 s2 s3 HSC
              obtain ⟨w10, hw10⟩ := y
              dsimp only at HY ⊢
              clear hw10
              have L10 : Hid (w10.heap[w7.heap.size]? = some (.cells #[.int .i64 m.f0, .slice A7 m.f1.length c7] 27 (0, 0))) := blk_below L9.out HY.out
              have u0 : w10.cell? ⟨w7.heap.size, 0, none⟩ = some (.int .i64 m.f0) := blk_cell L10.out 0
              have u1 : w10.cell? ⟨w7.heap.size, 1, none⟩ = some (.slice A7 m.f1.length c7) := blk_cell L10.out 1
              go_wp2_with fail
              refine (spoil_any m.f0 (fun k => wr.heap.size ≤ k ∧ k < w7.heap.size) A7 m.f1.length c7 w10 (HSHP9.out.move (fun k hk => ⟨hk.1, hk.2.1⟩) (fun k hk => HY.out.block k (Nat.lt_of_lt_of_le hk.2.1 (Nat.le_trans HB8.out.size HW9.out.size)))) (fun k hk => Nat.lt_of_lt_of_le hk.2 (Nat.le_trans HB8.out.size (Nat.le_trans HW9.out.size HY.out.size)))).mono ?_
              rintro e w14 ⟨rfl, hw14⟩
              obtain ⟨D', hAJ⟩ := HAI.out.moved HP7.out HW7.out HB8.out HR9.out HW9.out HY.out hw14 (by rw [HEQ.out]; exact HAI.out.p.len) (by rw [HEQ.out]; exact HAI.out.p.sm)
              have HAJ := hidm hAJ
              clear hAJ hw14 HAI HP7 HW7 HB8 HR9 HW9 HY HC9 L9 L10 K9 u0 u1 HSHP9 HEQ HV9
              go_wp2_with fail
              refine (same_both D' D' pb qb ah' m be' w14 HAJ.out.p.len HAJ.out.p.sm HAJ.out.p.past HAJ.out.p.ref).mono ?_
              rintro e w99 ⟨rfl, hb99⟩
              have HAK := hidm (HAJ.out.below hb99)
              clear hb99 HAJ
              go_wp2_with fail
              go_roundw
              case rel => exact ⟨i + 1, by omega, by omega, by go_num, D', pb, qb, ah', m, be', ol, rfl, rfl, by omega, HAK⟩
              case measure => simp [intOf]; omega
            · have L9 : Hid (w9.heap[w7.heap.size]? = some (.cells #[.int .i64 (⟨0, []⟩ : S27).f0, .slice A7 (⟨0, []⟩ : S27).f1.length c7] 27 (0, 0))) := K9.out
              obtain ⟨A1, c1, A2, c2, A3, c3, hC9⟩ := HR9.out.open_
              have HC9 := hidm hC9
              clear hC9
              have s0 : ∀ y : BW w9, y.1.cell? ⟨w7.heap.size, 0, none⟩ = some (.int .i64 (⟨0, []⟩ : S27).f0) := bw_cell (blk_cell L9.out 0)
              have s1 : ∀ y : BW w9, y.1.cell? ⟨w7.heap.size, 1, none⟩ = some (.slice A7 (⟨0, []⟩ : S27).f1.length c7) := bw_cell (blk_cell L9.out 1)
              have s2 : ∀ y : BW w9, y.1.cell? ⟨qb, 1, none⟩ = some (.int .i64 h'.f0) := bw_cell (blk_cell HC9.out.blk 1)
              have s3 : ∀ y : BW w9, y.1.cell? ⟨qb, 2, none⟩ = some (.slice A2 h'.f1.length c2) := bw_cell (blk_cell HC9.out.blk 2)
              have HSC : Hid (∀ y : BW w9, Calls Try.prog 19 #[.agg #[.int .i64 0, .slice A7 0 c7], .agg #[.int .i64 0, .slice none 0 0]] y.1 fun e w' => e = .returned (.bool true) ∧ Below y.1.heap.size y.1 w') := fun y => by
                have := refSame_any 0 0 [] [] A7 none c7 0 y.1 (Kd.C_below HV9.out y.2) HC7.out (Kd.F_now (Kd.F_nil _ _ (fun _ => False))) (Nat.le_refl _)
                rwa [tv_yes ⟨rfl, rfl⟩] at this
              refine wp_region_bw (by kernel_rfl) (by kernel_rfl) ?_
              repeat (go_big_quiet_step ((go_at_call 19; exact calls_bw (HSC.out _))))
              refine wpQuiet_nil ?_
              rintro _ ⟨y, rfl⟩
              have HY : Hid (Below w9.heap.size w9 y.1) := y.2
              clear s0 s1 s2 s3 HSC
              obtain ⟨w10, hw10⟩ := y
              dsimp only at HY ⊢
              clear hw10
              have L10 : Hid (w10.heap[w7.heap.size]? = some (.cells #[.int .i64 (⟨0, []⟩ : S27).f0, .slice A7 (⟨0, []⟩ : S27).f1.length c7] 27 (0, 0))) := blk_below L9.out HY.out
              have u0 : w10.cell? ⟨w7.heap.size, 0, none⟩ = some (.int .i64 (⟨0, []⟩ : S27).f0) := blk_cell L10.out 0
              have u1 : w10.cell? ⟨w7.heap.size, 1, none⟩ = some (.slice A7 (⟨0, []⟩ : S27).f1.length c7) := blk_cell L10.out 1
              go_wp2_with fail
              refine (spoil_any (⟨0, []⟩ : S27).f0 (fun k => wr.heap.size ≤ k ∧ k < w7.heap.size) A7 (⟨0, []⟩ : S27).f1.length c7 w10 (HSHP9.out.move (fun k hk => ⟨hk.1, hk.2.1⟩) (fun k hk => HY.out.block k (Nat.lt_of_lt_of_le hk.2.1 (Nat.le_trans HB8.out.size HW9.out.size)))) (fun k hk => Nat.lt_of_lt_of_le hk.2 (Nat.le_trans HB8.out.size (Nat.le_trans HW9.out.size HY.out.size)))).mono ?_
              rintro e w14 ⟨rfl, hw14⟩
              obtain ⟨D', hAJ⟩ := HAI.out.moved HP7.out HW7.out HB8.out HR9.out HW9.out HY.out hw14 (by rw [HEQ.out]; exact HAI.out.p.len) (by rw [HEQ.out]; exact HAI.out.p.sm)
              have HAJ := hidm hAJ
              clear hAJ hw14 HAI HP7 HW7 HB8 HR9 HW9 HY HC9 L9 L10 K9 u0 u1 HSHP9 HEQ HV9
              go_wp2_with fail
              refine (same_both D' D' pb qb ah' h' be' w14 HAJ.out.p.len HAJ.out.p.sm HAJ.out.p.past HAJ.out.p.ref).mono ?_
              rintro e w99 ⟨rfl, hb99⟩
              have HAK := hidm (HAJ.out.below hb99)
              clear hb99 HAJ
              go_wp2_with fail
              go_roundw
              case rel => exact ⟨i + 1, by omega, by omega, by go_num, D', pb, qb, ah', h', be', ol, rfl, rfl, by omega, HAK⟩
              case measure => simp [intOf]; omega
          have g2 : (kd == 2) = false := by rw [beq_eq_false_iff_ne]; exact hk2
          by_cases hk3 : kd = 3
          · subst hk3
            obtain ⟨er, m, ah', h', be', hem, heq, hsm7, h17, h18⟩ := redo_both D pb qb ah h be HAI.out.p.len HAI.out.p.sm HAI.out.p.nP HAI.out.p.nQ
            have HEM := hidm hem
            have HEQ := hidm heq
            have HSM7 := hidm hsm7
            have H17 := hidm h17
            have H18 := hidm h18
            clear hem heq hsm7 h17 h18
            go_wp2_with fail
            refine (H17.out wr HAI.out.p.past).mono ?_
            rintro e w7 ⟨v, rfl, hv, hp7, hw7⟩
            obtain ⟨A7, c7, rfl, hc7, _⟩ := Kd.R_reads hv
            have HC7 := hidm hc7
            have HSHP : Hid (ShpM w7 (fun k => wr.heap.size ≤ k ∧ k < w7.heap.size) A7 m.f1.length) := shpM_of_R hv HSM7.out
            have HV := hidm hv
            have HP7 := hidm hp7
            have HW7 := hidm hw7
            have K8 : Hid ((w7.alloc (.cells #[.int .i64 m.f0, .slice A7 m.f1.length c7] 27)).heap[w7.heap.size]? = some (.cells #[.int .i64 m.f0, .slice A7 m.f1.length c7] 27 (0, 0))) := blk_new _ _
            have HB8 : Hid (Below w7.heap.size w7 (w7.alloc (.cells #[.int .i64 m.f0, .slice A7 m.f1.length c7] 27))) := below_alloc (Below.refl _ _) _
            clear hv hp7 hw7 hc7
            go_wp2_with fail
            generalize (w7.alloc (.cells #[.int .i64 m.f0, .slice A7 m.f1.length c7] 27)) = w8 at K8 HB8 ⊢
            have HR8 : Hid (RefR w8 D qb ah h be) := (HAI.out.p.ref.wr HW7.out (fun e => HAI.out.p.ne e.symm) (fun k hk _ e => HAI.out.p.nP (by rw [← e]; exact hk))).below HB8.out
            have HNP : Hid (pb < wr.heap.size ∧ qb < wr.heap.size ∧ wr.heap.size ≤ w7.heap.size) := ⟨HAI.out.p.past.lt, HAI.out.p.ref.lt, HW7.out.size⟩
            refine (H18.out w8 HR8.out (fun k hk => Nat.lt_of_lt_of_le (HAI.out.p.lt k hk) (Nat.le_trans HW7.out.size HB8.out.size))).mono ?_
            rintro e w9 ⟨rfl, hr9, hw9⟩
            have HR9 := hidm hr9
            have HW9 := hidm hw9
            have K9 : Hid (w9.heap[w7.heap.size]? = some (.cells #[.int .i64 m.f0, .slice A7 m.f1.length c7] 27 (0, 0))) := (hw9.block _ (blk_lt K8.out) (by have h2 := HNP.out; omega)).trans K8.out
            have HV9 : Hid (Kd.C k76 w9 A7 m.f1.length m.f1) := by
              obtain ⟨A99, c99, e9, _, h9⟩ := Kd.R_reads (Kd.R_step (Kd.R_bound (Kd.R_below HV.out HB8.out)) (fun k hk hlt => hw9.block k hlt (by have h1 := hk.2.1; have h2 := HNP.out; omega)))
              injection e9 with e1 _ _
              subst e1
              exact h9
            have HSHP9 : Hid (ShpM w9 (fun k => wr.heap.size ≤ k ∧ k < w7.heap.size ∧ k ≠ qb) A7 m.f1.length) := HSHP.out.move (fun k hk => ⟨hk.1, hk.2, by have h2 := HNP.out; omega⟩) (fun k hk => (hw9.block k (Nat.lt_of_lt_of_le hk.2 HB8.out.size) (by have h2 := HNP.out; omega)).trans (HB8.out.block k hk.2))
            clear hr9 hw9 HSHP HV K8 HR8 H17 H18
            go_wp2_with fail
            obtain ⟨rfl, rfl⟩ | ⟨rfl, rfl⟩ := HEM.out
            · have L9 : Hid (w9.heap[w7.heap.size]? = some (.cells #[.int .i64 m.f0, .slice A7 m.f1.length c7] 27 (0, 0))) := K9.out
              obtain ⟨A1, c1, A2, c2, A3, c3, hC9⟩ := HR9.out.open_
              have HC9 := hidm hC9
              clear hC9
              have s0 : ∀ y : BW w9, y.1.cell? ⟨w7.heap.size, 0, none⟩ = some (.int .i64 m.f0) := bw_cell (blk_cell L9.out 0)
              have s1 : ∀ y : BW w9, y.1.cell? ⟨w7.heap.size, 1, none⟩ = some (.slice A7 m.f1.length c7) := bw_cell (blk_cell L9.out 1)
              have s2 : ∀ y : BW w9, y.1.cell? ⟨qb, 1, none⟩ = some (.int .i64 m.f0) := bw_cell (blk_cell HC9.out.blk 1)
              have s3 : ∀ y : BW w9, y.1.cell? ⟨qb, 2, none⟩ = some (.slice A2 m.f1.length c2) := bw_cell (blk_cell HC9.out.blk 2)
              have HSC : Hid (∀ y : BW w9, Calls Try.prog 19 #[.agg #[.int .i64 m.f0, .slice A7 m.f1.length c7], .agg #[.int .i64 m.f0, .slice A2 m.f1.length c2]] y.1 fun e w' => e = .returned (.bool true) ∧ Below y.1.heap.size y.1 w') := fun y => by
                have := refSame_any m.f0 m.f0 m.f1 m.f1 A7 A2 c7 c2 y.1 (Kd.C_below HV9.out y.2) HC7.out (Kd.C_below (Kd.F_now HC9.out.f2) y.2) HC9.out.l2
                rwa [tv_yes ⟨rfl, rfl⟩] at this
              refine wp_region_bw (by kernel_rfl) (by kernel_rfl) ?_
              repeat (go_big_quiet_step ((go_at_call 19; exact calls_bw (HSC.out _))))
              refine wpQuiet_nil ?_
              rintro _ ⟨y, rfl⟩
              have HY : Hid (Below w9.heap.size w9 y.1) := y.2
              clear s0 s1 s2 s3 HSC
              obtain ⟨w10, hw10⟩ := y
              dsimp only at HY ⊢
              clear hw10
              have L10 : Hid (w10.heap[w7.heap.size]? = some (.cells #[.int .i64 m.f0, .slice A7 m.f1.length c7] 27 (0, 0))) := blk_below L9.out HY.out
              have u0 : w10.cell? ⟨w7.heap.size, 0, none⟩ = some (.int .i64 m.f0) := blk_cell L10.out 0
              have u1 : w10.cell? ⟨w7.heap.size, 1, none⟩ = some (.slice A7 m.f1.length c7) := blk_cell L10.out 1
              go_wp2_with fail
              refine (spoil_any m.f0 (fun k => wr.heap.size ≤ k ∧ k < w7.heap.size) A7 m.f1.length c7 w10 (HSHP9.out.move (fun k hk => ⟨hk.1, hk.2.1⟩) (fun k hk => HY.out.block k (Nat.lt_of_lt_of_le hk.2.1 (Nat.le_trans HB8.out.size HW9.out.size)))) (fun k hk => Nat.lt_of_lt_of_le hk.2 (Nat.le_trans HB8.out.size (Nat.le_trans HW9.out.size HY.out.size)))).mono ?_
              rintro e w14 ⟨rfl, hw14⟩
              obtain ⟨D', hAJ⟩ := HAI.out.moved HP7.out HW7.out HB8.out HR9.out HW9.out HY.out hw14 (by rw [HEQ.out]; exact HAI.out.p.len) (by rw [HEQ.out]; exact HAI.out.p.sm)
              have HAJ := hidm hAJ
              clear hAJ hw14 HAI HP7 HW7 HB8 HR9 HW9 HY HC9 L9 L10 K9 u0 u1 HSHP9 HEQ HV9
              go_wp2_with fail
              refine (same_both D' D' pb qb ah' m be' w14 HAJ.out.p.len HAJ.out.p.sm HAJ.out.p.past HAJ.out.p.ref).mono ?_
              rintro e w99 ⟨rfl, hb99⟩
              have HAK := hidm (HAJ.out.below hb99)
              clear hb99 HAJ
              go_wp2_with fail
              go_roundw
              case rel => exact ⟨i + 1, by omega, by omega, by go_num, D', pb, qb, ah', m, be', ol, rfl, rfl, by omega, HAK⟩
              case measure => simp [intOf]; omega
            · have L9 : Hid (w9.heap[w7.heap.size]? = some (.cells #[.int .i64 (⟨0, []⟩ : S27).f0, .slice A7 (⟨0, []⟩ : S27).f1.length c7] 27 (0, 0))) := K9.out
              obtain ⟨A1, c1, A2, c2, A3, c3, hC9⟩ := HR9.out.open_
              have HC9 := hidm hC9
              clear hC9
              have s0 : ∀ y : BW w9, y.1.cell? ⟨w7.heap.size, 0, none⟩ = some (.int .i64 (⟨0, []⟩ : S27).f0) := bw_cell (blk_cell L9.out 0)
              have s1 : ∀ y : BW w9, y.1.cell? ⟨w7.heap.size, 1, none⟩ = some (.slice A7 (⟨0, []⟩ : S27).f1.length c7) := bw_cell (blk_cell L9.out 1)
              have s2 : ∀ y : BW w9, y.1.cell? ⟨qb, 1, none⟩ = some (.int .i64 h'.f0) := bw_cell (blk_cell HC9.out.blk 1)
              have s3 : ∀ y : BW w9, y.1.cell? ⟨qb, 2, none⟩ = some (.slice A2 h'.f1.length c2) := bw_cell (blk_cell HC9.out.blk 2)
              have HSC : Hid (∀ y : BW w9, Calls Try.prog 19 #[.agg #[.int .i64 0, .slice A7 0 c7], .agg #[.int .i64 0, .slice none 0 0]] y.1 fun e w' => e = .returned (.bool true) ∧ Below y.1.heap.size y.1 w') := fun y => by
                have := refSame_any 0 0 [] [] A7 none c7 0 y.1 (Kd.C_below HV9.out y.2) HC7.out (Kd.F_now (Kd.F_nil _ _ (fun _ => False))) (Nat.le_refl _)
                rwa [tv_yes ⟨rfl, rfl⟩] at this
              refine wp_region_bw (by kernel_rfl) (by kernel_rfl) ?_
              repeat (go_big_quiet_step ((go_at_call 19; exact calls_bw (HSC.out _))))
              refine wpQuiet_nil ?_
              rintro _ ⟨y, rfl⟩
              have HY : Hid (Below w9.heap.size w9 y.1) := y.2
              clear s0 s1 s2 s3 HSC
              obtain ⟨w10, hw10⟩ := y
              dsimp only at HY ⊢
              clear hw10
              have L10 : Hid (w10.heap[w7.heap.size]? = some (.cells #[.int .i64 (⟨0, []⟩ : S27).f0, .slice A7 (⟨0, []⟩ : S27).f1.length c7] 27 (0, 0))) := blk_below L9.out HY.out
              have u0 : w10.cell? ⟨w7.heap.size, 0, none⟩ = some (.int .i64 (⟨0, []⟩ : S27).f0) := blk_cell L10.out 0
              have u1 : w10.cell? ⟨w7.heap.size, 1, none⟩ = some (.slice A7 (⟨0, []⟩ : S27).f1.length c7) := blk_cell L10.out 1
              go_wp2_with fail
              refine (spoil_any (⟨0, []⟩ : S27).f0 (fun k => wr.heap.size ≤ k ∧ k < w7.heap.size) A7 (⟨0, []⟩ : S27).f1.length c7 w10 (HSHP9.out.move (fun k hk => ⟨hk.1, hk.2.1⟩) (fun k hk => HY.out.block k (Nat.lt_of_lt_of_le hk.2.1 (Nat.le_trans HB8.out.size HW9.out.size)))) (fun k hk => Nat.lt_of_lt_of_le hk.2 (Nat.le_trans HB8.out.size (Nat.le_trans HW9.out.size HY.out.size)))).mono ?_
              rintro e w14 ⟨rfl, hw14⟩
              obtain ⟨D', hAJ⟩ := HAI.out.moved HP7.out HW7.out HB8.out HR9.out HW9.out HY.out hw14 (by rw [HEQ.out]; exact HAI.out.p.len) (by rw [HEQ.out]; exact HAI.out.p.sm)
              have HAJ := hidm hAJ
              clear hAJ hw14 HAI HP7 HW7 HB8 HR9 HW9 HY HC9 L9 L10 K9 u0 u1 HSHP9 HEQ HV9
              go_wp2_with fail
              refine (same_both D' D' pb qb ah' h' be' w14 HAJ.out.p.len HAJ.out.p.sm HAJ.out.p.past HAJ.out.p.ref).mono ?_
              rintro e w99 ⟨rfl, hb99⟩
              have HAK := hidm (HAJ.out.below hb99)
              clear hb99 HAJ
              go_wp2_with fail
              go_roundw
              case rel => exact ⟨i + 1, by omega, by omega, by go_num, D', pb, qb, ah', h', be', ol, rfl, rfl, by omega, HAK⟩
              case measure => simp [intOf]; omega
          have g3 : (kd == 3) = false := by rw [beq_eq_false_iff_ne]; exact hk3
          by_cases hk4 : kd = 4
          · subst hk4
            obtain ⟨Ao, co, hos⟩ := Kd.N_slice HAI.out.os
            obtain ⟨Aw, cw, hws⟩ := Kd.N_slice HAI.out.ws
            rw [List.length_map] at hos hws
            subst hos hws
            have HFR : Hid (∀ k, wr.heap.size ≤ k → ¬ D k ∧ k ≠ pb ∧ k ≠ qb) := fun k hk => ⟨fun h => by have := HAI.out.p.lt k h; omega, by have := HAI.out.p.past.lt; omega, by have := HAI.out.p.ref.lt; omega⟩
            go_wp2_with (first
              | (at_builtin; refine Kd.N_append kP (w0 := w) w.heap.size rfl (.tmp 173) (.tmp 175) 37 29 (.pointer none) 8 rfl Try.underlying37 info29 rfl (by decide) (by decide) (.slice Ao ol.length co) (ol.map Prod.fst) pb [.pointer (some ⟨pb, 0, none⟩)] (fun k => ¬ D k ∧ k ≠ pb ∧ k ≠ qb) (fun _ => False) rfl rfl (kP_FK _ _ _) (fun _ h => h.elim) HFR.out HAI.out.os HAI.out.p.b HAI.out.p.b.size (by simp; omega) ?_
                 intro v1 w8 hN hB hg hat
                 have HP8 := hidm (HAI.out.p.grown HAI.out.os hg hB)
                 have HW8 := hidm (LP.other HAI.out.os HAI.out.ws (by decide) hg)
                 have HO8 := hidm hN
                 have HOLD8 : Hid (∀ o ∈ ol, OldOK w8 D o) := fun o ho => (HAI.out.olds o ho).grown HAI.out.os hg
                 have HFR8 : Hid (∀ k, w8.heap.size ≤ k → ¬ D k ∧ k ≠ pb ∧ k ≠ qb) := fun k hk => HFR.out k (Nat.le_trans hg.size hk)
                 clear hN hB hg hat HAI HFR)
              | (at_builtin; refine Kd.N_append kP (w0 := w) w.heap.size rfl (.tmp 177) (.tmp 179) 38 33 (.pointer none) 8 rfl Try.underlying38 info33 rfl (by decide) (by decide) (.slice Aw ol.length cw) (ol.map Prod.snd) qb [.pointer (some ⟨qb, 0, none⟩)] (fun k => ¬ D k ∧ k ≠ pb ∧ k ≠ qb) (fun _ => False) rfl rfl (kP_FK _ _ _) (fun _ h => h.elim) HFR8.out HW8.out HP8.out.b HP8.out.b.size (by simp; omega) ?_
                 intro v2 w9 hN hB hg hat
                 have HP9 := hidm (HP8.out.grown HW8.out hg hB)
                 have HO9 := hidm (LP.other HW8.out HO8.out (by decide) hg)
                 have HW9 := hidm hN
                 have HOLD9 : Hid (∀ o ∈ ol, OldOK w9 D o) := fun o ho => (HOLD8.out o ho).grown HW8.out hg
                 clear hN hB hg hat HP8 HO8 HW8 HOLD8 HFR8))
            obtain ⟨ad, cp, hblk, hcp, hF⟩ := HP9.out.past
            have HBLK := hidm hblk
            have HF := hidm hF
            have HLE : Hid ((ah ++ h :: be).length ≤ 65) := HP9.out.len
            refine (copy_any pb ad (ah ++ h :: be).length cp ah.length w9 hblk (by simp) (by have := HLE.out; omega) hcp).mono ?_
            clear hblk hcp hF
            rintro e w10 ⟨pb', rfl, hpb', hblk', hb10⟩
            have HPB := hidm hpb'
            have HBLK' := hidm hblk'
            have HB10 := hidm hb10
            clear hpb' hblk' hb10
            go_wp2_with fail
            refine (refCopy_any qb D ah h be w10 (HP9.out.ref.below HB10.out) (fun k hk => Nat.lt_of_lt_of_le (HP9.out.lt k hk) HB10.out.size) (by have := HLE.out; simp at this; omega) (by have := HLE.out; simp at this; omega)).mono ?_
            rintro e w14 ⟨qb', rfl, hqb', hr, hb14⟩
            obtain ⟨D', hAJ⟩ := AI.copied HP9.out HO9.out HW9.out HOLD9.out HF.out HPB.out HBLK'.out HB10.out hqb' hr hb14
            have HAJ := hidm hAJ
            clear hAJ hqb' hr hb14 HP9 HO9 HW9 HOLD9 HF HPB HBLK' HB10 HBLK HLE
            go_wp2_with fail
            refine (same_both D' D' pb' qb' ah h be w14 HAJ.out.p.len HAJ.out.p.sm HAJ.out.p.past HAJ.out.p.ref).mono ?_
            rintro e w99 ⟨rfl, hb99⟩
            have HAK := hidm (HAJ.out.below hb99)
            clear hb99 HAJ
            go_wp2_with fail
            go_roundw
            case rel => exact ⟨i + 1, by omega, by omega, by go_num, D', pb', qb', ah, h, be, (ol ++ [(pb, qb)]), rfl, rfl, by simp; omega, HAK⟩
            case measure => simp [intOf]; omega
          have g4 : (kd == 4) = false := by rw [beq_eq_false_iff_ne]; exact hk4
          clear hk2 hk3 hk4
          have HAJ := HAI
          obtain ⟨D', hD'⟩ : ∃ D', D' = D := ⟨_, rfl⟩
          subst hD'
          clear HAI
          go_wp2_with fail
          refine (same_both D' D' pb qb ah h be wr HAJ.out.p.len HAJ.out.p.sm HAJ.out.p.past HAJ.out.p.ref).mono ?_
          rintro e w99 ⟨rfl, hb99⟩
          have HAK := hidm (HAJ.out.below hb99)
          clear hb99 HAJ
          go_wp2_with fail
          go_roundw
          case rel => exact ⟨i + 1, by omega, by omega, by go_num, D', pb, qb, ah, h, be, ol, rfl, rfl, by omega, HAK⟩
          case measure => simp [intOf]; omega
        · have hl1 : (i : Int) < (acts.length : Int) := by omega
          have hl2 : ¬ (i : Int) < 200 := by omega
          obtain ⟨Ao, co, hos⟩ := Kd.N_slice HAI.out.os
          obtain ⟨Aw, cw, hws⟩ := Kd.N_slice HAI.out.ws
          rw [List.length_map] at hos hws
          subst hos hws
          go_wp2_with fail
          obtain ⟨wo, rfl⟩ : ∃ wo : World, wo = wr := ⟨_, rfl⟩
          go_loopw [21] (fun v W => ∃ k : Nat, k ≤ ol.length ∧ v = .int .i64 k ∧ Hid (AI w W D pb qb ah h be (.slice Ao ol.length co) (.slice Aw ol.length cw) ol)) (fun v _ => ol.length - (intOf v).toNat)
          case atStart => exact ⟨0, Nat.zero_le _, rfl, HAI⟩
          case round =>
            clear HAI
            obtain ⟨k, hk, rfl, HAI⟩ := hrel
            by_cases hltk : k < ol.length
            · have hk0 : (0 : Int) ≤ (k : Int) := by omega
              have hk1 : (k : Int) < (ol.length : Int) := by omega
              have hCo := (Kd.N_reads' HAI.out.os).2.2
              have hCw := (Kd.N_reads' HAI.out.ws).2.2
              obtain ⟨ao, rfl, x0⟩ := kP_at hCo k (by rw [List.length_map]; exact hltk)
              obtain ⟨aw, rfl, x1⟩ := kP_at hCw k (by rw [List.length_map]; exact hltk)
              obtain ⟨o, ho⟩ : ∃ o, o = ol[k] := ⟨_, rfl⟩
              have e0 : (ol.map Prod.fst).getD k 0 = o.1 := by rw [ho]; simp [List.getD_eq_getElem?_getD, List.getElem?_eq_getElem hltk]
              have e1 : (ol.map Prod.snd).getD k 0 = o.2 := by rw [ho]; simp [List.getD_eq_getElem?_getD, List.getElem?_eq_getElem hltk]
              rw [e0] at x0
              rw [e1] at x1
              have hom : o ∈ ol := by rw [ho]; exact List.getElem_mem hltk
              obtain ⟨_, _, oa, oh, ob, ol5, osm, opast, oref⟩ := HAI.out.olds o hom
              have HSC : Hid (∀ y : BW wr, Calls Try.prog 24 #[.pointer (some ⟨o.1, 0, none⟩), .pointer (some ⟨o.2, 0, none⟩)] y.1 fun e w' => e = .returned (.bool true) ∧ Below y.1.heap.size y.1 w') := fun y => same_both D D o.1 o.2 oa oh ob y.1 ol5 osm (opast.below y.2) (oref.below y.2)
              have s0 : ∀ y : BW wr, y.1.cell? (ao.add k) = some (.pointer (some ⟨o.1, 0, none⟩)) := bw_cell x0
              have s1 : ∀ y : BW wr, y.1.cell? (aw.add k) = some (.pointer (some ⟨o.2, 0, none⟩)) := bw_cell x1
              clear x0 x1 hCo hCw e0 e1 ho hom ol5 osm opast oref
              go_wp2_with fail
              refine wp_region_bw (by kernel_rfl) (by kernel_rfl) ?_
              repeat (go_big_quiet_step ((go_at_call 24; exact calls_bw (HSC.out _))))
              refine wpQuiet_nil ?_
              rintro _ ⟨y, rfl⟩
              have HAK := hidm (HAI.out.below y.2)
              clear s0 s1 HSC HAI
              obtain ⟨w10, hw10⟩ := y
              dsimp only at HAK ⊢
              clear hw10
              go_wp2_with fail
              go_roundw
              case rel => exact ⟨k + 1, by omega, by go_num, HAK⟩
              case measure => simp [intOf]; omega
            · have HBB : Hid (Below w.heap.size w wr) := HAI.out.p.b
              have hk1 : ¬ (k : Int) < (ol.length : Int) := by omega
              clear HAI
              go_wp2_with fail
              go_ret
              exact ⟨rfl, HBB.out⟩
      · have hl1 : ¬ (i : Int) < (acts.length : Int) := by omega
        obtain ⟨Ao, co, hos⟩ := Kd.N_slice HAI.out.os
        obtain ⟨Aw, cw, hws⟩ := Kd.N_slice HAI.out.ws
        rw [List.length_map] at hos hws
        subst hos hws
        go_wp2_with fail
        obtain ⟨wo, rfl⟩ : ∃ wo : World, wo = wr := ⟨_, rfl⟩
        go_loopw [21] (fun v W => ∃ k : Nat, k ≤ ol.length ∧ v = .int .i64 k ∧ Hid (AI w W D pb qb ah h be (.slice Ao ol.length co) (.slice Aw ol.length cw) ol)) (fun v _ => ol.length - (intOf v).toNat)
        case atStart => exact ⟨0, Nat.zero_le _, rfl, HAI⟩
        case round =>
          clear HAI
          obtain ⟨k, hk, rfl, HAI⟩ := hrel
          by_cases hltk : k < ol.length
          · have hk0 : (0 : Int) ≤ (k : Int) := by omega
            have hk1 : (k : Int) < (ol.length : Int) := by omega
            have hCo := (Kd.N_reads' HAI.out.os).2.2
            have hCw := (Kd.N_reads' HAI.out.ws).2.2
            obtain ⟨ao, rfl, x0⟩ := kP_at hCo k (by rw [List.length_map]; exact hltk)
            obtain ⟨aw, rfl, x1⟩ := kP_at hCw k (by rw [List.length_map]; exact hltk)
            obtain ⟨o, ho⟩ : ∃ o, o = ol[k] := ⟨_, rfl⟩
            have e0 : (ol.map Prod.fst).getD k 0 = o.1 := by rw [ho]; simp [List.getD_eq_getElem?_getD, List.getElem?_eq_getElem hltk]
            have e1 : (ol.map Prod.snd).getD k 0 = o.2 := by rw [ho]; simp [List.getD_eq_getElem?_getD, List.getElem?_eq_getElem hltk]
            rw [e0] at x0
            rw [e1] at x1
            have hom : o ∈ ol := by rw [ho]; exact List.getElem_mem hltk
            obtain ⟨_, _, oa, oh, ob, ol5, osm, opast, oref⟩ := HAI.out.olds o hom
            have HSC : Hid (∀ y : BW wr, Calls Try.prog 24 #[.pointer (some ⟨o.1, 0, none⟩), .pointer (some ⟨o.2, 0, none⟩)] y.1 fun e w' => e = .returned (.bool true) ∧ Below y.1.heap.size y.1 w') := fun y => same_both D D o.1 o.2 oa oh ob y.1 ol5 osm (opast.below y.2) (oref.below y.2)
            have s0 : ∀ y : BW wr, y.1.cell? (ao.add k) = some (.pointer (some ⟨o.1, 0, none⟩)) := bw_cell x0
            have s1 : ∀ y : BW wr, y.1.cell? (aw.add k) = some (.pointer (some ⟨o.2, 0, none⟩)) := bw_cell x1
            clear x0 x1 hCo hCw e0 e1 ho hom ol5 osm opast oref
            go_wp2_with fail
            refine wp_region_bw (by kernel_rfl) (by kernel_rfl) ?_
            repeat (go_big_quiet_step ((go_at_call 24; exact calls_bw (HSC.out _))))
            refine wpQuiet_nil ?_
            rintro _ ⟨y, rfl⟩
            have HAK := hidm (HAI.out.below y.2)
            clear s0 s1 HSC HAI
            obtain ⟨w10, hw10⟩ := y
            dsimp only at HAK ⊢
            clear hw10
            go_wp2_with fail
            go_roundw
            case rel => exact ⟨k + 1, by omega, by go_num, HAK⟩
            case measure => simp [intOf]; omega
          · have HBB : Hid (Below w.heap.size w wr) := HAI.out.p.b
            have hk1 : ¬ (k : Int) < (ol.length : Int) := by omega
            clear HAI
            go_wp2_with fail
            go_ret
            exact ⟨rfl, HBB.out⟩
  · have HK := hidm hk
    refine (new_no (rd_T27 l 0).f0 A8 (rd_T27 l 0).f1 c8 w3 HV3.out HWF.out hk).mono ?_
    clear hk
    rintro e w4 ⟨rfl, hb4⟩
    have HB4 : Hid (Below w.heap.size w w4) := below_step (below_step HB2.out HB3.out) hb4
    have q0 : w4.cell? ad = some (.int .i64 (rd_T27 l 0).f0) := pw_cell_below HB4.out Z0.out
    have q1 : w4.cell? ⟨ad.block, ad.off + 1, none⟩ = some (.slice A0 (rd_T27 l 0).f1.length c0) := pw_cell_below HB4.out Z1.out
    clear hb4
    go_wp2_with fail
    refine (refNew_any (rd_T27 l 0).f0 A0 (rd_T27 l 0).f1 c0 w4 (Kd.C_below (Kd.F_now HF0.out) HB4.out) HC0.out HSM.out).mono ?_
    rw [tv_no HK.out]
    rintro e w5 ⟨qb, rfl, _, _, hb5⟩
    have HB5 : Hid (Below w.heap.size w w5) := below_step HB4.out hb5
    clear hb5 q0 q1
    go_wp2_with fail
    go_ret
    exact ⟨rfl, HB5.out⟩
end Go.Proofs.Ytlopfkkegjajlaa
