/- Texts of this proof and of the kit's print for this seat, gathered by wip/shake.py: only what the proof reaches. -/
import Derived.Test.YtlopfkkegjajlaaZf5
import Derived.Deep.Cut
namespace Go.Proofs.Ytlopfkkegjajlaa
open Go.RowKit Go.Proofs.YtlopfkkegjajlaaW.PrintWords PHistoryTouched
theorem TwL.scal {W : World} {B g m c : Nat} {l : List S76} {lab : Nat → Nat} {inner : List Value} (h : TwL W B l (.slice (some ⟨g, 0, none⟩) m c) lab inner) {q : Nat} (hq : q < l.length) (p : Int) (r : ByteArray) :
    (∀ i, W.frozen? ⟨g, i, none⟩ = false) ∧ W.cell? ⟨g, q * 7 + 2, none⟩ = some (.int .i64 (rd_T76 l q).f2) ∧ W.cell? ⟨g, q * 7 + 3, none⟩ = some (.string (rd_T76 l q).f3) ∧
    ∃ lab' inner', TwL ((W.setCell ⟨g, q * 7 + 2, none⟩ (.int .i64 p)).setCell ⟨g, q * 7 + 3, none⟩ (.string r)) B (l.set q { rd_T76 l q with f2 := p, f3 := r }) (.slice (some ⟨g, 0, none⟩) m c) lab' inner' := by
  obtain ⟨v4, v5, v6, he, h4, h5, h6, hc, hf⟩ := h.at_ hq
  refine ⟨hf, hc 2 _ (by rw [he]; rfl), hc 3 _ (by rw [he]; rfl), ?_⟩
  obtain ⟨lab1, h1⟩ := h.put hq (i := 2) (by omega) (n := { rd_T76 l q with f2 := p }) (u := .int .i64 p) (Wr.refl _ _) (by
    rw [he]
    exact k76_mkM _ _ _ { rd_T76 l q with f2 := p } (Kd.R_mono h4 (fun _ hk => .inl hk)) (Kd.R_mono h5 (fun _ hk => .inl hk)) (Kd.R_mono h6 (fun _ hk => .inl hk)))
  obtain ⟨u4, u5, u6, he1, g4, g5, g6, _, _⟩ := h1.at_ (q := q) (by simpa using hq)
  obtain ⟨lab2, h2⟩ := h1.put (q := q) (by simpa using hq) (i := 3) (by omega) (n := { rd_T76 l q with f2 := p, f3 := r }) (u := .string r) (Wr.refl _ _) (by
    rw [he1]
    rw [rd_set_self _ hq] at g4 g5 g6 ⊢
    exact k76_mkM _ _ _ { rd_T76 l q with f2 := p, f3 := r } (Kd.R_mono g4 (fun _ hk => .inl hk)) (Kd.R_mono g5 (fun _ hk => .inl hk)) (Kd.R_mono g6 (fun _ hk => .inl hk)))
  rw [List.set_set] at h2
  exact ⟨lab2, _, h2⟩
theorem TwL.step5 {w7 : World} {B g m cv : Nat} {l : List S76} {lab : Nat → Nat} {inner : List Value} (HT : TwL w7 B l (.slice (some ⟨g, 0, none⟩) m cv) lab inner) {q : Nat} (hq : q < l.length) {ks : List Int} (hks : (rd_T76 l q).f5 = ks) :
    ∃ A5 c5, w7.cell? ⟨g, q * 7 + 5, none⟩ = some (.slice A5 ks.length c5) ∧ w7.ownsRow B 3 1 (.slice A5 ks.length c5) ks.length (ks.map (Value.int .i64)) ∧ B ≤ w7.heap.size ∧ B ≤ g ∧
      ∀ w9 v' qs, Wr (fun k => (Value.slice A5 ks.length c5).ownBlock = some k) w7 w9 → (Kd.int .i64).R 3 w9 B (fun k => (Value.slice A5 ks.length c5).ownBlock = some k ∨ w7.heap.size ≤ k) v' qs → w9.cell? ⟨g, q * 7 + 5, none⟩ = some (.slice A5 ks.length c5) ∧ w9.frozen? ⟨g, q * 7 + 5, none⟩ = false ∧
        (∃ lab' inner', TwL (w9.setCell ⟨g, q * 7 + 5, none⟩ v') B (l.set q { rd_T76 l q with f5 := qs }) (.slice (some ⟨g, 0, none⟩) m cv) lab' inner') ∧ (∀ (k t : Nat) (cells : Array Value), w7.heap[k]? = some (.cells cells t (0, 0)) → t ≠ 76 → t ≠ 3 → (w9.setCell ⟨g, q * 7 + 5, none⟩ v').heap[k]? = some (.cells cells t (0, 0))) := by
  subst hks
  obtain ⟨v4, v5, v6, he7, h4, h5, h6, hc, hfz⟩ := HT.at_ hq
  obtain ⟨A5, c5, rfl, _, _⟩ := Kd.R_reads h5
  have p4 := hc 5 _ (by rw [he7]; rfl)
  have HO4 := inner_ints h5
  refine ⟨A5, c5, p4, HO4, Nat.le_of_lt (Nat.lt_of_le_of_lt (own_base HT.own g rfl) (own_lt HT.own g rfl)), own_base HT.own g rfl, fun w9 v' qs hw hu => ?_⟩
  have hgk : w9.heap[g]? = w7.heap[g]? := hw.block g (own_lt HT.own g rfl) (fun e => by
    have h0 := HT.lab0 g rfl
    have h1 := h5.1 g e
    omega)
  refine ⟨(World.cell?_of_block (a := ⟨g, q * 7 + 5, none⟩) hgk).trans p4, (World.frozen?_of_block (a := ⟨g, q * 7 + 5, none⟩) hgk).trans (hfz _), HT.kids hq he7 h4 h5 h6 hw hu, fun k t cells hk h76 h3 => ?_⟩
  have hne : k ≠ g := fun e => by
    obtain ⟨cs, hcs⟩ := own_typed HT.own g rfl
    rw [← e, hk] at hcs
    injection hcs with hcs
    injection hcs with _ hcs
    exact h76 hcs
  rw [Below.heap_setCell w9 ⟨g, q * 7 + 5, none⟩ v' k hne, hw.block k (blk_lt hk) (fun e => by
    obtain ⟨cs, hcs⟩ := own_typed HO4 k e
    rw [hk] at hcs
    injection hcs with hcs
    injection hcs with _ hcs
    exact h3 hcs)]
  exact hk
theorem set_last {l : List S76} {n x : S76} : (l ++ [n]).set l.length x = l ++ [x] := by
  rw [List.set_append_right _ _ (Nat.le_refl _)]; simp
theorem set_mid {l : List S76} {n x : S76} {q : Nat} (h : q < l.length) : (l ++ [n]).set q x = l.set q x ++ [n] := by
  rw [List.set_append_left _ _ h]
theorem ids_snoc {l : List S76} {n : S76} (h : IdsUp l) (hlt : ∀ j : Nat, j < l.length → (rd_T76 l j).f0 < n.f0) (h1 : 1 ≤ n.f0) (h2 : n.f0 ≤ 1048576) : IdsUp (l ++ [n]) := by
  have hl : (l ++ [n]).length = l.length + 1 := by simp
  refine ⟨fun i j hij hj => ?_, fun i hi => ?_, fun i hi => ?_⟩ <;> rw [hl] at *
  · rw [rd_left (by omega)]
    rcases Nat.lt_or_ge j l.length with hj' | hj'
    · rw [rd_left hj']; exact h.up i j hij hj'
    · obtain rfl : j = l.length := by omega
      rw [rd_last]; exact hlt i hij
  · rcases Nat.lt_or_ge i l.length with hi' | hi'
    · rw [rd_left hi']; exact h.lo i hi'
    · obtain rfl : i = l.length := by omega
      rw [rd_last]; exact h1
  · rcases Nat.lt_or_ge i l.length with hi' | hi'
    · rw [rd_left hi']; exact h.hi i hi'
    · obtain rfl : i = l.length := by omega
      rw [rd_last]; exact h2
def HungP (par nx : Int) (l : List S76) (n : S76) (role : ByteArray) (l' : List S76) : Prop := (par = 0 ∧ l' = l ++ [{ n with f2 := par, f3 := role }]) ∨ (par ≠ 0 ∧ ∃ q i, q < l.length ∧ (rd_T76 l (q : Nat)).f0 = par ∧ l' = l.set q { rd_T76 l q with f5 := (rd_T76 l q).f5.take i ++ [nx] ++ (rd_T76 l q).f5.drop i } ++ [{ n with f2 := par, f3 := role }])
def HangPost (l3 : List S76 → Prop) (v : Value) (B : Nat) (w : World) (e : Ending) (w' : World) : Prop := e = .returned (.tuple #[]) ∧ Below B w w' ∧ (∀ (k : Nat) (cells : Array Value), w.heap[k]? = some (.cells cells 27 (0, 0)) → w'.heap[k]? = some (.cells cells 27 (0, 0))) ∧ ∃ lab' inner' l', l3 l' ∧ TwL w' B l' v lab' inner'
set_option maxRecDepth 100000 in
set_option maxHeartbeats 8000000 in
theorem hang_any (my nx par : Int) (g m cv : Nat) (l : List S76) (n : S76) (role : ByteArray) (B : Nat) (lab : Nat → Nat) (inner : List Value) (w : World) (ht : TwL w B (l ++ [n]) (.slice (some ⟨g, 0, none⟩) m cv) lab inner) (hm : m = l.length + 1) (hs : IdsUp l) (hlt : ∀ j : Nat, j < l.length → (rd_T76 l j).f0 < nx) (hx1 : 1 ≤ nx) (hx2 : nx ≤ 1048576) (hl : l.length < 4096) (hn : n.f0 = nx)
    (hp : par = 0 ∨ ∃ q, KidsIn l q ∧ (rd_T76 l q).f0 = par) (hi : I64 par) :
    Calls Try.prog 63 #[.agg #[.int .i64 my, .slice (some ⟨g, 0, none⟩) m cv], .int .i64 nx, .int .i64 par, .string role, .int .i64 0] w
      (HangPost (HungP par nx l n role) (.slice (some ⟨g, 0, none⟩) m cv) B w) := by
  subst hm
  have hL : ∀ x : S76, (l ++ [x]).length = l.length + 1 := fun x => by simp
  have HIDS : Hid (∀ x : S76, x.f0 = nx → IdsUp (l ++ [x])) := fun x hx => ids_snoc hs (fun j hj => by rw [hx]; exact hlt j hj) (by rw [hx]; exact hx1) (by rw [hx]; exact hx2)
  have HB0 : Hid (Below w.heap.size w (w.alloc (.cells #[.int .i64 my, .slice (some ⟨g, 0, none⟩) (l.length + 1) cv] 27))) := below_alloc (Below.refl _ _) _
  have K0 : Hid ((w.alloc (.cells #[.int .i64 my, .slice (some ⟨g, 0, none⟩) (l.length + 1) cv] 27)).heap[w.heap.size]? = some (.cells #[.int .i64 my, .slice (some ⟨g, 0, none⟩) (l.length + 1) cv] 27 (0, 0))) := blk_new _ _
  have HT := hidm (ht.below (below_alloc (Below.refl _ _) (.cells #[.int .i64 my, .slice (some ⟨g, 0, none⟩) (l.length + 1) cv] 27)))
  have HI := hidm hi
  have HP := hidm hp
  have HNX : Hid (I64 nx) := ⟨by omega, by omega⟩
  have HBW : Hid (B ≤ w.heap.size ∧ B ≤ g ∧ g < w.heap.size) := ⟨Nat.le_of_lt (Nat.lt_of_le_of_lt (own_base ht.own g rfl) (own_lt ht.own g rfl)), own_base ht.own g rfl, own_lt ht.own g rfl⟩
  have H27 : Hid (∀ (k : Nat) (cells : Array Value), w.heap[k]? = some (.cells cells 27 (0, 0)) → k ≠ g) := fun k cells hk e => by
    obtain ⟨cs, hcs⟩ := own_typed ht.own g rfl
    rw [← e, hk] at hcs; cases hcs
  have HLL := hidm hL
  clear ht hs hi hp hL hlt
  go_enter Try.func63, Try.ntmps63
  go_wp2_with fail
  generalize (w.alloc (.cells #[.int .i64 my, .slice (some ⟨g, 0, none⟩) (l.length + 1) cv] 27)) = W at HB0 K0 HT ⊢
  have y0 : ∀ x : BW W, x.1.cell? ⟨w.heap.size, 0, none⟩ = some (.int .i64 my) := bw_cell (blk_cell K0.out 0)
  have y1 : ∀ x : BW W, x.1.cell? ⟨w.heap.size, 1, none⟩ = some (.slice (some ⟨g, 0, none⟩) (l.length + 1) cv) := bw_cell (blk_cell K0.out 1)
  have HPL : Hid (∀ x : BW W, Calls Try.prog 54 #[.agg #[.int .i64 my, .slice (some ⟨g, 0, none⟩) (l.length + 1) cv], .int .i64 nx] x.1 fun e w' => e = .returned (.int .i64 (l.length : Nat)) ∧ Below x.1.heap.size x.1 w') := fun x => by
    have := place_at my (some ⟨g, 0, none⟩) (l ++ [n]) cv nx x.1 (Kd.C_below HT.out.C x.2) (HIDS.out n hn) (by rw [HLL.out]; omega) HNX.out l.length (by rw [HLL.out]; omega) (by rw [rd_last]; exact hn)
    rwa [HLL.out] at this
  have hl0 : (0 : Int) ≤ (l.length : Int) := by omega
  have hl1 : (l.length : Int) < ((l.length + 1 : Nat) : Int) := by omega
  refine wp_region_bwt 6 (by kernel_rfl) (by kernel_rfl) ?_
  simp only [List.take_succ_cons, List.take_zero, List.drop_succ_cons, List.drop_zero]
  repeat (go_big_quiet_step ((go_at_call 54; exact calls_bw (HPL.out _))))
  refine wpQuiet_nil ?_
  rintro _ ⟨x, rfl⟩
  clear y0 y1 HPL
  replace K0 := hidm (blk_below K0.out x.2)
  replace HB0 := hidm (below_step HB0.out x.2)
  replace HT := hidm (HT.out.below x.2)
  obtain ⟨W2, hw2⟩ := x
  dsimp only at K0 HB0 HT ⊢
  clear hw2 W
  obtain ⟨ff, c2, c3, lab1, inner1, ht1⟩ := HT.out.scal (q := l.length) (by rw [HLL.out]; omega) par role
  rw [set_last, rd_last] at ht1
  rw [rd_last] at c2 c3
  obtain ⟨n1, HN1⟩ : ∃ n1, Hid (({ n with f2 := par, f3 := role } : S76) = n1) := ⟨_, rfl⟩
  rw [HN1.out] at ht1
  have HN1X : Hid (n1.f0 = nx) := by rw [← HN1.out]; exact hn
  obtain ⟨W3, hW3⟩ : ∃ W3, (W2.setCell ⟨g, l.length * 7 + 2, none⟩ (.int .i64 par)).setCell ⟨g, l.length * 7 + 3, none⟩ (.string role) = W3 := ⟨_, rfl⟩
  rw [hW3] at ht1
  have HT3 := hidm ht1
  have HB3 : Hid (Below B w W3) := by rw [← hW3]; exact ((HB0.out.mono HBW.out.1).setCell HBW.out.2.1 _).setCell HBW.out.2.1 _
  have HF3 : Hid (∀ (k : Nat) (cells : Array Value), W2.heap[k]? = some (.cells cells 27 (0, 0)) → k ≠ g → W3.heap[k]? = some (.cells cells 27 (0, 0))) := fun k cells hk hne => by
    rw [← hW3]
    exact blk_far (blk_far hk hne _) hne _
  have H273 : Hid (∀ (k : Nat) (cells : Array Value), w.heap[k]? = some (.cells cells 27 (0, 0)) → W3.heap[k]? = some (.cells cells 27 (0, 0))) := fun k cells hk => HF3.out k cells (blk_below hk HB0.out) (H27.out k cells hk)
  have K3 : Hid (W3.heap[w.heap.size]? = some (.cells #[.int .i64 my, .slice (some ⟨g, 0, none⟩) (l.length + 1) cv] 27 (0, 0))) := HF3.out _ _ K0.out (by have := HBW.out.2.2; omega)
  clear ht1 HT HF3 HB0 K0 H27
  rcases HP.out with h0 | ⟨q, hk, he⟩
  · have hp : (par == 0) = true := by simp [h0]
    have HPP : Hid (HangPost (HungP par nx l n role) (.slice (some ⟨g, 0, none⟩) (l.length + 1) cv) B w (.returned (.tuple #[])) W3) := ⟨rfl, HB3.out, H273.out, lab1, inner1, _, .inl ⟨h0, rfl⟩, by rw [HN1.out]; exact HT3.out⟩
    clear h0
    go_wp2_with fail
    simp [bodyPost, results, Try.results63, go_sem]
    exact HPP.out
  · have HKI := hidm hk
    have HE := hidm he
    have hq := hk.at_
    have hpne : par ≠ 0 := by rw [← he]; have := hk.ids.lo q hq; omega
    have HPN := hidm hpne
    have hp : (par == 0) = false := by rw [beq_eq_false_iff_ne]; exact hpne
    have HKI2 : Hid (KidsIn (l ++ [n1]) q) := ⟨HIDS.out n1 HN1X.out, by rw [HLL.out]; omega, by rw [HLL.out]; omega, fun j hj => by
      rw [rd_left hq] at hj ⊢
      obtain ⟨p, hp', e⟩ := hk.kids j hj
      exact ⟨p, by rw [HLL.out]; omega, by rw [rd_left hp']; exact e⟩, by rw [rd_left hq]; exact hk.n⟩
    have q0 : W3.cell? ⟨w.heap.size, 0, none⟩ = some (.int .i64 my) := blk_cell K3.out 0
    have q1 : W3.cell? ⟨w.heap.size, 1, none⟩ = some (.slice (some ⟨g, 0, none⟩) (l.length + 1) cv) := blk_cell K3.out 1
    have hsp := spot_any my (some ⟨g, 0, none⟩) (l ++ [n1]) cv q par role W3 HT3.out.C HKI2.out (by rw [rd_left hq]; exact HE.out) HI.out
    rw [HLL.out, rd_left hq] at hsp
    have HSP := hidm hsp
    clear hk he hpne hsp
    go_wp2_with fail
    clear q0 q1 ff c2 c3 hW3
    refine HSP.out.mono ?_
    rintro e W4 ⟨i, hi, rfl, hb⟩
    have hb3 := HB3.out.size
    replace HB3 := hidm (HB3.out.trans (hb.mono (Nat.le_trans HBW.out.1 hb3)))
    replace H273 : Hid (∀ (k : Nat) (cells : Array Value), w.heap[k]? = some (.cells cells 27 (0, 0)) → W4.heap[k]? = some (.cells cells 27 (0, 0))) := fun k cells hk => blk_below (H273.out k cells hk) hb
    replace K3 := hidm (blk_below K3.out hb)
    replace HT3 := hidm (HT3.out.below hb)
    clear hb HSP hb3
    go_wp2_with fail
    have y0 : ∀ x : BW W4, x.1.cell? ⟨w.heap.size, 0, none⟩ = some (.int .i64 my) := bw_cell (blk_cell K3.out 0)
    have y1 : ∀ x : BW W4, x.1.cell? ⟨w.heap.size, 1, none⟩ = some (.slice (some ⟨g, 0, none⟩) (l.length + 1) cv) := bw_cell (blk_cell K3.out 1)
    have HPL : Hid (∀ x : BW W4, Calls Try.prog 54 #[.agg #[.int .i64 my, .slice (some ⟨g, 0, none⟩) (l.length + 1) cv], .int .i64 par] x.1 fun e w' => e = .returned (.int .i64 (q : Nat)) ∧ Below x.1.heap.size x.1 w') := fun x => by
      have := place_at my (some ⟨g, 0, none⟩) (l ++ [n1]) cv par x.1 (Kd.C_below HT3.out.C x.2) (HIDS.out n1 HN1X.out) (by rw [HLL.out]; omega) HI.out q (by rw [HLL.out]; omega) (by rw [rd_left hq]; exact HE.out)
      rwa [HLL.out] at this
    have hq0 : (0 : Int) ≤ (q : Int) := by omega
    have hq1 : (q : Int) < ((l.length + 1 : Nat) : Int) := by omega
    refine wp_region_bwt 6 (by kernel_rfl) (by kernel_rfl) ?_
    simp only [List.take_succ_cons, List.take_zero, List.drop_succ_cons, List.drop_zero]
    repeat (go_big_quiet_step ((go_at_call 54; exact calls_bw (HPL.out _))))
    refine wpQuiet_nil ?_
    rintro _ ⟨x, rfl⟩
    clear y0 y1 HPL
    have hxb := x.2
    replace HB3 := hidm (HB3.out.trans (hxb.mono (Nat.le_trans HBW.out.1 HB3.out.size)))
    replace H273 : Hid (∀ (k : Nat) (cells : Array Value), w.heap[k]? = some (.cells cells 27 (0, 0)) → x.1.heap[k]? = some (.cells cells 27 (0, 0))) := fun k cells hk => blk_below (H273.out k cells hk) hxb
    replace HT3 := hidm (HT3.out.below hxb)
    clear hxb K3
    obtain ⟨W5, hw5⟩ := x
    dsimp only at HB3 H273 HT3 ⊢
    clear hw5
    obtain ⟨ks, HKS⟩ : ∃ ks, Hid ((rd_T76 l q).f5 = ks) := ⟨_, rfl⟩
    have hkn : ks.length ≤ 4096 := by rw [← HKS.out]; exact HKI.out.n
    rw [HKS.out] at hi
    obtain ⟨A5, c5, p5, ho5, hb7, hbg, hst⟩ := HT3.out.step5 (q := q) (by rw [HLL.out]; omega) (ks := ks) (by rw [rd_left hq]; exact HKS.out)
    have HO5 := hidm ho5
    have HST := hidm hst
    clear ho5 hst HT3
    go_wp2_with fail
    clear p5
    refine (insInts_any B _ ks.length i (ks.map (Value.int .i64)) [.int .i64 nx] W5 HO5.out hb7 hi (by omega) rfl (fun u hu => by rw [List.mem_singleton.1 hu]; rfl) (fun u hu => by
      obtain ⟨z, _, rfl⟩ := List.mem_map.1 hu
      rfl)).mono ?_
    rintro e w9 ⟨v', rfl, ho', hw', hat'⟩
    obtain ⟨A9, c9, rfl, _⟩ := own_slice ho'
    obtain ⟨qs, hqs⟩ : ∃ qs, qs = ks.take i ++ [nx] ++ ks.drop i := ⟨_, rfl⟩
    have hql : qs.length = ks.length + 1 := by rw [hqs]; simp; omega
    have e1 : (ks.map (Value.int .i64)).take (i * 1) ++ [.int .i64 nx] ++ (ks.map (Value.int .i64)).drop (i * 1) = qs.map (Value.int .i64) := by rw [hqs, Nat.mul_one, List.map_append, List.map_append, List.map_take, List.map_drop]; rfl
    rw [e1, ← hql] at ho'
    rw [← hql]
    have hu : (Kd.int .i64).R 3 w9 B (fun k => (Value.slice A5 ks.length c5).ownBlock = some k ∨ W5.heap.size ≤ k) (.slice A9 qs.length c9) qs := by
      refine Kd.R_of_own (h1 := fun _ => rfl) ho' (fun k hk => ?_)
      rcases hat' with h | ⟨b, h, hle⟩
      · rw [hql, h] at hk; exact .inl hk
      · rw [hql, h] at hk; injection hk with hk; exact .inr (by omega)
    obtain ⟨f1, f2, f3, f4⟩ := HST.out w9 (.slice A9 qs.length c9) qs hw' hu
    obtain ⟨W10, hW10⟩ : ∃ W10, w9.setCell ⟨g, q * 7 + 5, none⟩ (.slice A9 qs.length c9) = W10 := ⟨_, rfl⟩
    rw [hW10] at f3 f4
    obtain ⟨lab2, inner2, ht2⟩ := f3
    rw [rd_left hq, set_mid hq, hqs, ← HKS.out] at ht2
    have hbw : Below B W5 w9 := Wr.below hw' hb7 (fun k hk => own_base HO5.out k hk)
    have HPP : Hid (HangPost (HungP par nx l n role) (.slice (some ⟨g, 0, none⟩) (l.length + 1) cv) B w (.returned (.tuple #[])) W10) :=
      ⟨rfl, by rw [← hW10]; exact (HB3.out.trans hbw).setCell hbg _, fun k cells hk => f4 k 27 cells (H273.out k cells hk) (by decide) (by decide), lab2, inner2, _, .inr ⟨HPN.out, q, i, hq, HE.out, by rw [HN1.out]⟩, ht2⟩
    clear hbw ht2 f4 hu e1 hql hqs ho' hw' hat' HO5 HST HB3 H273
    go_wp2_with fail
    simp [bodyPost, results, Try.results63, go_sem]
    exact HPP.out
end Go.Proofs.Ytlopfkkegjajlaa
namespace Go.Proofs.Ytlopfkkegjajlaa
open Go.RowKit Go.Proofs.YtlopfkkegjajlaaW.PrintWords PHistoryTouched
def newN (nx : Int) : S76 := ⟨nx, ⟨#[65]⟩, 0, ⟨#[]⟩, [], [], []⟩
def AddPost (nx par : Int) (l : List S76) (role : ByteArray) (w : World) (e : Ending) (w' : World) : Prop := Below w.heap.size w w' ∧
  ((∃ er : Int, er ≠ 0 ∧ e = .returned (.tuple #[.agg #[.int .i64 0, .slice none 0 0], .int .i64 0, .int .i64 er])) ∨
    ∃ v l', e = .returned (.tuple #[.agg #[.int .i64 (nx + 1), v], .int .i64 nx, .int .i64 0]) ∧ CheckP nx l ∧ nx ≤ 1048576 ∧ l.length < 4096 ∧ k76.R 76 w' w.heap.size (fun _ => True) v l' ∧ HungP par nx l (newN nx) role l' ∧
      (par = 0 → role.toList = []) ∧ (par ≠ 0 → wordB role = true) ∧ ∀ q : Nat, q < l.length → (rd_T76 l q).f0 = par → DeepOk l 63 (rd_T76 l q))
theorem newN_one (nx : Int) : ∀ u ∈ ([.int .i64 nx, .string ⟨#[65]⟩, .int .i64 0, .string ⟨#[]⟩, .slice none 0 0, .slice none 0 0, .slice none 0 0] : List Value), u.oneCell' = true := fun u hu => by
  simp only [List.mem_cons, List.not_mem_nil, or_false] at hu
  rcases hu with rfl | rfl | rfl | rfl | rfl | rfl | rfl <;> rfl
theorem wordA : wordB ⟨#[65]⟩ = true := by kernel_rfl
set_option maxRecDepth 100000 in
set_option maxHeartbeats 8000000 in
theorem add_any (nx par : Int) (A : Option Addr) (l : List S76) (c : Nat) (role : ByteArray) (w : World) (hr : Kd.C k76 w A l.length l) (hs : SmallL l) (hwf : WfL l) (hi : I64 par) :
    Calls Try.prog 36 #[.agg #[.int .i64 nx, .slice A l.length c], .int .i64 par, .string role, .int .i64 0, .string ⟨#[65]⟩] w (AddPost nx par l role w) := by
  have HR := hidm hr
  have HS := hidm hs
  have HWF := hidm hwf
  have HI := hidm hi
  have HX : Hid (Boxed2 w (.cells #[.int .i64 nx, .slice A l.length c] 27) (.cells #[.int .i64 0, .slice none 0 0] 27) ((w.alloc (.cells #[.int .i64 nx, .slice A l.length c] 27)).alloc (.cells #[.int .i64 0, .slice none 0 0] 27))) := boxed2 w _ _
  clear hr hs hwf hi
  go_enter Try.func36, Try.ntmps36
  go_wp2_with fail
  generalize (World.alloc (World.alloc _ _) _) = W at HX ⊢
  refine (check_any nx l A c W (Kd.C_below HR.out HX.out.b) HWF.out).mono ?_
  rintro e w1 ⟨rfl, hb⟩
  replace HX := hidm (HX.out.below hb)
  clear hb
  by_cases hk : CheckP nx l
  case neg =>
    rw [errI_no hk]
    clear hk
    obtain ⟨z0, z1, fz, r0, r1, hb9⟩ := boxW HX.out.b (show w.heap.size ≤ w.heap.size + 1 by omega) HX.out.k2 (.int .i64 0) (.slice none 0 0)
    have HP : Hid (AddPost nx par l role w (.returned (.tuple #[.agg #[.int .i64 0, .slice none 0 0], .int .i64 0, .int .i64 29])) _) := ⟨hb9, .inl ⟨29, by decide, rfl⟩⟩
    clear hb9
    go_wp2_with fail
    simp [bodyPost, results, Try.results36, go_sem, r0, r1]
    exact HP.out
  have HK := hidm hk
  rw [errI_yes hk]
  clear hk
  go_wp2_with fail
  refine (word_any ⟨#[65]⟩ w1).mono ?_
  rintro e w2 ⟨rfl, hb⟩
  rw [wordA]
  replace HX := hidm (HX.out.below hb)
  clear hb
  by_cases hp : par = 0
  · have hp1 : (par == 0) = true := by simp [hp]
    have hp2 : (par != 0) = false := by simp [hp]
    have HPZ := hidm hp
    clear hp
    have q0 : w2.cell? ⟨w.heap.size, 0, none⟩ = some (.int .i64 nx) := blk_cell HX.out.k1 0
    have q1 : w2.cell? ⟨w.heap.size, 1, none⟩ = some (.slice A l.length c) := blk_cell HX.out.k1 1
    go_wp2_with fail
    clear q0 q1
    refine (goal0_any (.agg #[.int .i64 nx, .slice A l.length c]) _ rfl par HPZ.out role w2).mono ?_
    rintro e wt ⟨er, rfl, hb, hok⟩
    replace HX := hidm (HX.out.below hb)
    clear hb
    by_cases he : er = 0
    case neg =>
      have he1 : (er != 0) = true := by rw [bne_iff_ne]; exact he
      have HE := hidm he
      clear he hok
      obtain ⟨z0, z1, fz, r0, r1, hb9⟩ := boxW HX.out.b (show w.heap.size ≤ w.heap.size + 1 by omega) HX.out.k2 (.int .i64 0) (.slice none 0 0)
      have HP : Hid (AddPost nx par l role w (.returned (.tuple #[.agg #[.int .i64 0, .slice none 0 0], .int .i64 0, .int .i64 er])) _) := ⟨hb9, .inl ⟨er, HE.out, rfl⟩⟩
      clear hb9
      go_wp2_with fail
      simp [bodyPost, results, Try.results36, go_sem, r0, r1]
      exact HP.out
    have HPAR : Hid (par = 0 ∨ ∃ q, KidsIn l q ∧ (rd_T76 l (q : Nat)).f0 = par) := .inl HPZ.out
    have HOKX : Hid ((par = 0 → role.toList = []) ∧ (par ≠ 0 → wordB role = true) ∧ ∀ q : Nat, q < l.length → (rd_T76 l q).f0 = par → DeepOk l 63 (rd_T76 l q)) :=
      ⟨fun _ => hok he, fun h => absurd HPZ.out h, fun q hq h => by have := (ids_up HK.out.hi HK.out.ids).lo q hq; rw [h, HPZ.out] at this; omega⟩
    subst he
    clear hok
    have q0 : wt.cell? ⟨w.heap.size, 0, none⟩ = some (.int .i64 nx) := blk_cell HX.out.k1 0
    have q1 : wt.cell? ⟨w.heap.size, 1, none⟩ = some (.slice A l.length c) := blk_cell HX.out.k1 1
    have hn1 : 1 ≤ nx := HK.out.lo
    have hn2 : nx ≤ 1048577 := HK.out.hi
    by_cases hle : l.length = 4096
    case pos =>
      have hle1 : ((l.length : Int) == 4096) = true := by simp [hle]
      clear hle
      obtain ⟨z0, z1, fz, r0, r1, hb9⟩ := boxW HX.out.b (show w.heap.size ≤ w.heap.size + 1 by omega) HX.out.k2 (.int .i64 0) (.slice none 0 0)
      have HP : Hid (AddPost nx par l role w (.returned (.tuple #[.agg #[.int .i64 0, .slice none 0 0], .int .i64 0, .int .i64 4])) _) := ⟨hb9, .inl ⟨4, by decide, rfl⟩⟩
      clear hb9
      go_wp2_with fail
      simp [bodyPost, results, Try.results36, go_sem, r0, r1]
      exact HP.out
    have hle1 : ((l.length : Int) == 4096) = false := by rw [beq_eq_false_iff_ne]; omega
    have hle2 : l.length < 4096 := by have := HK.out.len; omega
    clear hle
    by_cases hnf : 1048576 < nx
    case pos =>
      obtain ⟨z0, z1, fz, r0, r1, hb9⟩ := boxW HX.out.b (show w.heap.size ≤ w.heap.size + 1 by omega) HX.out.k2 (.int .i64 0) (.slice none 0 0)
      have HP : Hid (AddPost nx par l role w (.returned (.tuple #[.agg #[.int .i64 0, .slice none 0 0], .int .i64 0, .int .i64 4])) _) := ⟨hb9, .inl ⟨4, by decide, rfl⟩⟩
      clear hb9
      go_wp2_with fail
      simp [bodyPost, results, Try.results36, go_sem, r0, r1]
      exact HP.out
    go_wp2_with fail
    clear q0 q1 hle1
    have HBB : Hid (w.heap.size ≤ wt.heap.size) := HX.out.b.size
    have HLT : Hid (w.heap.size + 1 < wt.heap.size) := blk_lt HX.out.k2
    refine (atwin_any nx A l c wt (Kd.C_below HR.out HX.out.b) HS.out).mono ?_
    rintro e w4 ⟨v, lab, inner, rfl, ht, hb⟩
    obtain ⟨Av, cv, rfl, _⟩ := own_slice ht.own
    replace HX := hidm (HX.out.below (below_alloc hb (.cells #[.int .i64 nx, .slice Av l.length cv] 27)))
    have ht5 := ht.below (below_alloc (Below.refl _ _) (.cells #[.int .i64 nx, .slice Av l.length cv] 27))
    have kt5 := blk_new w4 (.cells #[.int .i64 nx, .slice Av l.length cv] 27)
    have HTB : Hid (w.heap.size + 1 < w4.heap.size) := Nat.lt_of_lt_of_le (HLT.out) hb.size
    have qm := blk_cell HX.out.k1 0
    have t0 := blk_cell kt5 0
    have t1 := blk_cell kt5 1
    have tf := blk_frozen kt5
    obtain ⟨tb, htb⟩ : ∃ tb, w4.heap.size = tb := ⟨_, rfl⟩
    rw [htb] at kt5 t0 t1 tf HTB
    obtain ⟨w6, hw6⟩ : ∃ w6, (w4.alloc (.cells #[.int .i64 nx, .slice Av l.length cv] 27)).setCell ⟨tb, 0, none⟩ (.int .i64 (nx + 1)) = w6 := ⟨_, rfl⟩
    have kt6 : w6.heap[tb]? = some (.cells #[.int .i64 (nx + 1), .slice Av l.length cv] 27 (0, 0)) := by rw [← hw6]; exact blk_put kt5 0 _ rfl
    have HT : Hid (TwL w6 wt.heap.size l (.slice Av l.length cv) lab inner) := by rw [← hw6]; exact ht5.set kt5 (by decide) 0 _
    have HB6 : Hid (Below w.heap.size w w6) := by rw [← hw6]; exact HX.out.b.setCell (show w.heap.size ≤ tb by have := HTB.out; omega) _
    have KR : Hid (w6.heap[w.heap.size + 1]? = some (.cells #[.int .i64 0, .slice none 0 0] 27 (0, 0))) := by rw [← hw6]; exact blk_far HX.out.k2 (show w.heap.size + 1 ≠ tb by have := HTB.out; omega) _
    have KT := hidm kt6
    have t6 := blk_cell kt6 1
    have tf6 := blk_frozen kt6
    have hbs : wt.heap.size ≤ w6.heap.size := by rw [← hw6]; exact ((below_alloc hb _).setCell (show wt.heap.size ≤ tb by have := hb.size; omega) _).size
    clear ht hb ht5 kt5 kt6
    have HBL : Hid (wt.heap.size ≤ w6.heap.size) := hbs
    generalize wt.heap.size = B at HT HBB HBL
    have HAA := hidm (HT.out.own)
    go_wp2_with ((
      at_builtin
      refine print_append_cells (w0 := w6) B rfl (.tmp 70) (.tmp 74) 25 76 (.agg zero7) 7 120 rfl Try.underlying25 info76 rfl (by decide) (by decide) (.slice Av l.length cv) l.length inner [.int .i64 nx, .string ⟨#[65]⟩, .int .i64 0, .string ⟨#[]⟩, .slice none 0 0, .slice none 0 0, .slice none 0 0] rfl rfl rfl (newN_one nx) HAA.out (Below.refl _ _) HBL.out (by omega) (fun v1 w1 ho1 hb1 hg1 hat1 => ?_)
      obtain ⟨g, c1, rfl, _⟩ := own_some ho1 (by omega)
      have m3 : w1.heap[tb]? = _ := (hg1.block _ (blk_lt KT.out) (Kd.R_ne HT.out.R KT.out (by decide))).trans KT.out
      have m2 : w1.heap[w.heap.size + 1]? = _ := (hg1.block _ (blk_lt KR.out) (Kd.R_ne HT.out.R KR.out (by decide))).trans KR.out
      obtain ⟨lab1, ht1⟩ := HT.out.snoc (n := newN nx) HBL.out (Below.refl _ _) (Kd.R_nil _ _ _ _ _) (Kd.R_nil _ _ _ _ _) (Kd.R_nil _ _ _ _ _) ho1 hg1 hat1
      have z1 : w1.cell? ⟨tb, 1, none⟩ = some (.slice Av l.length cv) := blk_cell m3 1
      have fz1 : ∀ i, w1.frozen? ⟨tb, i, none⟩ = false := blk_frozen m3
      obtain ⟨w7, hw7⟩ : ∃ w7, w1.setCell ⟨tb, 1, none⟩ (.slice (some ⟨g, 0, none⟩) (l.length + 1) c1) = w7 := ⟨_, rfl⟩
      have HT7 : Hid (∃ inner', TwL w7 B (l ++ [newN nx]) (.slice (some ⟨g, 0, none⟩) (l.length + 1) c1) lab1 inner') := ⟨_, by rw [← hw7]; exact ht1.set m3 (by decide) 1 _⟩
      have kt7 : w7.heap[tb]? = some (.cells #[.int .i64 (nx + 1), .slice (some ⟨g, 0, none⟩) (l.length + 1) c1] 27 (0, 0)) := by rw [← hw7]; exact blk_put m3 1 _ rfl
      have KR7 : Hid (w7.heap[w.heap.size + 1]? = some (.cells #[.int .i64 0, .slice none 0 0] 27 (0, 0))) := by rw [← hw7]; exact blk_far m2 (show w.heap.size + 1 ≠ tb by have := HTB.out; omega) _
      have HB7 : Hid (Below w.heap.size w w7) := by rw [← hw7]; exact (HB6.out.trans (hb1.mono HBB.out)).setCell (show w.heap.size ≤ tb by have := HTB.out; omega) _
      have KT7 := hidm kt7
      have u0 := blk_cell kt7 0
      have u1 := blk_cell kt7 1
      clear m2 m3 ht1 kt7 ho1 hb1 hg1 hat1))
    clear z1 fz1 u0 u1 t0 t1 tf t6 tf6 qm
    obtain ⟨inner7, ht7⟩ := HT7.out
    have hids := ids_up HK.out.hi HK.out.ids
    refine (hang_any (nx + 1) nx par g (l.length + 1) c1 l (newN nx) role B lab1 inner7 w7 ht7 rfl hids (fun j hj => (HK.out.ids j hj).2) hn1 (by omega) hle2 rfl HPAR.out HI.out).mono ?_
    rintro e w8 ⟨rfl, hb8, h27, lab2, inner2, l', hh, ht8⟩
    have kt8 := h27 _ _ KT7.out
    have kr8 := h27 _ _ KR7.out
    have hb8' : Below w.heap.size w w8 := HB7.out.trans (hb8.mono HBB.out)
    have u0 := blk_cell kt8 0
    have u1 := blk_cell kt8 1
    obtain ⟨z0, z1, fz, r0, r1, hb9⟩ := boxW hb8' (show w.heap.size ≤ w.heap.size + 1 by omega) kr8 (.int .i64 (nx + 1)) (.slice (some ⟨g, 0, none⟩) (l.length + 1) c1)
    have HP : Hid (AddPost nx par l role w (.returned (.tuple #[.agg #[.int .i64 (nx + 1), .slice (some ⟨g, 0, none⟩) (l.length + 1) c1], .int .i64 nx, .int .i64 0])) ((w8.setCell ⟨w.heap.size + 1, 0, none⟩ (.int .i64 (nx + 1))).setCell ⟨w.heap.size + 1, 1, none⟩ (.slice (some ⟨g, 0, none⟩) (l.length + 1) c1))) := by
      have h9 := ((ht8.set kr8 (by decide) 0 (.int .i64 (nx + 1))).set (blk_put kr8 0 _ rfl) (by decide) 1 (.slice (some ⟨g, 0, none⟩) (l.length + 1) c1)).R
      exact ⟨hb9, .inr ⟨_, l', rfl, HK.out, by omega, hle2, Kd.R_lower h9 HBB.out, hh, HOKX.out⟩⟩
    clear hb9 hb8' kt8 kr8 hb8 h27 hh ht8 hids ht7
    go_wp2_with fail
    simp [bodyPost, results, Try.results36, go_sem, r0, r1]
    exact HP.out
  · have hp1 : (par == 0) = false := by rw [beq_eq_false_iff_ne]; exact hp
    have hp2 : (par != 0) = true := by rw [bne_iff_ne]; exact hp
    have HPN := hidm hp
    clear hp
    obtain ⟨b, HNB⟩ : ∃ b, Hid (wordB role = b) := ⟨_, rfl⟩
    go_wp2_with fail
    refine (word_any role w2).mono ?_
    rintro e w3 ⟨rfl, hb⟩
    rw [HNB.out]
    replace HX := hidm (HX.out.below hb)
    clear hb
    cases b with
    | false =>
      obtain ⟨z0, z1, fz, r0, r1, hb9⟩ := boxW HX.out.b (show w.heap.size ≤ w.heap.size + 1 by omega) HX.out.k2 (.int .i64 0) (.slice none 0 0)
      have HP : Hid (AddPost nx par l role w (.returned (.tuple #[.agg #[.int .i64 0, .slice none 0 0], .int .i64 0, .int .i64 2])) _) := ⟨hb9, .inl ⟨2, by decide, rfl⟩⟩
      clear hb9
      go_wp2_with fail
      simp [bodyPost, results, Try.results36, go_sem, r0, r1]
      exact HP.out
    | true =>
      have q0 : w3.cell? ⟨w.heap.size, 0, none⟩ = some (.int .i64 nx) := blk_cell HX.out.k1 0
      have q1 : w3.cell? ⟨w.heap.size, 1, none⟩ = some (.slice A l.length c) := blk_cell HX.out.k1 1
      go_wp2_with fail
      clear q0 q1
      refine (place_any nx A l c par w3 (Kd.C_below HR.out HX.out.b) (ids_up HK.out.hi HK.out.ids) HK.out.len HI.out).mono ?_
      rintro e w4 ⟨r, rfl, hpl, hb⟩
      replace HX := hidm (HX.out.below hb)
      clear hb
      by_cases hp0 : r < 0
      case pos =>
        clear hpl
        obtain ⟨z0, z1, fz, r0, r1, hb9⟩ := boxW HX.out.b (show w.heap.size ≤ w.heap.size + 1 by omega) HX.out.k2 (.int .i64 0) (.slice none 0 0)
        have HP : Hid (AddPost nx par l role w (.returned (.tuple #[.agg #[.int .i64 0, .slice none 0 0], .int .i64 0, .int .i64 20])) _) := ⟨hb9, .inl ⟨20, by decide, rfl⟩⟩
        clear hb9
        go_wp2_with fail
        simp [bodyPost, results, Try.results36, go_sem, r0, r1]
        exact HP.out
      obtain ⟨q, rfl, hq, he⟩ := hpl.2 (by omega)
      have HE := hidm he
      have HKI : Hid (KidsIn l q) := ⟨ids_up HK.out.hi HK.out.ids, HK.out.len, hq, fun j hj => by
        obtain ⟨p, h1, h2, _⟩ := HK.out.hangs.kids q hq j hj
        exact ⟨p, h1, h2⟩, by have := (HK.out.alone q hq).kids; have := HK.out.len; omega⟩
      have hq0 : (0 : Int) ≤ (q : Int) := by omega
      clear hpl hp0 he
      have q0 : w4.cell? ⟨w.heap.size, 0, none⟩ = some (.int .i64 nx) := blk_cell HX.out.k1 0
      have q1 : w4.cell? ⟨w.heap.size, 1, none⟩ = some (.slice A l.length c) := blk_cell HX.out.k1 1
      go_wp2_with fail
      clear q0 q1
      refine (goal1_any nx A l c q par role w4 (Kd.C_below HR.out HX.out.b) HKI.out HE.out HI.out (fun j hj => (HWF.out j hj).1) (HK.out.hangs.deep q hq)).mono ?_
      rintro e wt ⟨er, rfl, hb, hok⟩
      replace HX := hidm (HX.out.below hb)
      clear hb
      by_cases he : er = 0
      case neg =>
        have he1 : (er != 0) = true := by rw [bne_iff_ne]; exact he
        have HEE := hidm he
        clear he hok
        obtain ⟨z0, z1, fz, r0, r1, hb9⟩ := boxW HX.out.b (show w.heap.size ≤ w.heap.size + 1 by omega) HX.out.k2 (.int .i64 0) (.slice none 0 0)
        have HP : Hid (AddPost nx par l role w (.returned (.tuple #[.agg #[.int .i64 0, .slice none 0 0], .int .i64 0, .int .i64 er])) _) := ⟨hb9, .inl ⟨er, HEE.out, rfl⟩⟩
        clear hb9
        go_wp2_with fail
        simp [bodyPost, results, Try.results36, go_sem, r0, r1]
        exact HP.out
      have HPAR : Hid (par = 0 ∨ ∃ q, KidsIn l q ∧ (rd_T76 l (q : Nat)).f0 = par) := .inr ⟨q, HKI.out, HE.out⟩
      have HOKX : Hid ((par = 0 → role.toList = []) ∧ (par ≠ 0 → wordB role = true) ∧ ∀ q : Nat, q < l.length → (rd_T76 l q).f0 = par → DeepOk l 63 (rd_T76 l q)) :=
        ⟨fun h => absurd h HPN.out, fun _ => HNB.out, fun q' hq' h => by
          obtain rfl : q' = q := same_id (ids_up HK.out.hi HK.out.ids) hq' hq (h.trans HE.out.symm)
          exact hok he⟩
      subst he
      clear hok
      have q0 : wt.cell? ⟨w.heap.size, 0, none⟩ = some (.int .i64 nx) := blk_cell HX.out.k1 0
      have q1 : wt.cell? ⟨w.heap.size, 1, none⟩ = some (.slice A l.length c) := blk_cell HX.out.k1 1
      have hn1 : 1 ≤ nx := HK.out.lo
      have hn2 : nx ≤ 1048577 := HK.out.hi
      by_cases hle : l.length = 4096
      case pos =>
        have hle1 : ((l.length : Int) == 4096) = true := by simp [hle]
        clear hle
        obtain ⟨z0, z1, fz, r0, r1, hb9⟩ := boxW HX.out.b (show w.heap.size ≤ w.heap.size + 1 by omega) HX.out.k2 (.int .i64 0) (.slice none 0 0)
        have HP : Hid (AddPost nx par l role w (.returned (.tuple #[.agg #[.int .i64 0, .slice none 0 0], .int .i64 0, .int .i64 4])) _) := ⟨hb9, .inl ⟨4, by decide, rfl⟩⟩
        clear hb9
        go_wp2_with fail
        simp [bodyPost, results, Try.results36, go_sem, r0, r1]
        exact HP.out
      have hle1 : ((l.length : Int) == 4096) = false := by rw [beq_eq_false_iff_ne]; omega
      have hle2 : l.length < 4096 := by have := HK.out.len; omega
      clear hle
      by_cases hnf : 1048576 < nx
      case pos =>
        obtain ⟨z0, z1, fz, r0, r1, hb9⟩ := boxW HX.out.b (show w.heap.size ≤ w.heap.size + 1 by omega) HX.out.k2 (.int .i64 0) (.slice none 0 0)
        have HP : Hid (AddPost nx par l role w (.returned (.tuple #[.agg #[.int .i64 0, .slice none 0 0], .int .i64 0, .int .i64 4])) _) := ⟨hb9, .inl ⟨4, by decide, rfl⟩⟩
        clear hb9
        go_wp2_with fail
        simp [bodyPost, results, Try.results36, go_sem, r0, r1]
        exact HP.out
      go_wp2_with fail
      clear q0 q1 hle1
      have HBB : Hid (w.heap.size ≤ wt.heap.size) := HX.out.b.size
      have HLT : Hid (w.heap.size + 1 < wt.heap.size) := blk_lt HX.out.k2
      refine (atwin_any nx A l c wt (Kd.C_below HR.out HX.out.b) HS.out).mono ?_
      rintro e w4 ⟨v, lab, inner, rfl, ht, hb⟩
      obtain ⟨Av, cv, rfl, _⟩ := own_slice ht.own
      replace HX := hidm (HX.out.below (below_alloc hb (.cells #[.int .i64 nx, .slice Av l.length cv] 27)))
      have ht5 := ht.below (below_alloc (Below.refl _ _) (.cells #[.int .i64 nx, .slice Av l.length cv] 27))
      have kt5 := blk_new w4 (.cells #[.int .i64 nx, .slice Av l.length cv] 27)
      have HTB : Hid (w.heap.size + 1 < w4.heap.size) := Nat.lt_of_lt_of_le (HLT.out) hb.size
      have qm := blk_cell HX.out.k1 0
      have t0 := blk_cell kt5 0
      have t1 := blk_cell kt5 1
      have tf := blk_frozen kt5
      obtain ⟨tb, htb⟩ : ∃ tb, w4.heap.size = tb := ⟨_, rfl⟩
      rw [htb] at kt5 t0 t1 tf HTB
      obtain ⟨w6, hw6⟩ : ∃ w6, (w4.alloc (.cells #[.int .i64 nx, .slice Av l.length cv] 27)).setCell ⟨tb, 0, none⟩ (.int .i64 (nx + 1)) = w6 := ⟨_, rfl⟩
      have kt6 : w6.heap[tb]? = some (.cells #[.int .i64 (nx + 1), .slice Av l.length cv] 27 (0, 0)) := by rw [← hw6]; exact blk_put kt5 0 _ rfl
      have HT : Hid (TwL w6 wt.heap.size l (.slice Av l.length cv) lab inner) := by rw [← hw6]; exact ht5.set kt5 (by decide) 0 _
      have HB6 : Hid (Below w.heap.size w w6) := by rw [← hw6]; exact HX.out.b.setCell (show w.heap.size ≤ tb by have := HTB.out; omega) _
      have KR : Hid (w6.heap[w.heap.size + 1]? = some (.cells #[.int .i64 0, .slice none 0 0] 27 (0, 0))) := by rw [← hw6]; exact blk_far HX.out.k2 (show w.heap.size + 1 ≠ tb by have := HTB.out; omega) _
      have KT := hidm kt6
      have t6 := blk_cell kt6 1
      have tf6 := blk_frozen kt6
      have hbs : wt.heap.size ≤ w6.heap.size := by rw [← hw6]; exact ((below_alloc hb _).setCell (show wt.heap.size ≤ tb by have := hb.size; omega) _).size
      clear ht hb ht5 kt5 kt6
      have HBL : Hid (wt.heap.size ≤ w6.heap.size) := hbs
      generalize wt.heap.size = B at HT HBB HBL
      have HAA := hidm (HT.out.own)
      go_wp2_with ((
        at_builtin
        refine print_append_cells (w0 := w6) B rfl (.tmp 70) (.tmp 74) 25 76 (.agg zero7) 7 120 rfl Try.underlying25 info76 rfl (by decide) (by decide) (.slice Av l.length cv) l.length inner [.int .i64 nx, .string ⟨#[65]⟩, .int .i64 0, .string ⟨#[]⟩, .slice none 0 0, .slice none 0 0, .slice none 0 0] rfl rfl rfl (newN_one nx) HAA.out (Below.refl _ _) HBL.out (by omega) (fun v1 w1 ho1 hb1 hg1 hat1 => ?_)
        obtain ⟨g, c1, rfl, _⟩ := own_some ho1 (by omega)
        have m3 : w1.heap[tb]? = _ := (hg1.block _ (blk_lt KT.out) (Kd.R_ne HT.out.R KT.out (by decide))).trans KT.out
        have m2 : w1.heap[w.heap.size + 1]? = _ := (hg1.block _ (blk_lt KR.out) (Kd.R_ne HT.out.R KR.out (by decide))).trans KR.out
        obtain ⟨lab1, ht1⟩ := HT.out.snoc (n := newN nx) HBL.out (Below.refl _ _) (Kd.R_nil _ _ _ _ _) (Kd.R_nil _ _ _ _ _) (Kd.R_nil _ _ _ _ _) ho1 hg1 hat1
        have z1 : w1.cell? ⟨tb, 1, none⟩ = some (.slice Av l.length cv) := blk_cell m3 1
        have fz1 : ∀ i, w1.frozen? ⟨tb, i, none⟩ = false := blk_frozen m3
        obtain ⟨w7, hw7⟩ : ∃ w7, w1.setCell ⟨tb, 1, none⟩ (.slice (some ⟨g, 0, none⟩) (l.length + 1) c1) = w7 := ⟨_, rfl⟩
        have HT7 : Hid (∃ inner', TwL w7 B (l ++ [newN nx]) (.slice (some ⟨g, 0, none⟩) (l.length + 1) c1) lab1 inner') := ⟨_, by rw [← hw7]; exact ht1.set m3 (by decide) 1 _⟩
        have kt7 : w7.heap[tb]? = some (.cells #[.int .i64 (nx + 1), .slice (some ⟨g, 0, none⟩) (l.length + 1) c1] 27 (0, 0)) := by rw [← hw7]; exact blk_put m3 1 _ rfl
        have KR7 : Hid (w7.heap[w.heap.size + 1]? = some (.cells #[.int .i64 0, .slice none 0 0] 27 (0, 0))) := by rw [← hw7]; exact blk_far m2 (show w.heap.size + 1 ≠ tb by have := HTB.out; omega) _
        have HB7 : Hid (Below w.heap.size w w7) := by rw [← hw7]; exact (HB6.out.trans (hb1.mono HBB.out)).setCell (show w.heap.size ≤ tb by have := HTB.out; omega) _
        have KT7 := hidm kt7
        have u0 := blk_cell kt7 0
        have u1 := blk_cell kt7 1
        clear m2 m3 ht1 kt7 ho1 hb1 hg1 hat1))
      clear z1 fz1 u0 u1 t0 t1 tf t6 tf6 qm
      obtain ⟨inner7, ht7⟩ := HT7.out
      have hids := ids_up HK.out.hi HK.out.ids
      refine (hang_any (nx + 1) nx par g (l.length + 1) c1 l (newN nx) role B lab1 inner7 w7 ht7 rfl hids (fun j hj => (HK.out.ids j hj).2) hn1 (by omega) hle2 rfl HPAR.out HI.out).mono ?_
      rintro e w8 ⟨rfl, hb8, h27, lab2, inner2, l', hh, ht8⟩
      have kt8 := h27 _ _ KT7.out
      have kr8 := h27 _ _ KR7.out
      have hb8' : Below w.heap.size w w8 := HB7.out.trans (hb8.mono HBB.out)
      have u0 := blk_cell kt8 0
      have u1 := blk_cell kt8 1
      obtain ⟨z0, z1, fz, r0, r1, hb9⟩ := boxW hb8' (show w.heap.size ≤ w.heap.size + 1 by omega) kr8 (.int .i64 (nx + 1)) (.slice (some ⟨g, 0, none⟩) (l.length + 1) c1)
      have HP : Hid (AddPost nx par l role w (.returned (.tuple #[.agg #[.int .i64 (nx + 1), .slice (some ⟨g, 0, none⟩) (l.length + 1) c1], .int .i64 nx, .int .i64 0])) ((w8.setCell ⟨w.heap.size + 1, 0, none⟩ (.int .i64 (nx + 1))).setCell ⟨w.heap.size + 1, 1, none⟩ (.slice (some ⟨g, 0, none⟩) (l.length + 1) c1))) := by
        have h9 := ((ht8.set kr8 (by decide) 0 (.int .i64 (nx + 1))).set (blk_put kr8 0 _ rfl) (by decide) 1 (.slice (some ⟨g, 0, none⟩) (l.length + 1) c1)).R
        exact ⟨hb9, .inr ⟨_, l', rfl, HK.out, by omega, hle2, Kd.R_lower h9 HBB.out, hh, HOKX.out⟩⟩
      clear hb9 hb8' kt8 kr8 hb8 h27 hh ht8 hids ht7
      go_wp2_with fail
      simp [bodyPost, results, Try.results36, go_sem, r0, r1]
      exact HP.out
end Go.Proofs.Ytlopfkkegjajlaa
namespace Go.Proofs.Ytlopfkkegjajlaa
open Go.RowKit Go.Proofs.YtlopfkkegjajlaaW.PrintWords PHistoryTouched
theorem wordB_ne {s : ByteArray} (h : wordB s = true) : s.toList ≠ [] := fun e => by
  have : s = ⟨#[]⟩ := ba_ext (by rw [e]; first | simp | kernel_rfl | decide)
  rw [this] at h
  have h2 : wordB ⟨#[]⟩ = false := by kernel_rfl
  rw [h2] at h; cases h
theorem putLaw {nx : Int} {l : List S76} {q : Nat} {ps : List S82} (hc : CheckP nx l) (hw : WfL l) (hq : q < l.length) (hp : PsOk ps) :
    CheckP nx (l.set q { rd_T76 l q with f4 := ps }) ∧ WfL (l.set q { rd_T76 l q with f4 := ps }) ∧ (l.set q { rd_T76 l q with f4 := ps }).length = l.length ∧ (refT l (l.set q { rd_T76 l q with f4 := ps }) = [] ∨ refT l (l.set q { rd_T76 l q with f4 := ps }) = [(rd_T76 l q).f0]) := by
  have hk := check_put hc hq (fun k hk => hp.to k hk)
  refine ⟨hk, fun i hi => ?_, by simp, touched_put (up_of_check hc) (up_of_check hk) hq rfl⟩
  have hi' : i < l.length := by simpa using hi
  by_cases h : i = q
  · subst h; rw [rd_set_self _ hq]; exact hw i hi'
  · rw [rd_set_ne _ hi' h]; exact hw i hi'
theorem alone_new {nx par : Int} {len : Nat} {role : ByteArray} (h0 : par = 0 → role.toList = []) (h1 : par ≠ 0 → wordB role = true) : AloneP nx len { newN nx with f2 := par, f3 := role } := by
  refine ⟨wordA, ⟨fun h => h0 h, fun h => ?_⟩, fun h => ?_, Nat.zero_le _, fun k hk => absurd hk (Nat.not_lt_zero k), fun k hk => absurd hk (Nat.not_lt_zero k)⟩
  · by_cases hp : par = 0
    · exact hp
    · exact absurd h (wordB_ne (h1 hp))
  · by_cases hp : par = 0
    · exact absurd (h0 hp) h
    · exact h1 hp
theorem wf_add {nx : Int} {l l' : List S76} {n : S76} (h : Added nx l l' n) (hw : WfL l) (hn : I64 n.f2) (hx : I64 nx) : WfL l' := fun i hi => by
  rcases Nat.lt_or_ge i l.length with h1 | h1
  · rw [h.ext.f2 i h1]
    refine ⟨(hw i h1).1, fun j hj => ?_⟩
    obtain ⟨k, e⟩ := h.kids i h1
    have hm : rd (rd_T76 l' i).f5 j ∈ (rd_T76 l' i).f5 := by
      have : rd (rd_T76 l' i).f5 j = (rd_T76 l' i).f5[j] := by simp [rd, List.getD_eq_getElem?_getD, List.getElem?_eq_getElem hj]
      rw [this]; exact List.getElem_mem hj
    generalize rd (rd_T76 l' i).f5 j = x at hm
    have old : x ∈ (rd_T76 l i).f5 → I64 x := fun hx' => by
      obtain ⟨a, ha, rfl⟩ := List.getElem_of_mem hx'
      have := (hw i h1).2 a ha
      rwa [show rd (rd_T76 l i).f5 a = (rd_T76 l i).f5[a] from by simp [rd, List.getD_eq_getElem?_getD, List.getElem?_eq_getElem ha]] at this
    rw [e, List.append_assoc, List.mem_append, List.mem_append] at hm
    rcases hm with hm | hm | hm
    · exact old (List.mem_of_mem_take hm)
    · split at hm
      · rw [List.mem_singleton.1 hm]; exact hx
      · simp at hm
    · exact old (List.mem_of_mem_drop hm)
  · have hi' : i = l.length := by have := h.len; omega
    subst hi'
    rw [h.last]
    exact ⟨hn, fun j hj => by rw [h.none] at hj; simp at hj⟩
theorem addLaw {nx par : Int} {l l' : List S76} {role : ByteArray} (hc : CheckP nx l) (hw : WfL l) (hnx : nx ≤ 1048576) (hl : l.length < 4096) (hi : I64 par) (hh : HungP par nx l (newN nx) role l') (h0 : par = 0 → role.toList = []) (h1 : par ≠ 0 → wordB role = true) (hd : ∀ q : Nat, q < l.length → (rd_T76 l q).f0 = par → DeepOk l 63 (rd_T76 l q)) :
    CheckP (nx + 1) l' ∧ WfL l' ∧ l'.length ≤ 1048576 ∧ (par = 0 → refT l l' = [nx]) ∧ (par ≠ 0 → refT l l' = [par, nx]) := by
  have hu := ids_up hc.hi hc.ids
  have hlo := hc.lo
  have hx : I64 nx := ⟨by omega, by omega⟩
  rcases hh with ⟨hp, rfl⟩ | ⟨hp, q, i, hq, he, rfl⟩
  · have ha : Added nx l (l ++ [{ newN nx with f2 := par, f3 := role }]) { newN nx with f2 := par, f3 := role } :=
      ⟨⟨by simp, fun j hj => by rw [rd_left hj], fun j hj => by rw [rd_left hj]⟩, by simp, rd_last, rfl, rfl, fun j hj => ⟨0, by
        have := hu.lo j hj
        rw [rd_left hj, if_neg (show ¬ (rd_T76 l j).f0 = par by omega)]; simp⟩, fun j hj => by rw [rd_left hj]; exact ⟨rfl, rfl, rfl, rfl⟩, .inl hp⟩
    have hk := check_add hc ha hnx hl (alone_new (nx := nx + 1) h0 h1 |> fun h => ⟨h.word, h.root, h.role, h.kids, h.props, h.refs⟩)
    exact ⟨hk, wf_add ha hw hi hx, by simp; omega, fun _ => touched_add0 hc rfl (up_of_check hk), fun h => absurd hp h⟩
  · have hls : (l.set q { rd_T76 l q with f5 := (rd_T76 l q).f5.take i ++ [nx] ++ (rd_T76 l q).f5.drop i }).length = l.length := by simp
    have hrd : ∀ j : Nat, j < l.length → rd_T76 (l.set q { rd_T76 l q with f5 := (rd_T76 l q).f5.take i ++ [nx] ++ (rd_T76 l q).f5.drop i } ++ [{ newN nx with f2 := par, f3 := role }]) j = if j = q then { rd_T76 l q with f5 := (rd_T76 l q).f5.take i ++ [nx] ++ (rd_T76 l q).f5.drop i } else rd_T76 l j := fun j hj => by
      rw [rd_left (by rw [hls]; exact hj)]
      split
      · rename_i h; subst h; rw [rd_set_self _ hq]
      · rename_i h; rw [rd_set_ne _ hj h]
    have hlast : rd_T76 (l.set q { rd_T76 l q with f5 := (rd_T76 l q).f5.take i ++ [nx] ++ (rd_T76 l q).f5.drop i } ++ [{ newN nx with f2 := par, f3 := role }]) l.length = { newN nx with f2 := par, f3 := role } := by
      have := rd_last (l := l.set q { rd_T76 l q with f5 := (rd_T76 l q).f5.take i ++ [nx] ++ (rd_T76 l q).f5.drop i }) (n := { newN nx with f2 := par, f3 := role })
      rwa [hls] at this
    have ha : Added nx l (l.set q { rd_T76 l q with f5 := (rd_T76 l q).f5.take i ++ [nx] ++ (rd_T76 l q).f5.drop i } ++ [{ newN nx with f2 := par, f3 := role }]) { newN nx with f2 := par, f3 := role } := by
      refine ⟨⟨by simp, fun j hj => ?_, fun j hj => ?_⟩, by simp, hlast, rfl, rfl, fun j hj => ?_, fun j hj => ?_, .inr ⟨q, hq, he, hd q hq he⟩⟩
      · rw [hrd j hj]; split
        · rename_i h; subst h; rfl
        · rfl
      · rw [hrd j hj]; split
        · rename_i h; subst h; rfl
        · rfl
      · rw [hrd j hj]
        by_cases h : j = q
        · subst h
          rw [if_pos rfl, if_pos (show (rd_T76 l j).f0 = par from he)]
          exact ⟨i, rfl⟩
        · rw [if_neg h, if_neg (show ¬ (rd_T76 l j).f0 = par from fun e => h (same_id hu hj hq (e.trans he.symm)))]
          exact ⟨0, by simp⟩
      · rw [hrd j hj]; split
        · rename_i h; subst h; exact ⟨rfl, rfl, rfl, rfl⟩
        · exact ⟨rfl, rfl, rfl, rfl⟩
    have hk := check_add hc ha hnx hl (alone_new (nx := nx + 1) h0 h1 |> fun h => ⟨h.word, h.root, h.role, h.kids, h.props, h.refs⟩)
    refine ⟨hk, wf_add ha hw hi hx, by simp; omega, fun h => absurd h hp, fun _ => ?_⟩
    have ht := touched_add1 (p := { rd_T76 l q with f5 := (rd_T76 l q).f5.take i ++ [nx] ++ (rd_T76 l q).f5.drop i }) (n := { newN nx with f2 := par, f3 := role }) hc hq rfl rfl (fun e => ?_) (up_of_check hk)
    · rw [ht, he]
    · have e5 := congrArg (fun n : S76 => n.f5.length) e
      simp only [List.length_append, List.length_singleton] at e5
      have e6 : (rd_T76 l q).f5.length = ((rd_T76 l q).f5.take i).length + ((rd_T76 l q).f5.drop i).length := by rw [← List.length_append, List.take_append_drop]
      omega
end Go.Proofs.Ytlopfkkegjajlaa
namespace Go.Proofs.Ytlopfkkegjajlaa
open Go.RowKit Go.Proofs.YtlopfkkegjajlaaW.PrintWords PHistoryTouched
theorem add0 (bd : Addr) : bd.add (0 : Nat) = bd := by unfold Addr.add; split <;> simp_all
theorem touch_rd {W W' : World} {v : Value} {xs : List Int} (h : (Kd.int .i64).R 3 W' W.heap.size (fun _ => True) v xs) : ∃ A c, v = .slice A xs.length c ∧ Kd.C (Kd.int .i64) W' A xs.length xs := by
  obtain ⟨A, c, h1, _, h2⟩ := Kd.R_reads h
  exact ⟨A, c, h1, h2⟩
theorem edit_open {nx id : Int} {l : List S76} {w w' : World} {e : Ending} (hw : WfL l) (hs : SmallL l) (h : EditPost nx l id w e w') : ∃ x Ay ny cy er, e = .returned (.tuple #[.agg #[.int .i64 x, .slice Ay ny cy], .int .i64 er]) ∧ Below w.heap.size w w' ∧
    (er = 0 → CheckP nx l ∧ ∃ l2, x = nx ∧ ny = l2.length ∧ CheckP nx l2 ∧ WfL l2 ∧ l2.length ≤ 1048576 ∧ Kd.C k76 w' Ay l2.length l2 ∧ (refT l l2 = [] ∨ refT l l2 = [id])) := by
  obtain ⟨hb, ⟨er, hne, rfl⟩ | ⟨v, q, ps, rfl, hc, hq, he, hp, hR⟩⟩ := h
  · exact ⟨0, none, 0, 0, er, rfl, hb, fun h => absurd h hne⟩
  · obtain ⟨Ay, cy, rfl, _, hC⟩ := Kd.R_reads hR
    obtain ⟨h1, h2, h3, h4⟩ := putLaw hc hw hq hp
    refine ⟨nx, Ay, _, cy, 0, rfl, hb, fun _ => ⟨hc, _, rfl, rfl, h1, h2, by rw [h3]; exact hs.n, hC, ?_⟩⟩
    rw [he] at h4; exact h4
theorem add_open {nx par : Int} {l : List S76} {role : ByteArray} {w w' : World} {e : Ending} (hw : WfL l) (hi : I64 par) (h : AddPost nx par l role w e w') : ∃ x Ay ny cy md er, e = .returned (.tuple #[.agg #[.int .i64 x, .slice Ay ny cy], .int .i64 md, .int .i64 er]) ∧ Below w.heap.size w w' ∧
    (er = 0 → CheckP nx l ∧ md = nx ∧ ∃ l2, ny = l2.length ∧ CheckP x l2 ∧ WfL l2 ∧ l2.length ≤ 1048576 ∧ Kd.C k76 w' Ay l2.length l2 ∧ (par = 0 → refT l l2 = [nx]) ∧ (par ≠ 0 → refT l l2 = [par, nx])) := by
  obtain ⟨hb, ⟨er, hne, rfl⟩ | ⟨v, l', rfl, hc, hnx, hl, hR, hh, h0, h1, hd⟩⟩ := h
  · exact ⟨0, none, 0, 0, 0, er, rfl, hb, fun h => absurd h hne⟩
  · obtain ⟨Ay, cy, rfl, _, hC⟩ := Kd.R_reads hR
    obtain ⟨g1, g2, g3, g4, g5⟩ := addLaw hc hw hnx hl hi hh h0 h1 hd
    exact ⟨nx + 1, Ay, _, cy, nx, 0, rfl, hb, fun _ => ⟨hc, rfl, l', rfl, g1, g2, g3, hC, g4, g5⟩⟩
structure EdW (w : World) (nx : Int) (A : Option Addr) (l : List S76) (c : Nat) (W : World) : Prop where
  b : Below w.heap.size w W
  k : W.heap[w.heap.size]? = some (.cells #[.int .i64 nx, .slice A l.length c] 27 (0, 0))
theorem EdW.below {w : World} {nx : Int} {A : Option Addr} {l : List S76} {c : Nat} {W W' : World} (h : EdW w nx A l c W) (hb : Below W.heap.size W W') : EdW w nx A l c W' := ⟨below_step h.b hb, blk_below h.k hb⟩
set_option maxRecDepth 100000 in
set_option maxHeartbeats 16000000 in
theorem edits_any (nx id : Int) (A : Option Addr) (l : List S76) (c : Nat) (name value : ByteArray) (w : World) (hin : In4 w A l c) (hi : I64 id) :
    Calls Try.prog 8 #[.agg #[.int .i64 nx, .slice A l.length c], .int .i64 id, .string name, .string value] w fun e w' => e = .returned (.bool true) ∧ Below w.heap.size w w' := by
  have HIN := hidm hin
  have HI := hidm hi
  have HE : Hid (EdW w nx A l c (w.alloc (.cells #[.int .i64 nx, .slice A l.length c] 27))) := ⟨below_alloc (Below.refl _ _) _, blk_new _ _⟩
  clear hin hi
  go_enter Try.func8, Try.ntmps8
  go_wp2_with fail
  generalize (w.alloc (.cells #[.int .i64 nx, .slice A l.length c] 27)) = W at HE ⊢
  refine (awake_any W).mono ?_
  rintro e w1 ⟨rfl, hb1⟩
  replace HE := hidm (HE.out.below hb1)
  clear hb1
  have q0 : w1.cell? ⟨w.heap.size, 0, none⟩ = some (.int .i64 nx) := blk_cell HE.out.k 0
  have q1 : w1.cell? ⟨w.heap.size, 1, none⟩ = some (.slice A l.length c) := blk_cell HE.out.k 1
  have HK1 : Hid ((w1.alloc (.cells #[.int .i64 nx, .slice A l.length c] 27)).heap[w1.heap.size]? = some (.cells #[.int .i64 nx, .slice A l.length c] 27 (0, 0))) := blk_new _ _
  have HB1 : Hid (Below w1.heap.size w1 (w1.alloc (.cells #[.int .i64 nx, .slice A l.length c] 27))) := below_alloc (Below.refl _ _) _
  go_wp2_with fail
  generalize (w1.alloc (.cells #[.int .i64 nx, .slice A l.length c] 27)) = w2 at HK1 HB1 ⊢
  obtain ⟨r, hg⟩ := great_any (some ⟨w1.heap.size, 0, none⟩) [⟨nx, l⟩] 1 w2 (one_C HK1.out (Kd.C_below HIN.out.r (below_step HE.out.b HB1.out)) HIN.out.cap) (Nat.le_refl _)
  refine hg.mono ?_
  clear hg q0 q1
  rintro e w3 ⟨rfl, hb3⟩
  replace HE := hidm (HE.out.below (below_step HB1.out hb3))
  clear hb3 HK1 HB1
  cases r with
  | true =>
    go_wp2_with fail
    go_ret
    exact ⟨rfl, HE.out.b⟩
  | false =>
  have q0 : w3.cell? ⟨w.heap.size, 0, none⟩ = some (.int .i64 nx) := blk_cell HE.out.k 0
  have q1 : w3.cell? ⟨w.heap.size, 1, none⟩ = some (.slice A l.length c) := blk_cell HE.out.k 1
  go_wp2_with fail
  clear q0 q1
  refine (put_any nx id A l c name value w3 (Kd.C_below HIN.out.r HE.out.b) HIN.out.sm HIN.out.wf HI.out).mono ?_
  rintro e w4 hpost
  obtain ⟨x, Ay, ny, cy, er, rfl, hb, hok⟩ := edit_open HIN.out.wf HIN.out.sm hpost
  have HOK := hidm hok
  replace HE := hidm (HE.out.below (below_alloc hb (.cells #[.int .i64 x, .slice Ay ny cy] 27)))
  have K9 := hidm (blk_new w4 (.cells #[.int .i64 x, .slice Ay ny cy] 27))
  have HBA : Hid (∀ (A' : Option Addr) (n' : Nat) (xs : List S76), Kd.C k76 w4 A' n' xs → Kd.C k76 (w4.alloc (.cells #[.int .i64 x, .slice Ay ny cy] 27)) A' n' xs) := fun _ _ _ h => Kd.C_below h (below_alloc (Below.refl _ _) _)
  clear hb hok hpost
  go_upto_if 34 with fail
  generalize (w4.alloc (.cells #[.int .i64 x, .slice Ay ny cy] 27)) = w5 at HE K9 HBA ⊢
  generalize w4.heap.size = b9 at K9 ⊢
  go_cut [10] from 9 (fun _ W => Hid (EdW w nx A l c W))
  case first =>
    by_cases he : er = 0
    · have he1 : (er == 0) = true := by simp [he]
      obtain ⟨hck, l2, hx, hny, hck2, hwf2, hl2, hC2, hT⟩ := HOK.out he
      subst x
      subst ny
      clear he
      have q0 : w5.cell? ⟨w.heap.size, 0, none⟩ = some (.int .i64 nx) := blk_cell HE.out.k 0
      have q1 : w5.cell? ⟨w.heap.size, 1, none⟩ = some (.slice A l.length c) := blk_cell HE.out.k 1
      have q2 : w5.cell? ⟨b9, 0, none⟩ = some (.int .i64 nx) := blk_cell K9.out 0
      have q3 : w5.cell? ⟨b9, 1, none⟩ = some (.slice Ay l2.length cy) := blk_cell K9.out 1
      have HT := hidm hT
      have htc := touched_yes nx nx A Ay l l2 c cy w5 (Kd.C_below HIN.out.r HE.out.b) HIN.out.wf (HBA.out _ _ _ hC2) hwf2 hck hck2 HIN.out.sm.n hl2
      clear hck hck2 hwf2 hC2 hT HOK
      go_wp2_with fail
      clear q0 q1 q2 q3
      refine htc.mono ?_
      clear htc
      rintro e w6 ⟨v, rfl, hR, hb⟩
      obtain ⟨Xv, cx, rfl, hC⟩ := touch_rd hR
      have HC := hidm hC
      replace HE := hidm (HE.out.below hb)
      clear hR hb hC
      rcases HT.out with hT | hT
      · rw [hT] at HC ⊢
        clear hT
        have hl0 : (([] : List Int).length : Int) = 0 := rfl
        go_wp2_with fail
        go_meet
        case rel => exact HE
      · rw [hT] at HC ⊢
        clear hT
        obtain ⟨bd, rfl, hz⟩ := kid_at HC.out 0 (by simp)
        have hz' : w6.cell? bd = some (.int .i64 id) := by rw [add0] at hz; exact hz
        clear hz
        go_wp2_with fail
        go_meet
        case rel => exact HE
    · have he1 : (er == 0) = false := by rw [beq_eq_false_iff_ne]; exact he
      clear he
      go_wp2_with fail
      go_meet
      case rel => exact HE
  case rest =>
  clear HOK K9 HBA HE
  have HE := hcut
  clear hcut
  have q0 : wc.cell? ⟨w.heap.size, 0, none⟩ = some (.int .i64 nx) := blk_cell HE.out.k 0
  have q1 : wc.cell? ⟨w.heap.size, 1, none⟩ = some (.slice A l.length c) := blk_cell HE.out.k 1
  go_wp2_with fail
  clear q0 q1
  refine (drop_any nx id A l c name wc (Kd.C_below HIN.out.r HE.out.b) HIN.out.sm HIN.out.wf HI.out).mono ?_
  rintro e w4 hpost
  obtain ⟨x, Ay, ny, cy, er, rfl, hb, hok⟩ := edit_open HIN.out.wf HIN.out.sm hpost
  have HOK := hidm hok
  replace HE := hidm (HE.out.below (below_alloc hb (.cells #[.int .i64 x, .slice Ay ny cy] 27)))
  have K9 := hidm (blk_new w4 (.cells #[.int .i64 x, .slice Ay ny cy] 27))
  have HBA : Hid (∀ (A' : Option Addr) (n' : Nat) (xs : List S76), Kd.C k76 w4 A' n' xs → Kd.C k76 (w4.alloc (.cells #[.int .i64 x, .slice Ay ny cy] 27)) A' n' xs) := fun _ _ _ h => Kd.C_below h (below_alloc (Below.refl _ _) _)
  clear hb hok hpost
  go_upto_if 68 with fail
  generalize (w4.alloc (.cells #[.int .i64 x, .slice Ay ny cy] 27)) = w5 at HE K9 HBA ⊢
  generalize w4.heap.size = b9 at K9 ⊢
  go_cut [10] from 9 (fun _ W => Hid (EdW w nx A l c W))
  case first =>
    by_cases he : er = 0
    · have he1 : (er == 0) = true := by simp [he]
      obtain ⟨hck, l2, hx, hny, hck2, hwf2, hl2, hC2, hT⟩ := HOK.out he
      subst x
      subst ny
      clear he
      have q0 : w5.cell? ⟨w.heap.size, 0, none⟩ = some (.int .i64 nx) := blk_cell HE.out.k 0
      have q1 : w5.cell? ⟨w.heap.size, 1, none⟩ = some (.slice A l.length c) := blk_cell HE.out.k 1
      have q2 : w5.cell? ⟨b9, 0, none⟩ = some (.int .i64 nx) := blk_cell K9.out 0
      have q3 : w5.cell? ⟨b9, 1, none⟩ = some (.slice Ay l2.length cy) := blk_cell K9.out 1
      have HT := hidm hT
      have htc := touched_yes nx nx A Ay l l2 c cy w5 (Kd.C_below HIN.out.r HE.out.b) HIN.out.wf (HBA.out _ _ _ hC2) hwf2 hck hck2 HIN.out.sm.n hl2
      clear hck hck2 hwf2 hC2 hT HOK
      go_wp2_with fail
      clear q0 q1 q2 q3
      refine htc.mono ?_
      clear htc
      rintro e w6 ⟨v, rfl, hR, hb⟩
      obtain ⟨Xv, cx, rfl, hC⟩ := touch_rd hR
      have HC := hidm hC
      replace HE := hidm (HE.out.below hb)
      clear hR hb hC
      rcases HT.out with hT | hT
      · rw [hT] at HC ⊢
        clear hT
        have hl0 : (([] : List Int).length : Int) = 0 := rfl
        go_wp2_with fail
        go_meet
        case rel => exact HE
      · rw [hT] at HC ⊢
        clear hT
        obtain ⟨bd, rfl, hz⟩ := kid_at HC.out 0 (by simp)
        have hz' : w6.cell? bd = some (.int .i64 id) := by rw [add0] at hz; exact hz
        clear hz
        go_wp2_with fail
        go_meet
        case rel => exact HE
    · have he1 : (er == 0) = false := by rw [beq_eq_false_iff_ne]; exact he
      clear he
      go_wp2_with fail
      go_meet
      case rel => exact HE
  case rest =>
    clear HOK K9 HBA HE
    have HE := hcut
    clear hcut
    have q0 : wc.cell? ⟨w.heap.size, 0, none⟩ = some (.int .i64 nx) := blk_cell HE.out.k 0
    have q1 : wc.cell? ⟨w.heap.size, 1, none⟩ = some (.slice A l.length c) := blk_cell HE.out.k 1
    go_wp2_with fail
    clear q0 q1
    refine (add_any nx id A l c name wc (Kd.C_below HIN.out.r HE.out.b) HIN.out.sm HIN.out.wf HI.out).mono ?_
    rintro e w4 hpost
    obtain ⟨x, Ay, ny, cy, md, er, rfl, hb, hok⟩ := add_open HIN.out.wf HI.out hpost
    have HOK := hidm hok
    replace HE := hidm (HE.out.below (below_alloc hb (.cells #[.int .i64 x, .slice Ay ny cy] 27)))
    have K9 := hidm (blk_new w4 (.cells #[.int .i64 x, .slice Ay ny cy] 27))
    have HBA : Hid (∀ (A' : Option Addr) (n' : Nat) (xs : List S76), Kd.C k76 w4 A' n' xs → Kd.C k76 (w4.alloc (.cells #[.int .i64 x, .slice Ay ny cy] 27)) A' n' xs) := fun _ _ _ h => Kd.C_below h (below_alloc (Below.refl _ _) _)
    clear hb hok hpost
    by_cases he : er = 0
    · have he1 : (er != 0) = false := by simp [he]
      obtain ⟨hck, hmd, l2, hny, hck2, hwf2, hl2, hC2, hT0, hT1⟩ := HOK.out he
      subst md
      subst ny
      clear he
      have q0 : (w4.alloc (.cells #[.int .i64 x, .slice Ay l2.length cy] 27)).cell? ⟨w.heap.size, 0, none⟩ = some (.int .i64 nx) := blk_cell HE.out.k 0
      have q1 : (w4.alloc (.cells #[.int .i64 x, .slice Ay l2.length cy] 27)).cell? ⟨w.heap.size, 1, none⟩ = some (.slice A l.length c) := blk_cell HE.out.k 1
      have HT0 := hidm hT0
      have HT1 := hidm hT1
      have htc := touched_yes nx x A Ay l l2 c cy _ (Kd.C_below HIN.out.r HE.out.b) HIN.out.wf (HBA.out _ _ _ hC2) hwf2 hck hck2 HIN.out.sm.n hl2
      clear hck hck2 hwf2 hC2 hT0 hT1 HOK
      go_wp2_with fail
      clear q0 q1
      refine htc.mono ?_
      clear htc
      rintro e w6 ⟨v, rfl, hR, hb⟩
      obtain ⟨Xv, cx, rfl, hC⟩ := touch_rd hR
      have HC := hidm hC
      replace HE := hidm (HE.out.below hb)
      clear hR hb hC
      by_cases hid : id = 0
      · have hd1 : (id == 0) = true := by simp [hid]
        have hT := HT0.out hid
        clear hid
        rw [hT] at HC ⊢
        clear hT
        obtain ⟨bd, rfl, hz⟩ := kid_at HC.out 0 (by simp)
        have hz' : w6.cell? bd = some (.int .i64 nx) := by rw [add0] at hz; exact hz
        clear hz
        go_wp2_with fail
        go_ret
        exact ⟨rfl, HE.out.b⟩
      · have hd1 : (id == 0) = false := by rw [beq_eq_false_iff_ne]; exact hid
        have hT := HT1.out hid
        clear hid
        rw [hT] at HC ⊢
        clear hT
        obtain ⟨bd, rfl, hz⟩ := kid_at HC.out 0 (by simp)
        have hz' : w6.cell? bd = some (.int .i64 id) := by rw [add0] at hz; exact hz
        obtain ⟨bd2, hbd, hz2⟩ := kid_at HC.out 1 (by simp)
        injection hbd with hbd
        subst hbd
        have hz3 : w6.cell? (bd.add 1) = some (.int .i64 nx) := hz2
        have hz4 : w6.cell? ⟨bd.block, bd.off + 1, none⟩ = some (.int .i64 nx) := hz3
        clear hz hz2
        go_wp2_with fail
        go_ret
        exact ⟨rfl, HE.out.b⟩
    · have he1 : (er != 0) = true := by rw [bne_iff_ne]; exact he
      clear he
      go_wp2_with fail
      go_ret
      exact ⟨rfl, HE.out.b⟩
end Go.Proofs.Ytlopfkkegjajlaa
