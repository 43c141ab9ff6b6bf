/- RecordAlone: the walk (seat Record). -/
import Derived.Test.YtedojdbihajnbaaRecX
import Derived.Test.YtedojdbihajnbaaOpn
import Derived.Test.YtedojdbihajnbaaVarS
namespace Go.Proofs.Ytedojdbihajnbaa
open Go.RowKit Go.Shelf VB
open Go.Lib (hid)
set_option linter.unusedVariables false
set_option linter.unusedSimpArgs false
theorem rightB_of {m : Mu} (h : Right m) : rightB m = true := by
  unfold rightB headB epsB lenB timeB
  have h1 := h.k1
  have h2 := h.k4
  have h3 := h.f0
  have h4 := h.f1
  have h5 := h.e0
  have h6 := h.e1
  have h7 := h.s0
  have h8 := h.s1
  have hk : (decide (m.kind ≠ 3) || (decide (1 ≤ m.pts.length) && decide (m.pts.length ≤ 16))) = true := by
    by_cases hk : m.kind = 3
    · have := h.len hk
      simp [this.1, this.2]
    · simp [hk]
  rw [hk, h.name, h.pts, decide_eq_true h.bare, decide_eq_true h1, decide_eq_true h2, decide_eq_true h3, decide_eq_true h4, decide_eq_true h5, decide_eq_true h6, decide_eq_true h7, decide_eq_true h8]
  rfl
theorem ptBy_byte (l : List (Int × Int)) (i : Nat) : ∀ x ∈ ptBy l i, x < 256 := by
  intro x hx
  unfold ptBy at hx
  split at hx
  all_goals
    rcases List.mem_append.1 hx with h | h
    · exact vb_byte _ x h
    · exact vb_byte _ x h
theorem mutB_byte {m : Mu} (h : Right m) : ∀ x ∈ mutB m, x < 256 := by
  intro x hx
  unfold mutB at hx
  rcases List.mem_append.1 hx with hx | hx
  · rcases List.mem_append.1 hx with hx | hx
    · have h1 := h.k4
      have h2 := h.name
      unfold nameB at h2
      simp only [Bool.and_eq_true, decide_eq_true_eq] at h2
      have h3 := h2.1.2
      simp only [List.mem_cons, List.not_mem_nil, or_false] at hx
      omega
    · unfold nmL at hx
      obtain ⟨b, _, rfl⟩ := List.mem_map.1 hx
      exact b.toNat_lt
  · unfold bodyB at hx
    split at hx
    · rcases List.mem_append.1 hx with h | h
      · exact vb_byte _ x h
      · exact vb_byte _ x h
    · split at hx
      · exact absurd hx (by simp)
      · split at hx
        · rcases List.mem_append.1 hx with h | h
          · exact vb_byte _ x h
          · unfold ptsBy at h
            obtain ⟨i, _, h⟩ := List.mem_flatMap.1 h
            exact ptBy_byte _ _ x h
        · exact vb_byte _ x hx
/-- what Encode hands back for a mutation that may be -/
def RetEncR (l : List Nat) (n : Nat) (w : World) (e : Ending) (w' : World) : Prop :=
  ∃ C f, e = .returned (.tuple #[.slice C n f, .int .i64 0]) ∧ Below w.heap.size w w' ∧ Reads w' 5 1 C n (bsV l) ∧ n ≤ f ∧ f ≤ maxLen
theorem enc_right {m : Mu} {w w' : World} {e : Ending} (h : RetEnc m w e w') (hr : rightB m = true) {n : Nat} (hn : (mutB m).length = n) : RetEncR (mutB m) n w e w' := by
  unfold RetEnc at h
  rw [if_pos hr, hn] at h
  obtain ⟨C, f, he, hb, ho⟩ := h
  obtain ⟨_, _, hv, hf1, hf2⟩ := own_form ho
  injection hv with hv1 hv2 hv3
  exact ⟨C, f, he, hb, Reads.of_own ho, by omega, by omega⟩
def RetEncW (w : World) (e : Ending) (w' : World) : Prop := e = .returned (.tuple #[.slice none 0 0, .int .i64 280]) ∧ Below w.heap.size w w'
theorem enc_wrong {m : Mu} {w w' : World} {e : Ending} (h : RetEnc m w e w') (hr : rightB m = false) : RetEncW w e w' := by
  unfold RetEnc at h
  rw [if_neg (by rw [hr]; decide)] at h
  exact h
theorem not_pre {a b : Mu} (ha : Right a) (hb : Right b) (hne : ¬ a = b) {n : Nat} (hn : n = (mutB a).length) : decide ((mutB b).take n = mutB a) = false :=
  decide_eq_false fun h => hne (mutB_free (r := (mutB b).drop n) ha hb (by rw [← h, List.take_append_drop]))
theorem own40 (m : Mu) : (ownM m).pts.length ≤ 40 := by
  unfold ownM
  simp only [List.length_take]
  omega
set_option maxRecDepth 100000 in
set_option maxHeartbeats 4000000 in
theorem alone_core {e1 e2 : TypeId} (A : Option Addr) (n c : Nat) (bs : List Nat) (m : Mu) (B : Option Addr) (cB : Nat) (w : World) (hb : Reads w e1 1 A n (bsV bs)) (hc : n ≤ c) (hcm : c ≤ maxLen) (hbs : ∀ x ∈ bs, x < 256)
    (hz : Reads w e2 2 B m.pts.length (m.pts.flatMap cellsP)) (hB : m.pts.length ≤ cB) (hBm : cB ≤ maxLen) :
    Calls Try.prog 6 #[.slice A n c, vM m B cB] w fun e w' => e = .returned (.bool true) ∧ Below w.heap.size w w' := by
  obtain ⟨hn, hhn⟩ : ∃ hn, hn = min n 600 := ⟨_, rfl⟩
  have hbl : bs.length = n := by have := hb.1; rw [bsV_len] at this; omega
  have HH := hid (fun w' (h : Below w.heap.size w w') => head_r A n hn c bs w' (hb.below h) hc hcm hhn)
  obtain ⟨hs, hhs⟩ : ∃ hs, hs = bs.take hn := ⟨_, rfl⟩
  rw [← hhs] at HH
  have HS := hid (show hs.length ≤ 600 ∧ ∀ x ∈ hs, x < 256 by rw [hhs]; exact ⟨by rw [List.length_take]; omega, fun x hx => hbs x (List.mem_of_mem_take hx)⟩)
  have HZ := hid hz
  have HBB := hid (And.intro hB hBm)
  have KY := hid (Blk.new w 24 (aM m.kind m.name m.eps m.floor m.scale (.slice B m.pts.length cB)))
  have HB0 := hid ((Below.refl w.heap.size w).alloc (Nat.le_refl _) (.cells (aM m.kind m.name m.eps m.floor m.scale (.slice B m.pts.length cB)) 24))
  clear hb hc hcm hbs hz hB hBm hhn hbl hhs
  go_enter Try.func6, Try.ntmps6
  go_wp2_with fail
  refine (wakes_r _).mono ?_
  rintro e w1 ⟨rfl, hb1⟩
  replace KY := hid (KY.out.under hb1)
  have hb1 := HB0.out.trans (hb1.mono (by simp))
  have HB := hid hb1
  clear hb1 HB0
  go_wp2_with fail
  refine (HH.out _ HB.out).mono ?_
  rintro e w2 ⟨C2, f2, rfl, hown2, hb2⟩
  replace KY := hid (KY.out.under hb2)
  replace HB := hid (HB.out.trans (hb2.mono HB.out.size))
  obtain ⟨_, _, hv, hf1, hf2⟩ := own_form hown2
  injection hv with hv1 hv2 hv3
  have hsrc : Src w2 C2 hs.length f2 hs := ⟨Reads.of_own hown2, by have := HS.out.1; omega, by omega, by omega, HS.out.2⟩
  have HSRC := hid hsrc
  have HG := hid (get_c 0 hsrc)
  clear hb2 hown2 hv1 hv2 hv3 hf1 hf2 hsrc HH
  go_wp2_with fail
  refine HG.out.mono ?_
  rintro e w3 ⟨A3, f3, rfl, hown3, hb3⟩
  replace HSRC := hid (HSRC.out.below hb3)
  replace KY := hid (KY.out.under hb3)
  replace HB := hid (HB.out.trans (hb3.mono HB.out.size))
  have HOW := hid hown3
  clear hb3 hown3 HG
  cases hm : mutS hs 0 with
  | error x =>
    have hx := mutS_err hm
    have hg : getM hs 0 = (zMut, 0, x) := by unfold getM; rw [if_pos (by simp)]; simp only [Int.toNat_zero, hm]
    rw [hg] at HOW ⊢
    have hne : (x != 0) = true := by simp [hx]
    clear hx
    have hb3 := (Below.refl w3.heap.size w3).alloc (Nat.le_refl _) (.cells (aM 0 ⟨#[]⟩ 0 0 0 (.slice A3 0 f3)) 24)
    have HSM := hid (Same_c (e1 := 51) (e2 := 51) zMut zMut A3 none f3 0 (w3.alloc (.cells (aM 0 ⟨#[]⟩ 0 0 0 (.slice A3 0 f3)) 24)) ((Reads.of_own HOW.out).alloc _) Reads.none_ (by decide))
    rw [decide_eq_true rfl] at HSM
    have HB3 := hid (HB.out.trans (hb3.mono HB.out.size))
    obtain ⟨c0, c1, c2, c3, c4, c5⟩ := (Blk.new w3 24 (aM 0 ⟨#[]⟩ 0 0 0 (.slice A3 0 f3))).sixc
    clear hb3 KY HB HSRC HOW HZ HBB HS hg hm
    go_wp2_with fail
    refine HSM.out.mono ?_
    rintro e w4 ⟨rfl, hb4⟩
    have HF := hid (HB3.out.trans (hb4.mono HB3.out.size))
    clear hb4 c0 c1 c2 c3 c4 c5
    go_wp2
    go_ret
    exact ⟨rfl, HF.out⟩
  | ok r =>
    obtain ⟨m1, p1⟩ := r
    have hg : getM hs 0 = (m1, p1, 0) := by unfold getM; rw [if_pos (by simp)]; simp only [Int.toNat_zero, hm]
    rw [hg] at HOW ⊢
    obtain ⟨hr1, hd⟩ := mutS_sound HS.out.2 hm
    have hp : p1 = (mutB m1).length := by
      have h := mutS_at hr1 hd
      rw [hm] at h
      injection h with h
      injection h with _ h
      rw [h, Nat.zero_add]
    have hd : hs = mutB m1 ++ hs.drop p1 := by simpa using hd
    have hp0 : 1 ≤ p1 := by
      rw [hp]; unfold mutB; simp
    have hp2 : p1 ≤ hs.length := by rw [hd]; simp; omega
    have htk : hs.take p1 = mutB m1 := by rw [hd, hp]; simp
    have hB1 := rightB_of hr1
    have h16 := hr1.len16
    have hb3 := (Below.refl w3.heap.size w3).alloc (Nat.le_refl _) (.cells (aM m1.kind m1.name m1.eps m1.floor m1.scale (.slice A3 m1.pts.length f3)) 24)
    have KM := hid (Blk.new w3 24 (aM m1.kind m1.name m1.eps m1.floor m1.scale (.slice A3 m1.pts.length f3)))
    replace KY := hid (KY.out.under hb3)
    replace HSRC := hid (HSRC.out.below hb3)
    have HPM := hid ((Reads.of_own HOW.out).alloc (.cells (aM m1.kind m1.name m1.eps m1.floor m1.scale (.slice A3 m1.pts.length f3)) 24))
    replace HB := hid (HB.out.trans (hb3.mono HB.out.size))
    have HR := hid (And.intro hr1 (And.intro hB1 (And.intro hp (And.intro htk h16))))
    have HE := hid ((Encode_c m1 A3 f3 _ HPM.out (by omega)).mono fun e w' h => enc_right h hB1 hp.symm)
    obtain ⟨c0, c1, c2, c3, c4, c5⟩ := KM.out.sixc
    clear hb3 HOW hg hm hr1 hB1 hp htk h16 hd
    go_wp2_with fail
    refine HE.out.mono ?_
    rintro e w4 ⟨C4, f4, rfl, hb4, hr4, hf4, hf4'⟩
    replace KM := hid (KM.out.under hb4)
    replace KY := hid (KY.out.under hb4)
    replace HSRC := hid (HSRC.out.below hb4)
    replace HPM := hid (HPM.out.below hb4)
    replace HB := hid (HB.out.trans (hb4.mono HB.out.size))
    have HEN := hid hr4
    clear hb4 hr4 c0 c1 c2 c3 c4 c5 HE
    generalize w3.alloc (.cells (aM m1.kind m1.name m1.eps m1.floor m1.scale (.slice A3 m1.pts.length f3)) 24) = w3b at *
    have HC := hid (Check_c m1 A3 f3 w4 HPM.out (by have := HR.out.2.2.2.2; omega))
    rw [HR.out.2.1] at HC
    obtain ⟨c0, c1, c2, c3, c4, c5⟩ := KM.out.sixc
    go_wp2_with fail
    refine HC.out.mono ?_
    rintro e w5 ⟨rfl, hb5⟩
    rw [if_pos rfl]
    replace KM := hid (KM.out.under hb5)
    replace KY := hid (KY.out.under hb5)
    replace HSRC := hid (HSRC.out.below hb5)
    replace HPM := hid (HPM.out.below hb5)
    replace HB := hid (HB.out.trans (hb5.mono HB.out.size))
    replace HEN := hid (HEN.out.below hb5)
    clear hb5 c0 c1 c2 c3 c4 c5 HC
    have HEQ := hid (equal_bs C4 C2 p1 p1 f4 f2 (mutB m1) (hs.take p1) w5 HEN.out (by have h := HSRC.out.reads.take (k := p1) hp2; rw [Nat.mul_one] at h; rw [show bsV (hs.take p1) = (bsV hs).take p1 by simp [bsV, List.map_take]]; exact h) (by have := HS.out.1; omega))
    rw [decide_eq_true HR.out.2.2.2.1.symm] at HEQ
    have g1 : ¬ ((p1 : Int) < 1) := by omega
    have g2 : ¬ ((p1 : Int) > (hs.length : Nat)) := by omega
    have g3 : p1 ≤ f2 := by have := HSRC.out.hc; omega
    go_wp2_with fail
    refine HEQ.out.mono ?_
    rintro e w6 ⟨rfl, q, rfl⟩
    replace KM := hid (KM.out.drewN q)
    replace KY := hid (KY.out.drewN q)
    replace HPM := hid (HPM.out.drewN q)
    replace HB := hid (below_dn HB.out q)
    replace HEN := hid (HEN.out.drewN q)
    clear HEQ HSRC g1 g2 g3
    have HOWN := hid (own_c m B cB (w5.drewN q) (HZ.out.below HB.out) HBB.out.1 HBB.out.2)
    generalize w5.drewN q = w6 at *
    obtain ⟨c0, c1, c2, c3, c4, c5⟩ := KY.out.sixc
    go_wp2_with fail
    refine HOWN.out.mono ?_
    rintro e w7 ⟨C7, f7, rfl, hb7, hown7⟩
    have h40 := own40 m
    obtain ⟨m2, hm2⟩ : ∃ m2, m2 = ownM m := ⟨_, rfl⟩
    rw [← hm2] at hown7 h40 ⊢
    have hbx := (Below.refl w7.heap.size w7).alloc (Nat.le_refl _) (.cells (aM m2.kind m2.name m2.eps m2.floor m2.scale (.slice C7 m2.pts.length f7)) 24)
    have HN := hid (Blk.new w7 24 (aM m2.kind m2.name m2.eps m2.floor m2.scale (.slice C7 m2.pts.length f7)))
    have HPN := hid ((Reads.of_own hown7).alloc (.cells (aM m2.kind m2.name m2.eps m2.floor m2.scale (.slice C7 m2.pts.length f7)) 24))
    replace KM := hid ((KM.out.under hb7).under hbx)
    replace HPM := hid ((HPM.out.below hb7).below hbx)
    replace HB := hid ((HB.out.trans (hb7.mono HB.out.size)).trans (hbx.mono (Nat.le_trans HB.out.size hb7.size)))
    replace HEN := hid ((HEN.out.below hb7).below hbx)
    have HE := hid (Encode_c m2 C7 f7 _ HPN.out (by omega))
    have H40 := hid h40
    clear HOWN KY c0 c1 c2 c3 c4 c5 hb7 hown7 hbx h40 hm2
    obtain ⟨c0, c1, c2, c3, c4, c5⟩ := HN.out.sixc
    go_wp2_with fail
    cases hr2 : rightB m2 with
    | false =>
      refine HE.out.mono ?_
      intro e w8 h8
      obtain ⟨rfl, hb8⟩ := enc_wrong h8 hr2
      have HF := hid (HB.out.trans (hb8.mono HB.out.size))
      clear h8 hb8 c0 c1 c2 c3 c4 c5 hr2
      go_wp2_with fail
      go_ret
      exact ⟨rfl, HF.out⟩
    | true =>
      obtain ⟨n2, hn2⟩ : ∃ n2, n2 = (mutB m2).length := ⟨_, rfl⟩
      have HR2 := hid (And.intro hr2 (And.intro (right_of hr2) hn2))
      refine HE.out.mono ?_
      intro e w8 h8
      obtain ⟨C8, f8, rfl, hb8, hr8, hf8, hf8'⟩ := enc_right h8 hr2 hn2.symm
      have HF := hid (HB.out.trans (hb8.mono HB.out.size))
      replace HN := hid (HN.out.under hb8)
      replace HPN := hid (HPN.out.below hb8)
      replace KM := hid (KM.out.under hb8)
      replace HPM := hid (HPM.out.below hb8)
      replace HEN := hid (HEN.out.below hb8)
      have HEN2 := hid hr8
      clear h8 hb8 c0 c1 c2 c3 c4 c5 hr2 hr8 hn2 HE
      generalize w7.alloc (.cells (aM m2.kind m2.name m2.eps m2.floor m2.scale (.slice C7 m2.pts.length f7)) 24) = w7b at *
      have HSM := hid (Same_c m1 m2 A3 C7 f3 f7 w8 HPM.out HPN.out (by have := HR.out.2.2.2.2; omega))
      obtain ⟨c0, c1, c2, c3, c4, c5⟩ := KM.out.sixc
      obtain ⟨d0, d1, d2, d3, d4, d5⟩ := HN.out.sixc
      go_wp2_with fail
      refine HSM.out.mono ?_
      rintro e w9 ⟨rfl, hb9⟩
      have HG := hid (HF.out.trans (hb9.mono HF.out.size))
      replace HEN := hid (HEN.out.below hb9)
      replace HEN2 := hid (HEN2.out.below hb9)
      clear hb9 c0 c1 c2 c3 c4 c5 d0 d1 d2 d3 d4 d5 HSM HPM HPN KM HN HF
      by_cases hne : m1 = m2
      · rw [decide_eq_true hne]
        clear hne
        go_wp2_with fail
        go_ret
        exact ⟨rfl, HG.out⟩
      · rw [decide_eq_false hne]
        have H1 := hid (prefix_c C8 C4 n2 p1 f8 f4 (mutB m2) (mutB m1) w9 HEN2.out HEN.out hf8 (mutB_byte HR2.out.2.1) (mutB_byte HR.out.1))
        rw [not_pre HR.out.1 HR2.out.2.1 hne HR.out.2.2.1] at H1
        have H2 := hid (prefix_c C4 C8 p1 n2 f4 f8 (mutB m1) (mutB m2) w9 HEN.out HEN2.out hf4 (mutB_byte HR.out.1) (mutB_byte HR2.out.2.1))
        rw [not_pre HR2.out.2.1 HR.out.1 (fun h => hne h.symm) HR2.out.2.2] at H2
        clear hne
        go_wp2_with fail
        refine H1.out.mono ?_
        rintro e w10 ⟨rfl, rfl⟩
        go_wp2_with fail
        refine H2.out.mono ?_
        rintro e w11 ⟨rfl, rfl⟩
        go_wp2_with fail
        go_ret
        exact ⟨rfl, HG.out⟩
theorem alone_in (a0 : Option Addr) (len0 cap0 : Nat) (z0 : List Int) (x1 : Mu) (a1 : Option Addr) (cap1 : Nat) (w : World) (w0 : RowIn .u8 w a0 len0 cap0 z0) (w1 : MuIn w x1 a1 cap1) :
    Calls Try.prog 6 #[.slice a0 len0 cap0, vM x1 a1 cap1] w fun e w' => e = .returned (.bool true) ∧ Below w.heap.size w w' := by
  obtain ⟨_, h2, e, h3⟩ := bytes_in w0
  obtain ⟨e2, h4, h5, h6⟩ := w1
  exact alone_core a0 len0 cap0 (bytesOf z0 len0) x1 a1 cap1 w h3 w0.len.1 w0.len.2.2 h2 h4 h5 h6
end Go.Proofs.Ytedojdbihajnbaa
