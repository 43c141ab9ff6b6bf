/- ManifestAlone: the walk. -/
import Derived.Test.YtgdnpmjmkcccoaaMArg
namespace Go.Proofs.Ytgdnpmjmkcccoaa
open Go.RowKit Go.Shelf VB
open Go.Lib (hid)
set_option linter.unusedVariables false
set_option linter.unusedSimpArgs false
set_option maxRecDepth 100000 in
set_option maxHeartbeats 4000000 in
theorem malone_core {e1 : TypeId} (A : Option Addr) (n c : Nat) (bs : List Nat) (B : Option Addr) (m cB : Nat) (rows : List RoA) (w : World) (hb : Reads w e1 1 A n (bsV bs)) (hc : n ≤ c) (hcm : c ≤ maxLen) (hbs : ∀ x ∈ bs, x < 256) (hz : MArg w B m cB rows) :
    Calls Try.prog 5 #[.slice A n c, .agg #[.slice B m cB]] w fun e w' => e = .returned (.bool true) ∧ Below w.heap.size w w' := by
  obtain ⟨hn, hhn⟩ : ∃ hn, hn = min n 3000 := ⟨_, rfl⟩
  have hbl : bs.length = n := by have := hb.1; rw [bsV_len] at this; omega
  have HH := hid (fun w' (h : Below w.heap.size w w') => few_22 A n hn c bs w' (hb.below h) hc hcm hhn)
  obtain ⟨hs, hhs⟩ : ∃ hs, hs = bs.take hn := ⟨_, rfl⟩
  rw [← hhs] at HH
  have HS := hid (show hs.length ≤ 3000 ∧ ∀ x ∈ hs, x < 256 by rw [hhs]; exact ⟨by rw [List.length_take]; omega, fun x hx => hbs x (List.mem_of_mem_take hx)⟩)
  have HZ := hid hz
  have KY := hid (Blk.new w 24 #[.slice B m cB])
  have HB0 := hid ((Below.refl w.heap.size w).alloc (Nat.le_refl _) (.cells #[.slice B m cB] 24))
  clear hb hc hcm hbs hz hhn hbl hhs
  go_enter Try.func5, Try.ntmps5
  go_wp2_with fail
  refine (wakes_22 _).mono ?_
  rintro e w1 ⟨rfl, hb1⟩
  replace KY := hid (KY.out.under hb1)
  have hb1 := HB0.out.trans (hb1.mono (by simp))
  have HB := hid hb1
  clear hb1 HB0
  go_wp2_with fail
  refine (HH.out _ HB.out).mono ?_
  rintro e w2 ⟨C2, f2, rfl, hown2, hb2⟩
  replace KY := hid (KY.out.under hb2)
  replace HB := hid (HB.out.trans (hb2.mono HB.out.size))
  obtain ⟨_, _, hv, hf1, hf2⟩ := own_form hown2
  injection hv with hv1 hv2 hv3
  have hsrc : Src w2 C2 hs.length f2 hs := ⟨Reads.of_own hown2, by have := HS.out.1; omega, by omega, by omega, HS.out.2⟩
  have HSRC := hid hsrc
  have HG := hid (Decode_c hsrc)
  clear hb2 hown2 hv1 hv2 hv3 hf1 hf2 hsrc HH
  cases hm : decM hs with
  | error x =>
    have hx := dec_error hm
    rw [hm] at HG
    have hne : (x != 0) = true := by simp [hx]
    have HG2 := hid (HG.out.mono (R' := fun d w' => d = .returned (.tuple #[.agg #[.slice none 0 0], .int .i64 x]) ∧ Below w2.heap.size w2 w') fun d w' h => h)
    clear hx hm HG KY HSRC HZ HS
    go_wp2_with fail
    refine HG2.out.mono ?_
    rintro e w3 ⟨rfl, hb3⟩
    have hb3 := HB.out.trans (hb3.mono HB.out.size)
    have HF := hid (hb3.alloc hb3.size (.cells #[.slice none 0 0] 24))
    clear hb3 HB HG2
    go_wp2_with fail
    go_ret
    exact ⟨rfl, HF.out⟩
  | ok l =>
    rw [hm] at HG
    obtain ⟨ho, hl, hbm⟩ := dec_sound HS.out.2 hm
    have HL := hid (And.intro ho (And.intro hl hbm))
    have HG2 := hid (HG.out.mono (R' := fun d w' => ∃ xs k C f, d = .returned (.tuple #[.agg #[.slice C k f], .int .i64 0]) ∧ Below w2.heap.size w2 w' ∧ xs.map RoA.d = l ∧ ManIn w' C k f xs) fun d w' h => by
      obtain ⟨xs, C, f, h1, h2, h3, h4, h5⟩ := h
      exact ⟨xs, xs.length, C, f, h1, h2, h3, h5.man h4⟩)
    clear hm ho hl hbm HG
    go_wp2_with fail
    refine HG2.out.mono ?_
    rintro e w3 ⟨xs, k, C3, f3, rfl, hb3, hxs, hman⟩
    have hb3' := hb3.alloc hb3.size (.cells #[.slice C3 k f3] 24)
    have KM := hid (Blk.new w3 24 #[.slice C3 k f3])
    replace KY := hid (KY.out.under hb3')
    replace HB := hid (HB.out.trans (hb3'.mono HB.out.size))
    replace HSRC := hid (HSRC.out.below hb3')
    have HM := hid (hman.below ((Below.refl w3.heap.size w3).alloc (Nat.le_refl _) (.cells #[.slice C3 k f3] 24)))
    have HXS := hid hxs
    obtain ⟨p1, hp1⟩ : ∃ p1, (manBy l).length = p1 := ⟨_, rfl⟩
    have HE := hid ((Encode_c C3 k f3 xs _ HM.out).mono fun e w' h => encM_right (by rw [hxs] at h; exact h) HL.out.2.1 hp1)
    have HP1 := hid hp1
    clear hb3 hb3' hman hxs hp1 HG2
    have c0 : (w3.alloc (.cells #[.slice C3 k f3] 24)).cell? ⟨w3.heap.size, 0, none⟩ = some (.slice C3 k f3) := KM.out.cell 0
    go_wp2_with fail
    refine HE.out.mono ?_
    rintro e w4 ⟨C4, f4, rfl, hb4, hr4, hf4, hf4'⟩
    replace KM := hid (KM.out.under hb4)
    replace KY := hid (KY.out.under hb4)
    replace HSRC := hid (HSRC.out.below hb4)
    replace HM := hid (HM.out.below hb4)
    replace HB := hid (HB.out.trans (hb4.mono HB.out.size))
    have HEN := hid hr4
    have HF4 := hid (And.intro hf4 hf4')
    clear hb4 hr4 c0 HE hf4 hf4'
    generalize w3.alloc (.cells #[.slice C3 k f3] 24) = w3b at *
    have HEQ := hid (equal_bs C4 C2 p1 hs.length f4 f2 (manBy l) hs w4 HEN.out HSRC.out.reads (by have := HS.out.1; have := HP1.out; rw [← HL.out.2.2] at this; omega))
    rw [decide_eq_true HL.out.2.2.symm] at HEQ
    go_wp2_with fail
    refine HEQ.out.mono ?_
    rintro e w5 ⟨rfl, q, rfl⟩
    replace KM := hid (KM.out.drewN q)
    replace KY := hid (KY.out.drewN q)
    replace HM := hid (HM.out.below (below_dn (Below.refl _ _) q))
    replace HB := hid (below_dn HB.out q)
    replace HEN := hid (HEN.out.drewN q)
    clear HEQ HSRC
    generalize w4.drewN q = w5 at *
    have HC := hid (Check_c C3 k f3 xs w5 HM.out)
    rw [HXS.out, show manE l = 0 by unfold manE; rw [if_pos HL.out.2.1]] at HC
    have c0 : w5.cell? ⟨w3.heap.size, 0, none⟩ = some (.slice C3 k f3) := KM.out.cell 0
    go_wp2_with fail
    refine HC.out.mono ?_
    rintro e w6 ⟨rfl, hb6⟩
    replace KM := hid (KM.out.under hb6)
    replace KY := hid (KY.out.under hb6)
    replace HM := hid (HM.out.below hb6)
    replace HB := hid (HB.out.trans (hb6.mono HB.out.size))
    replace HEN := hid (HEN.out.below hb6)
    clear hb6 c0 HC
    have HOWN := hid ((own_22 B m cB rows w6 (MArg.below HZ.out HB.out)).mono fun e w' h => ownN h)
    have y0 : w6.cell? ⟨w.heap.size, 0, none⟩ = some (.slice B m cB) := KY.out.cell 0
    go_wp2_with fail
    refine HOWN.out.mono ?_
    rintro e w7 ⟨ns, k2, C7, f7, hns, rfl, hman7, hb7, _, _⟩
    obtain ⟨l2, hl2⟩ : ∃ l2, l2 = ownL (rows.map RoA.d) 9 := ⟨_, rfl⟩
    rw [← hl2] at hns
    have hb8 := (Below.refl w7.heap.size w7).alloc (Nat.le_refl _) (.cells #[.slice C7 k2 f7] 24)
    have hbx := hb7.trans (hb8.mono hb7.size)
    have KN := hid (Blk.new w7 24 #[.slice C7 k2 f7])
    have HMN := hid (hman7.below hb8)
    have HNS := hid hns
    have HOK := hid (fun ho => manOk_of (l := l2) ho (by rw [← hns]; exact hman7.fs))
    replace KM := hid (KM.out.under hbx)
    replace HM := hid (HM.out.below hbx)
    replace HB := hid (HB.out.trans (hbx.mono HB.out.size))
    replace HEN := hid (HEN.out.below hbx)
    have HE := hid ((Encode_c C7 k2 f7 ns _ HMN.out).mono (R' := fun e w' => RetEnc l2 (w7.alloc (.cells #[.slice C7 k2 f7] 24)) e w') fun e w' h => by rw [hns] at h; exact h)
    clear HOWN KY y0 hb7 hb8 hbx hman7 hns hl2
    have d0 : (w7.alloc (.cells #[.slice C7 k2 f7] 24)).cell? ⟨w7.heap.size, 0, none⟩ = some (.slice C7 k2 f7) := KN.out.cell 0
    cases hr2 : manOk l2 with
    | false =>
      have HE2 := hid (HE.out.mono fun e w' h => encM_wrong h hr2)
      clear HE hr2
      go_wp2_with fail
      refine HE2.out.mono ?_
      rintro e w8 ⟨rfl, hb8⟩
      have HF := hid (HB.out.trans (hb8.mono HB.out.size))
      clear hb8 d0
      go_wp2_with fail
      go_ret
      exact ⟨rfl, HF.out⟩
    | true =>
      obtain ⟨n2, hn2⟩ : ∃ n2, (manBy l2).length = n2 := ⟨_, rfl⟩
      have HE2 := hid (HE.out.mono fun e w' h => encM_right h hr2 hn2)
      have HR2 := hid (And.intro hr2 (And.intro (HOK.out hr2) hn2))
      clear HE hr2 hn2
      go_wp2_with fail
      refine HE2.out.mono ?_
      rintro e w8 ⟨C8, f8, rfl, hb8, hr8, hf8, hf8'⟩
      replace HB := hid (HB.out.trans (hb8.mono HB.out.size))
      replace KN := hid (KN.out.under hb8)
      replace HMN := hid (HMN.out.below hb8)
      replace KM := hid (KM.out.under hb8)
      replace HM := hid (HM.out.below hb8)
      replace HEN := hid (HEN.out.below hb8)
      have HEN2 := hid hr8
      have HF8 := hid hf8
      clear hb8 hr8 d0 HE2 hf8 hf8'
      have HSM := hid (Same_c C3 C7 k k2 f3 f7 xs ns w8 HM.out HMN.out)
      rw [HXS.out, HNS.out] at HSM
      have c0 : w8.cell? ⟨w3.heap.size, 0, none⟩ = some (.slice C3 k f3) := KM.out.cell 0
      have d0 : w8.cell? ⟨w7.heap.size, 0, none⟩ = some (.slice C7 k2 f7) := KN.out.cell 0
      go_wp2_with fail
      refine HSM.out.mono ?_
      rintro e w9 ⟨rfl, hb9⟩
      have HG := hid (HB.out.trans (hb9.mono HB.out.size))
      replace HEN := hid (HEN.out.below hb9)
      replace HEN2 := hid (HEN2.out.below hb9)
      clear hb9 c0 d0 HSM HM HMN KM KN
      by_cases hne : l = l2
      · rw [decide_eq_true hne]
        clear hne
        go_wp2_with fail
        go_ret
        exact ⟨rfl, HG.out⟩
      · rw [decide_eq_false hne]
        have H1 := hid (prefix_c C8 C4 n2 p1 f8 f4 (manBy l2) (manBy l) w9 HEN2.out HEN.out HF8.out (manBy_byte HR2.out.2.1) (manBy_byte HL.out.1))
        rw [not_preM HL.out.1 HR2.out.2.1 HR2.out.1 hne HP1.out.symm] at H1
        have H2 := hid (prefix_c C4 C8 p1 n2 f4 f8 (manBy l) (manBy l2) w9 HEN.out HEN2.out HF4.out.1 (manBy_byte HL.out.1) (manBy_byte HR2.out.2.1))
        rw [not_preM HR2.out.2.1 HL.out.1 HL.out.2.1 (fun h => hne h.symm) HR2.out.2.2.symm] at H2
        clear hne
        go_wp2_with fail
        refine H1.out.mono ?_
        rintro e w10 ⟨rfl, rfl⟩
        go_wp2_with fail
        refine H2.out.mono ?_
        rintro e w11 ⟨rfl, rfl⟩
        go_wp2_with fail
        go_ret
        exact ⟨rfl, HG.out⟩
theorem malone_in (a0 : Option Addr) (len0 cap0 : Nat) (z0 : List Int) (B : Option Addr) (m cB : Nat) (rows : List RoA) (w : World) (w0 : RowIn .u8 w a0 len0 cap0 z0) (w1 : MArg w B m cB rows) :
    Calls Try.prog 5 #[.slice a0 len0 cap0, .agg #[.slice B m cB]] w fun e w' => e = .returned (.bool true) ∧ Below w.heap.size w w' := by
  obtain ⟨_, h2, e, h3⟩ := bytes_in w0
  exact malone_core a0 len0 cap0 (bytesOf z0 len0) B m cB rows w h3 w0.len.1 w0.len.2.2 h2 w1
end Go.Proofs.Ytgdnpmjmkcccoaa
