/- ManifestBack: the walk. -/
import Derived.Test.YtgdnpmjmkcccoaaMArg
namespace Go.Proofs.Ytgdnpmjmkcccoaa
open Go.RowKit Go.Shelf VB
open Go.Lib (hid)
set_option linter.unusedVariables false
set_option linter.unusedSimpArgs false
theorem reads_newM {g : Nat} (w : World) (e : TypeId) (cs : List Value) (n : Nat) (h : cs.length = n) (hg : g = w.heap.size) : Reads (w.alloc (.cells cs.toArray e)) e 1 (some ⟨g, 0, none⟩) n cs := by
  subst hg
  subst h
  exact cells_reads w e cs
def RetTr (w : World) (e : Ending) (w' : World) : Prop := e = .returned (.bool true) ∧ Below w.heap.size w w'
set_option maxRecDepth 100000 in
set_option maxHeartbeats 4000000 in
theorem mback_core {e1 : TypeId} (B : Option Addr) (m cB : Nat) (rows : List RoA) (A : Option Addr) (n c : Nat) (bs : List Nat) (w : World) (hz : MArg w B m cB rows) (hb : Reads w e1 1 A n (bsV bs)) (hc : n ≤ c) (hcm : c ≤ maxLen) (hbs : ∀ x ∈ bs, x < 256) :
    Calls Try.prog 6 #[.agg #[.slice B m cB], .slice A n c] w (RetTr w) := by
  obtain ⟨hn, hhn⟩ : ∃ hn, hn = min n 3000 := ⟨_, rfl⟩
  have hbl : bs.length = n := by have := hb.1; rw [bsV_len] at this; omega
  have HH := hid (fun w' (h : Below w.heap.size w w') => few_22 A n hn c bs w' (hb.below h) hc hcm hhn)
  obtain ⟨hs, hhs⟩ : ∃ hs, hs = bs.take hn := ⟨_, rfl⟩
  rw [← hhs] at HH
  have HS := hid (show (hs.length ≤ 3000 ∧ ∀ x ∈ hs, x < 256) ∧ (¬ n = 0 → hs ≠ []) by
    rw [hhs]
    refine ⟨⟨by rw [List.length_take]; omega, fun x hx => hbs x (List.mem_of_mem_take hx)⟩, fun h e => ?_⟩
    have := congrArg List.length e
    rw [List.length_take, List.length_nil] at this
    omega)
  have hnm : n ≤ 9223372036854775807 := by unfold maxLen at hcm; omega
  have HZ := hid hz
  have KY := hid (Blk.new w 24 #[.slice B m cB])
  have HB0 := hid ((Below.refl w.heap.size w).alloc (Nat.le_refl _) (.cells #[.slice B m cB] 24))
  clear hb hc hcm hbs hz hhn hbl hhs
  go_enter Try.func6, Try.ntmps6
  go_wp2_with fail
  refine (wakes_22 _).mono ?_
  rintro e w1 ⟨rfl, hb1⟩
  replace KY := hid (KY.out.under hb1)
  have HB := hid (HB0.out.trans (hb1.mono (by simp)))
  clear hb1 HB0
  have HOWN := hid ((own_22 B m cB rows w1 (MArg.below HZ.out HB.out)).mono fun e w' h => ownN h)
  have y0 : w1.cell? ⟨w.heap.size, 0, none⟩ = some (.slice B m cB) := KY.out.cell 0
  go_wp2_with fail
  refine HOWN.out.mono ?_
  rintro e w2 ⟨ns, k, C2, f2, hns, rfl, hman, hb2, _, _⟩
  obtain ⟨l, hl⟩ : ∃ l, l = ownL (rows.map RoA.d) 9 := ⟨_, rfl⟩
  rw [← hl] at hns
  have hb3 := (Below.refl w2.heap.size w2).alloc (Nat.le_refl _) (.cells #[.slice C2 k f2] 24)
  have hbx := hb2.trans (hb3.mono hb2.size)
  have KN := hid (Blk.new w2 24 #[.slice C2 k f2])
  have HMN := hid (hman.below hb3)
  have HNS := hid hns
  have HOK := hid (fun ho => manOk_of (l := l) ho (by rw [← hns]; exact hman.fs))
  replace HB := hid (HB.out.trans (hbx.mono HB.out.size))
  have HE := hid ((Encode_c C2 k f2 ns _ HMN.out).mono (R' := fun e w' => RetEnc l (w2.alloc (.cells #[.slice C2 k f2] 24)) e w') fun e w' h => by rw [hns] at h; exact h)
  clear HOWN KY y0 hb2 hb3 hbx hman hns hl HZ
  have d0 : (w2.alloc (.cells #[.slice C2 k f2] 24)).cell? ⟨w2.heap.size, 0, none⟩ = some (.slice C2 k f2) := KN.out.cell 0
  cases hr : manOk l with
  | false =>
    have HE2 := hid (HE.out.mono fun e w' h => encM_wrong h hr)
    have HME := hid (show manE l = 320 by unfold manE; rw [hr]; rfl)
    clear HE hr
    go_wp2_with fail
    refine HE2.out.mono ?_
    rintro e w3 ⟨rfl, hb3⟩
    replace HB := hid (HB.out.trans (hb3.mono HB.out.size))
    replace KN := hid (KN.out.under hb3)
    have HC := hid (Check_c C2 k f2 ns w3 (HMN.out.below hb3))
    rw [HNS.out, HME.out] at HC
    clear hb3 d0 HE2
    have d0 : w3.cell? ⟨w2.heap.size, 0, none⟩ = some (.slice C2 k f2) := KN.out.cell 0
    go_wp2_with fail
    refine HC.out.mono ?_
    rintro e w4 ⟨rfl, hb4⟩
    have HF := hid (show RetTr w (.returned (.bool true)) w4 from ⟨rfl, HB.out.trans (hb4.mono HB.out.size)⟩)
    clear hb4 d0 HC
    go_wp2_with fail
    go_ret
    exact HF.out
  | true =>
    obtain ⟨n1, hn1⟩ : ∃ n1, (manBy l).length = n1 := ⟨_, rfl⟩
    have HE2 := hid (HE.out.mono fun e w' h => encM_right h hr hn1)
    have HO := hid (HOK.out hr)
    have HK := hid (And.intro hr (And.intro hn1 (show n1 ≤ 30000 by rw [← hn1]; exact HO.out.bytes)))
    have HME := hid (show manE l = 0 by unfold manE; rw [hr]; rfl)
    have hn30 := HK.out.2.2
    clear HE hr hn1
    go_wp2_with fail
    refine HE2.out.mono ?_
    rintro e w3 ⟨C3, f3, rfl, hb3, hr3, hf3, hf3'⟩
    replace HB := hid (HB.out.trans (hb3.mono HB.out.size))
    replace KN := hid (KN.out.under hb3)
    replace HMN := hid (HMN.out.below hb3)
    have HBY := hid hr3
    have HC := hid (Check_c C2 k f2 ns w3 HMN.out)
    rw [HNS.out, HME.out] at HC
    clear hb3 d0 HE2 hr3
    have d0 : w3.cell? ⟨w2.heap.size, 0, none⟩ = some (.slice C2 k f2) := KN.out.cell 0
    go_wp2_with fail
    refine HC.out.mono ?_
    rintro e w4 ⟨rfl, hb4⟩
    replace HB := hid (HB.out.trans (hb4.mono HB.out.size))
    replace KN := hid (KN.out.under hb4)
    replace HMN := hid (HMN.out.below hb4)
    replace HBY := hid (HBY.out.below hb4)
    have hsrc : Src w4 C3 n1 f3 (manBy l) := src_of HBY.out hf3 hf3' (by omega) (manBy_byte HO.out)
    have HG := hid (Decode_c hsrc)
    rw [dec_at HO.out HK.out.1] at HG
    have HG2 := hid (HG.out.mono (R' := fun d w' => ∃ xs k C f, d = .returned (.tuple #[.agg #[.slice C k f], .int .i64 0]) ∧ Below w4.heap.size w4 w' ∧ xs.map RoA.d = l ∧ ManIn w' C k f xs) fun d w' h => by
      obtain ⟨xs, C, f, h1, h2, h3, h4, h5⟩ := h
      exact ⟨xs, xs.length, C, f, h1, h2, h3, h5.man h4⟩)
    clear hb4 d0 HC hsrc HG
    go_wp2_with fail
    refine HG2.out.mono ?_
    rintro e w5 ⟨xs, k5, C5, f5, rfl, hb5, hxs, hman5⟩
    have hb6 := (Below.refl w5.heap.size w5).alloc (Nat.le_refl _) (.cells #[.slice C5 k5 f5] 24)
    have hbx := hb5.trans (hb6.mono hb5.size)
    replace HB := hid (HB.out.trans (hbx.mono HB.out.size))
    replace KN := hid (KN.out.under hbx)
    replace HMN := hid (HMN.out.below hbx)
    replace HBY := hid (HBY.out.below hbx)
    have K5 := hid (Blk.new w5 24 #[.slice C5 k5 f5])
    have HSM := hid (Same_c C2 C5 k k5 f2 f5 ns xs _ HMN.out (hman5.below hb6))
    rw [HNS.out, hxs, decide_eq_true rfl] at HSM
    have d0 : (w5.alloc (.cells #[.slice C5 k5 f5] 24)).cell? ⟨w2.heap.size, 0, none⟩ = some (.slice C2 k f2) := KN.out.cell 0
    have e0 : (w5.alloc (.cells #[.slice C5 k5 f5] 24)).cell? ⟨w5.heap.size, 0, none⟩ = some (.slice C5 k5 f5) := K5.out.cell 0
    clear hb5 hb6 hbx hxs hman5 HG2
    go_wp2_with fail
    refine HSM.out.mono ?_
    rintro e w6 ⟨rfl, hb6⟩
    replace HB := hid (HB.out.trans (hb6.mono HB.out.size))
    replace HBY := hid (HBY.out.below hb6)
    clear hb6 d0 e0 HSM KN K5 HMN
    go_wp2_with fail
    go_loopw [51] (fun u51 wr => ∃ i : Nat, i ≤ n1 ∧ u51 = .int .i64 (i : Nat) ∧ Hid (Below w.heap.size w wr ∧ Reads wr 5 1 C3 n1 (bsV (manBy l)))) (fun u51 _ => n1 - (intOf u51).toNat)
    case atStart => exact ⟨0, Nat.zero_le _, rfl, hid ⟨HB.out, HBY.out⟩⟩
    case round =>
      obtain ⟨i, hi, rfl, hst⟩ := hrel
      by_cases hlt : i < n1
      · have hltI : (i : Int) < (n1 : Int) := by omega
        have g1 : ((i : Nat) : Int) ≤ (f3 : Nat) := by omega
        have g2 : i ≤ f3 := by omega
        have htk : ((manBy l).take i).length = i := by rw [List.length_take, HK.out.2.1]; omega
        have hsrc : Src wr C3 i f3 ((manBy l).take i) := src_of (by
          have h := hst.out.2.take (k := i) hi
          rw [Nat.mul_one] at h
          rw [show bsV ((manBy l).take i) = (bsV (manBy l)).take i by simp [bsV, List.map_take]]
          exact h) g2 hf3' (by omega) (fun x hx => manBy_byte HO.out x (List.mem_of_mem_take hx))
        have HG := hid ((Decode_c hsrc).mono (R' := fun d w' => d = .returned (.tuple #[.agg #[.slice none 0 0], .int .i64 6]) ∧ Below wr.heap.size wr w') fun d w' h => by
          rw [dec_cut HO.out (manBy_byte HO.out) (by rw [HK.out.2.1]; exact hlt)] at h
          exact h)
        have HST := hid hst.out
        clear hst htk hsrc
        go_wp2_with fail
        refine HG.out.mono ?_
        rintro e w7 ⟨rfl, hb7⟩
        have HN := hid (show Below w.heap.size w (w7.alloc (.cells #[.slice none 0 0] 24)) ∧ Reads (w7.alloc (.cells #[.slice none 0 0] 24)) 5 1 C3 n1 (bsV (manBy l)) from by
          have h1 := HST.out.1.trans (hb7.mono HST.out.1.size)
          exact ⟨h1.alloc h1.size _, (HST.out.2.below hb7).alloc _⟩)
        clear hb7 HG HST
        go_wp2_with fail
        go_roundw
        case rel => exact ⟨i + 1, by omega, by go_num, HN⟩
        case measure => simp [intOf]; omega
      · obtain rfl : i = n1 := by omega
        replace HB := hid hst.out.1
        replace HBY := hid hst.out.2
        clear hst hlt
        by_cases h0 : n = 0
        · have hz0 : ((n : Int) == 0) = true := by simp [h0]
          have HF := hid (show RetTr w (.returned (.bool true)) wr from ⟨rfl, HB.out⟩)
          clear h0 HBY HB
          go_wp2_with fail
          go_ret
          exact HF.out
        · have hz0 : ((n : Int) == 0) = false := by simp [h0]
          have HNE := hid (HS.out.2 h0)
          clear h0
          go_wp2_with fail
          refine (HH.out _ HB.out).mono ?_
          rintro e w11 ⟨D2, g2, rfl, hown11, hb11⟩
          replace HB := hid (HB.out.trans (hb11.mono HB.out.size))
          replace HBY := hid (HBY.out.below hb11)
          have HD2 := hid (Reads.of_own hown11)
          clear hb11 hown11 hz0
          obtain ⟨n2, hn2⟩ : ∃ n2, n2 = hs.length := ⟨_, rfl⟩
          have HN2 := hid hn2
          rw [← hn2] at HD2 ⊢
          have hbx := (Below.refl w11.heap.size w11).alloc (Nat.le_refl _) (.cells (([⟨C3, i, f3, manBy l⟩, ⟨D2, n2, g2, hs⟩] : List Part).map cellS).toArray 31)
          have HRD := hid (reads_newM (g := w11.heap.size) w11 31 (([⟨C3, i, f3, manBy l⟩, ⟨D2, n2, g2, hs⟩] : List Part).map cellS) 2 rfl rfl)
          replace HB := hid (HB.out.trans (hbx.mono HB.out.size))
          replace HBY := hid (HBY.out.below hbx)
          replace HD2 := hid (HD2.out.below hbx)
          have HJ := hid (show joined ([⟨C3, i, f3, manBy l⟩, ⟨D2, n2, g2, hs⟩] : List Part) = manBy l ++ hs by simp [joined])
          have HCC := hid (concat_b (some ⟨w11.heap.size, 0, none⟩) 2 2 ([⟨C3, i, f3, manBy l⟩, ⟨D2, n2, g2, hs⟩] : List Part) _ HRD.out (by
            intro q hq
            simp only [List.mem_cons, List.not_mem_nil, or_false] at hq
            rcases hq with rfl | rfl
            · exact HBY.out
            · exact HD2.out) (by have := HS.out.1.1; have := HK.out.2.1; rw [HJ.out, List.length_append]; omega) (by decide))
          rw [HJ.out] at HCC
          clear hbx HRD HD2 HJ hn2
          go_wp2_with fail
          refine HCC.out.mono ?_
          rintro e w12 ⟨D3, g3, rfl, hown12, hb12⟩
          replace HB := hid (HB.out.trans (hb12.mono HB.out.size))
          obtain ⟨_, _, hv, hf1, hf2⟩ := own_form hown12
          injection hv with hv1 hv2 hv3
          have hsrc : Src w12 D3 (manBy l ++ hs).length g3 (manBy l ++ hs) := ⟨Reads.of_own hown12, by have := HS.out.1.1; have := HK.out.2.1; rw [List.length_append]; omega, by omega, by omega, by
            intro x hx
            rcases List.mem_append.1 hx with hx | hx
            · exact manBy_byte HO.out x hx
            · exact HS.out.1.2 x hx⟩
          have HG := hid ((Decode_c hsrc).mono (R' := fun d w' => d = .returned (.tuple #[.agg #[.slice none 0 0], .int .i64 7]) ∧ Below w12.heap.size w12 w') fun d w' h => by
            rw [dec_more HO.out HNE.out] at h
            exact h)
          generalize (manBy l ++ hs).length = nJ at *
          clear hb12 hown12 hv1 hv2 hv3 hf1 hf2 hsrc HCC
          go_wp2_with fail
          refine HG.out.mono ?_
          rintro e w13 ⟨rfl, hb13⟩
          have HF := hid (show RetTr w (.returned (.bool true)) w13 from ⟨rfl, HB.out.trans (hb13.mono HB.out.size)⟩)
          clear hb13 HG
          go_wp2_with fail
          go_ret
          exact HF.out
theorem mback_in (B : Option Addr) (m cB : Nat) (rows : List RoA) (a1 : Option Addr) (len1 cap1 : Nat) (z1 : List Int) (w : World) (w0 : MArg w B m cB rows) (w1 : RowIn .u8 w a1 len1 cap1 z1) :
    Calls Try.prog 6 #[.agg #[.slice B m cB], .slice a1 len1 cap1] w fun e w' => e = .returned (.bool true) ∧ Below w.heap.size w w' := by
  obtain ⟨_, h2, e, h3⟩ := bytes_in w1
  exact mback_core B m cB rows a1 len1 cap1 (bytesOf z1 len1) w w0 h3 w1.len.1 w1.len.2.2 h2
end Go.Proofs.Ytgdnpmjmkcccoaa
