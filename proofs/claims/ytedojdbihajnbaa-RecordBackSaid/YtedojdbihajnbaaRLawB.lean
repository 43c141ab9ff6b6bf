/- RecordBack: the walk (seat Record). -/
import Derived.Test.YtedojdbihajnbaaRLawA
namespace Go.Proofs.Ytedojdbihajnbaa
open Go.RowKit Go.Shelf VB
open Go.Lib (hid)
set_option linter.unusedVariables false
set_option linter.unusedSimpArgs false
theorem get_at {hs ys : List Nat} {m : Mu} (hr : Right m) : getM (hs ++ (mutB m ++ ys)) (hs.length : Nat) = (m, hs.length + (mutB m).length, 0) := by
  have h1 := mutS_at (bs := hs ++ (mutB m ++ ys)) (z := hs.length) (ys := ys) hr (by rw [List.drop_left])
  unfold getM
  rw [if_pos ⟨by omega, by rw [List.length_append]; omega⟩, Int.toNat_natCast, h1]
theorem get_cut {m : Mu} (hr : Right m) {k : Nat} (hk : k < (mutB m).length) : getM ((mutB m).take k) 0 = (zMut, 0, 6) := by
  unfold getM
  rw [if_pos ⟨by omega, by omega⟩, show (0 : Int).toNat = 0 from rfl, mutS_cut hr hk]
def RetTrue (w : World) (e : Ending) (w' : World) : Prop := e = .returned (.bool true) ∧ Below w.heap.size w w'
set_option maxRecDepth 100000 in
set_option maxHeartbeats 4000000 in
theorem back_core {e0 e1 e2 : TypeId} (m : Mu) (B : Option Addr) (cB : Nat) (A1 : Option Addr) (n1 c1 : Nat) (bs1 : List Nat) (A2 : Option Addr) (n2 c2 : Nat) (bs2 : List Nat) (w : World)
    (hz : Reads w e0 2 B m.pts.length (m.pts.flatMap cellsP)) (hB : m.pts.length ≤ cB) (hBm : cB ≤ maxLen)
    (hb1 : Reads w e1 1 A1 n1 (bsV bs1)) (hc1 : n1 ≤ c1) (hcm1 : c1 ≤ maxLen) (hbs1 : ∀ x ∈ bs1, x < 256)
    (hb2 : Reads w e2 1 A2 n2 (bsV bs2)) (hc2 : n2 ≤ c2) (hcm2 : c2 ≤ maxLen) (hbs2 : ∀ x ∈ bs2, x < 256) :
    Calls Try.prog 7 #[vM m B cB, .slice A1 n1 c1, .slice A2 n2 c2] w (RetTrue w) := by
  have HH1 := hid (fun w' (h : Below w.heap.size w w') => head_r A1 n1 (min n1 600) c1 bs1 w' (hb1.below h) hc1 hcm1 rfl)
  have HH2 := hid (fun w' (h : Below w.heap.size w w') => head_r A2 n2 (min n2 600) c2 bs2 w' (hb2.below h) hc2 hcm2 rfl)
  obtain ⟨hs1, hhs1⟩ : ∃ hs, hs = bs1.take (min n1 600) := ⟨_, rfl⟩
  obtain ⟨hs2, hhs2⟩ : ∃ hs, hs = bs2.take (min n2 600) := ⟨_, rfl⟩
  rw [← hhs1] at HH1
  rw [← hhs2] at HH2
  have HS := hid (show (hs1.length ≤ 600 ∧ ∀ x ∈ hs1, x < 256) ∧ hs2.length ≤ 600 ∧ ∀ x ∈ hs2, x < 256 by
    rw [hhs1, hhs2]
    exact ⟨⟨by rw [List.length_take]; omega, fun x hx => hbs1 x (List.mem_of_mem_take hx)⟩, by rw [List.length_take]; omega, fun x hx => hbs2 x (List.mem_of_mem_take hx)⟩)
  have HOWN := hid (fun w' (h : Below w.heap.size w w') => own_c m B cB w' (hz.below h) hB hBm)
  have KY := hid (Blk.new w 24 (aM m.kind m.name m.eps m.floor m.scale (.slice B m.pts.length cB)))
  have HB := hid ((Below.refl w.heap.size w).alloc (Nat.le_refl _) (.cells (aM m.kind m.name m.eps m.floor m.scale (.slice B m.pts.length cB)) 24))
  clear hz hB hBm hb1 hc1 hcm1 hbs1 hb2 hc2 hcm2 hbs2 hhs1 hhs2
  go_enter Try.func7, Try.ntmps7
  go_wp2_with fail
  refine (wakes_r _).mono ?_
  rintro e w1 ⟨rfl, hb1⟩
  replace KY := hid (KY.out.under hb1)
  replace HB := hid (HB.out.trans (hb1.mono (by simp)))
  clear hb1
  obtain ⟨c0, c1, c2, c3, c4, c5⟩ := KY.out.sixc
  go_wp2_with fail
  refine (HOWN.out _ HB.out).mono ?_
  rintro e w7 ⟨C7, f7, rfl, hb7, hown7⟩
  have h40 := own40 m
  obtain ⟨m2, hm2⟩ : ∃ m2, m2 = ownM m := ⟨_, rfl⟩
  rw [← hm2] at hown7 h40 ⊢
  have hbx := (Below.refl w7.heap.size w7).alloc (Nat.le_refl _) (.cells (aM m2.kind m2.name m2.eps m2.floor m2.scale (.slice C7 m2.pts.length f7)) 24)
  have HN := hid (Blk.new w7 24 (aM m2.kind m2.name m2.eps m2.floor m2.scale (.slice C7 m2.pts.length f7)))
  have HPN := hid ((Reads.of_own hown7).alloc (.cells (aM m2.kind m2.name m2.eps m2.floor m2.scale (.slice C7 m2.pts.length f7)) 24))
  replace HB := hid ((HB.out.trans (hb7.mono HB.out.size)).trans (hbx.mono (Nat.le_trans HB.out.size hb7.size)))
  have HE := hid (Encode_c m2 C7 f7 _ HPN.out (by omega))
  have H40 := hid h40
  clear HOWN KY c0 c1 c2 c3 c4 c5 hb7 hown7 hbx h40 hm2
  obtain ⟨c0, c1, c2, c3, c4, c5⟩ := HN.out.sixc
  go_wp2_with fail
  cases hr2 : rightB m2 with
  | false =>
    refine HE.out.mono ?_
    intro e w8 h8
    obtain ⟨rfl, hb8⟩ := enc_wrong h8 hr2
    replace HB := hid (HB.out.trans (hb8.mono HB.out.size))
    replace HN := hid (HN.out.under hb8)
    replace HPN := hid (HPN.out.below hb8)
    clear h8 hb8 c0 c1 c2 c3 c4 c5
    have HC := hid (Check_c m2 C7 f7 w8 HPN.out (by have := H40.out; omega))
    rw [hr2] at HC
    clear hr2
    obtain ⟨c0, c1, c2, c3, c4, c5⟩ := HN.out.sixc
    go_wp2_with fail
    refine HC.out.mono ?_
    rintro e w9 ⟨rfl, hb9⟩
    rw [if_neg (by decide)]
    have HF := hid (show RetTrue w (.returned (.bool true)) w9 from ⟨rfl, HB.out.trans (hb9.mono HB.out.size)⟩)
    clear hb9 c0 c1 c2 c3 c4 c5
    go_wp2_with fail
    go_ret
    exact HF.out
  | true =>
    obtain ⟨n3, hn3⟩ : ∃ n3, n3 = (mutB m2).length := ⟨_, rfl⟩
    have HR2 := hid (And.intro hr2 (And.intro (right_of hr2) hn3))
    refine HE.out.mono ?_
    intro e w8 h8
    obtain ⟨C8, f8, rfl, hb8, hr8, hf8, hf8'⟩ := enc_right h8 hr2 hn3.symm
    replace HB := hid (HB.out.trans (hb8.mono HB.out.size))
    replace HN := hid (HN.out.under hb8)
    replace HPN := hid (HPN.out.below hb8)
    have HEN := hid hr8
    clear h8 hb8 c0 c1 c2 c3 c4 c5 hr2 hr8 hn3 HE
    generalize w7.alloc (.cells (aM m2.kind m2.name m2.eps m2.floor m2.scale (.slice C7 m2.pts.length f7)) 24) = w7b at *
    have HC := hid (Check_c m2 C7 f7 w8 HPN.out (by have := H40.out; omega))
    rw [HR2.out.1] at HC
    obtain ⟨c0, c1, c2, c3, c4, c5⟩ := HN.out.sixc
    go_wp2_with fail
    refine HC.out.mono ?_
    rintro e w9 ⟨rfl, hb9⟩
    rw [if_pos rfl]
    replace HB := hid (HB.out.trans (hb9.mono HB.out.size))
    replace HN := hid (HN.out.under hb9)
    replace HPN := hid (HPN.out.below hb9)
    replace HEN := hid (HEN.out.below hb9)
    clear hb9 c0 c1 c2 c3 c4 c5 HC
    go_wp2_with fail
    refine (HH1.out _ HB.out).mono ?_
    rintro e w10 ⟨D1, g1, rfl, hown10, hb10⟩
    replace HB := hid (HB.out.trans (hb10.mono HB.out.size))
    replace HN := hid (HN.out.under hb10)
    replace HPN := hid (HPN.out.below hb10)
    replace HEN := hid (HEN.out.below hb10)
    have HD1 := hid (Reads.of_own hown10)
    clear hb10 hown10 HH1
    go_wp2_with fail
    refine (HH2.out _ HB.out).mono ?_
    rintro e w11 ⟨D2, g2, rfl, hown11, hb11⟩
    replace HB := hid (HB.out.trans (hb11.mono HB.out.size))
    replace HN := hid (HN.out.under hb11)
    replace HPN := hid (HPN.out.below hb11)
    replace HEN := hid (HEN.out.below hb11)
    replace HD1 := hid (HD1.out.below hb11)
    have HD2 := hid (Reads.of_own hown11)
    clear hb11 hown11 HH2
    have hbx := (Below.refl w11.heap.size w11).alloc (Nat.le_refl _) (.cells (([⟨D1, hs1.length, g1, hs1⟩, ⟨C8, n3, f8, mutB m2⟩, ⟨D2, hs2.length, g2, hs2⟩] : List Part).map cellS).toArray 32)
    have HRD := hid (reads_new_at (g := w11.heap.size) w11 32 (([⟨D1, hs1.length, g1, hs1⟩, ⟨C8, n3, f8, mutB m2⟩, ⟨D2, hs2.length, g2, hs2⟩] : List Part).map cellS) 3 rfl rfl)
    replace HB := hid (HB.out.trans (hbx.mono HB.out.size))
    replace HN := hid (HN.out.under hbx)
    replace HPN := hid (HPN.out.below hbx)
    replace HEN := hid (HEN.out.below hbx)
    replace HD1 := hid (HD1.out.below hbx)
    replace HD2 := hid (HD2.out.below hbx)
    have hml := mutB_len HR2.out.2.1
    have HJ := hid (show joined ([⟨D1, hs1.length, g1, hs1⟩, ⟨C8, n3, f8, mutB m2⟩, ⟨D2, hs2.length, g2, hs2⟩] : List Part) = hs1 ++ (mutB m2 ++ hs2) by simp [joined])
    have HCC := hid (concat_b (some ⟨w11.heap.size, 0, none⟩) 3 3 ([⟨D1, hs1.length, g1, hs1⟩, ⟨C8, n3, f8, mutB m2⟩, ⟨D2, hs2.length, g2, hs2⟩] : List Part) _ HRD.out (by
      intro q hq
      simp only [List.mem_cons, List.not_mem_nil, or_false] at hq
      rcases hq with rfl | rfl | rfl
      · exact HD1.out
      · exact HEN.out
      · exact HD2.out) (by have := HS.out.1.1; have := HS.out.2.1; rw [HJ.out, List.length_append, List.length_append]; omega) (by decide))
    rw [HJ.out] at HCC
    clear hbx HRD HD1 HD2 HJ hml
    go_wp2_with fail
    refine HCC.out.mono ?_
    rintro e w12 ⟨D3, g3, rfl, hown12, hb12⟩
    replace HB := hid (HB.out.trans (hb12.mono HB.out.size))
    replace HN := hid (HN.out.under hb12)
    replace HPN := hid (HPN.out.below hb12)
    replace HEN := hid (HEN.out.below hb12)
    obtain ⟨_, _, hv, hf1, hf2⟩ := own_form hown12
    injection hv with hv1 hv2 hv3
    have hml := mutB_len HR2.out.2.1
    have hsrc : Src w12 D3 (hs1 ++ (mutB m2 ++ hs2)).length g3 (hs1 ++ (mutB m2 ++ hs2)) := ⟨Reads.of_own hown12, by have := HS.out.1.1; have := HS.out.2.1; rw [List.length_append, List.length_append]; omega, by omega, by omega, by
      intro x hx
      rcases List.mem_append.1 hx with hx | hx
      · exact HS.out.1.2 x hx
      · rcases List.mem_append.1 hx with hx | hx
        · exact mutB_byte HR2.out.2.1 x hx
        · exact HS.out.2.2 x hx⟩
    have HG := hid (get_c (hs1.length : Nat) hsrc)
    rw [get_at HR2.out.2.1, ← HR2.out.2.2] at HG
    generalize (hs1 ++ (mutB m2 ++ hs2)).length = nJ at *
    clear hb12 hown12 hv1 hv2 hv3 hf1 hf2 hsrc HCC
    go_wp2_with fail
    refine HG.out.mono ?_
    rintro e w13 ⟨A3, f3, rfl, hown13, hb13⟩
    have hbx := (Below.refl w13.heap.size w13).alloc (Nat.le_refl _) (.cells (aM m2.kind m2.name m2.eps m2.floor m2.scale (.slice A3 m2.pts.length f3)) 24)
    have HM := hid (Blk.new w13 24 (aM m2.kind m2.name m2.eps m2.floor m2.scale (.slice A3 m2.pts.length f3)))
    replace HB := hid ((HB.out.trans (hb13.mono HB.out.size)).trans (hbx.mono (Nat.le_trans HB.out.size hb13.size)))
    replace HN := hid ((HN.out.under hb13).under hbx)
    replace HPN := hid ((HPN.out.below hb13).below hbx)
    replace HEN := hid ((HEN.out.below hb13).below hbx)
    have HPM := hid ((Reads.of_own hown13).below hbx)
    have HSM := hid (Same_c m2 m2 C7 A3 f7 f3 _ HPN.out HPM.out (by have := H40.out; omega))
    rw [decide_eq_true rfl] at HSM
    clear hb13 hown13 hbx HG
    obtain ⟨c0, c1, c2, c3, c4, c5⟩ := HN.out.sixc
    obtain ⟨d0, d1, d2, d3, d4, d5⟩ := HM.out.sixc
    go_wp2_with fail
    refine HSM.out.mono ?_
    rintro e w14 ⟨rfl, hb14⟩
    replace HB := hid (HB.out.trans (hb14.mono HB.out.size))
    replace HEN := hid (HEN.out.below hb14)
    have hn3 : n3 ≤ 400 := by rw [HR2.out.2.2]; exact hml
    have hl1 := HS.out.1.1
    have hw : wrap64 ((hs1.length : Int) + (n3 : Int)) = ((hs1.length + n3 : Nat) : Int) := by unfold wrap64; omega
    have HK := hid hn3
    clear hb14 c0 c1 c2 c3 c4 c5 d0 d1 d2 d3 d4 d5 HSM HN HPN HM HPM hml hl1
    generalize w13.alloc (.cells (aM m2.kind m2.name m2.eps m2.floor m2.scale (.slice A3 m2.pts.length f3)) 24) = w13b at *
    go_wp2_with fail
    clear hw
    go_loopw [75] (fun u75 wr => ∃ i : Nat, i ≤ n3 ∧ u75 = .int .i64 (i : Nat) ∧ Below w14.heap.size w14 wr) (fun u75 _ => n3 - (intOf u75).toNat)
    case atStart => exact ⟨0, Nat.zero_le _, rfl, Below.refl _ _⟩
    case round =>
      obtain ⟨i, hi, rfl, hbr⟩ := hrel
      by_cases hlt : i < n3
      · have hsrc : Src wr C8 i f8 ((mutB m2).take i) := ⟨by
          have h := (HEN.out.below hbr).take (k := i) (by omega)
          rw [Nat.mul_one] at h
          rw [show bsV ((mutB m2).take i) = (bsV (mutB m2)).take i by simp [bsV, List.map_take]]
          exact h, by omega, by omega, hf8', fun x hx => mutB_byte HR2.out.2.1 x (List.mem_of_mem_take hx)⟩
        have HG := hid (get_c 0 hsrc)
        rw [get_cut HR2.out.2.1 (by rw [← HR2.out.2.2]; exact hlt)] at HG
        have HBR := hid hbr
        have g1 : (i : Int) < (n3 : Int) := by omega
        have g2 : i ≤ f8 := by omega
        clear hsrc hbr
        go_wp2_with fail
        refine HG.out.mono ?_
        rintro e w15 ⟨A5, f5, rfl, _, hb15⟩
        have hbx := (Below.refl w15.heap.size w15).alloc (Nat.le_refl _) (.cells (aM 0 ⟨#[]⟩ 0 0 0 (.slice A5 0 f5)) 24)
        replace HBR := hid ((HBR.out.trans (hb15.mono HBR.out.size)).trans (hbx.mono (Nat.le_trans HBR.out.size hb15.size)))
        clear hb15 hbx HG g2
        go_wp2_with fail
        go_roundw
        case rel => exact ⟨i + 1, by omega, by go_num, HBR.out⟩
        case measure => simp [intOf]; omega
      · obtain rfl : i = n3 := by omega
        have HF := hid (show RetTrue w (.returned (.bool true)) wr from ⟨rfl, HB.out.trans (hbr.mono HB.out.size)⟩)
        clear hbr hlt hi
        go_wp2_with fail
        go_ret
        exact HF.out
theorem back_in (x0 : Mu) (a0 : Option Addr) (cap0 : Nat) (a1 : Option Addr) (len1 cap1 : Nat) (z1 : List Int) (a2 : Option Addr) (len2 cap2 : Nat) (z2 : List Int) (w : World) (w0 : MuIn w x0 a0 cap0) (w1 : RowIn .u8 w a1 len1 cap1 z1) (w2 : RowIn .u8 w a2 len2 cap2 z2) :
    Calls Try.prog 7 #[vM x0 a0 cap0, .slice a1 len1 cap1, .slice a2 len2 cap2] w fun e w' => e = .returned (.bool true) ∧ Below w.heap.size w w' := by
  obtain ⟨_, h2, e, h3⟩ := bytes_in w1
  obtain ⟨_, k2, e', k3⟩ := bytes_in w2
  obtain ⟨e2, h4, h5, h6⟩ := w0
  exact back_core x0 a0 cap0 a1 len1 cap1 (bytesOf z1 len1) a2 len2 cap2 (bytesOf z2 len2) w h4 h5 h6 h3 w1.len.1 w1.len.2.2 h2 k3 w2.len.1 w2.len.2.2 k2
end Go.Proofs.Ytedojdbihajnbaa
