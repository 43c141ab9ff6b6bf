/- Walk of the law VaryBack. -/
import Derived.Test.YtcdkibpfgnmmfaaVarY
import Derived.Test.YtcdkibpfgnmmfaaVarX
import Derived.Test.YtcdkibpfgnmmfaaLawI
namespace Go.Proofs.Ytcdkibpfgnmmfaa
open Go.RowKit Go.Shelf VB
set_option linter.unusedVariables false
theorem unf_fold {z : Int} : unf (fold64 z) = z := by
  unfold unf fold64
  split <;> split <;> omega
theorem gotN_put {pre rest : List Nat} {n : Nat} (hn : n < 18446744073709551616) {k : Int} (hk : k = (pre.length : Nat)) : gotN (pre ++ (vb n ++ rest)) k = (n, pre.length + (vb n).length, 0) := by
  subst hk
  have h := gv_vb n 0 0 rest (by omega) (by simpa using hn) (by omega)
  simp only [Nat.zero_add, Nat.pow_zero, Nat.mul_one] at h
  unfold gotN
  rw [Int.toNat_natCast, List.drop_left, h, if_pos ⟨by omega, by rw [List.length_append]; omega⟩, if_pos rfl]
set_option maxRecDepth 100000 in
set_option maxHeartbeats 4000000 in
theorem vBack_core (a0 : Option Addr) (len0 cap0 : Nat) (z0 : List Int) (a1 a2 : Int) (w : World) (w0 : RowIn .u8 w a0 len0 cap0 z0) (w1 : (Lit.int .u64 a1).wf = true) (w2 : (Lit.int .i64 a2).wf = true) :
    Calls Try.prog 9 #[.slice a0 len0 cap0, .int .u64 a1, .int .i64 a2] w fun e w' => e = .returned (.bool true) ∧ Below w.heap.size w w' := by
  obtain ⟨hbl, hb256, E, hrd⟩ := bytes_in w0
  obtain ⟨bs, hbs⟩ : ∃ bs, bs = bytesOf z0 len0 := ⟨_, rfl⟩
  rw [← hbs] at hbl hb256 hrd
  have hln := w0.len
  have hlc := hln.1
  have hcm := hln.2.2
  obtain ⟨m, hm⟩ : ∃ m, m = min len0 400 := ⟨_, rfl⟩
  have hm4 : m ≤ 400 := by omega
  obtain ⟨v1, v2⟩ := u64_wf w1
  obtain ⟨n, rfl⟩ := Int.eq_ofNat_of_zero_le v1
  have hn64 : n < 18446744073709551616 := by omega
  obtain ⟨z1, z2⟩ := i64_wf w2
  have HWK := Lib.hid (wakes_c w)
  have HHD := Lib.hid (fun w1 (hb1 : Below w.heap.size w w1) => head_in a0 len0 m cap0 bs w1 (hrd.below hb1) hlc hcm hm)
  obtain ⟨hs, hhs⟩ : ∃ hs, hs = bs.take m := ⟨_, rfl⟩
  rw [← hhs] at HHD
  have hs256 : ∀ x ∈ hs, x < 256 := by intro x hx; rw [hhs] at hx; exact hb256 x (List.mem_of_mem_take hx)
  have hsl : hs.length = m := by rw [hhs, List.length_take]; omega
  have na10 := vb_len10 hn64
  have hf64 := fold64_lt z1 z2
  have nb10 := vb_len10 hf64
  have la256 := vb_byte n
  have lb256 := vb_byte (fold64 a2)
  have hg1 := gotN_put (pre := hs) (rest := vb (fold64 a2)) hn64 (k := (m : Nat)) (by rw [hsl])
  have hg2 := gotN_put (pre := hs ++ vb n) (rest := []) hf64 (k := ((m + (vb n).length : Nat) : Int)) (by rw [List.length_append, hsl])
  rw [List.append_nil, List.append_assoc, List.length_append, hsl] at hg2
  rw [hsl] at hg1
  have HSU := Lib.hid (fun w => SizeU_c n hn64 w)
  have HSI := Lib.hid (fun w => Size_c a2 z1 z2 w)
  have HPU := Lib.hid (fun w' C f (h : Reads w' 5 1 C m (bsV hs)) => PutU_c C m f hs n w' h (by omega) hn64)
  have HPI := Lib.hid (fun w' C f (h : Reads w' 5 1 C (m + (vb n).length) (bsV (hs ++ vb n))) => Put_c C (m + (vb n).length) f (hs ++ vb n) a2 w' h (by omega) z1 z2)
  have huf := @unf_fold a2
  obtain ⟨la, hla⟩ : ∃ la, la = vb n := ⟨_, rfl⟩
  obtain ⟨lb, hlb⟩ : ∃ lb, lb = vb (fold64 a2) := ⟨_, rfl⟩
  rw [← hla] at na10 HPU HPI HSU la256 hg1 hg2
  rw [← hlb] at nb10 HPI HSI lb256 hg1 hg2
  generalize fold64 a2 = fz at *
  obtain ⟨na, hna⟩ : ∃ na, na = la.length := ⟨_, rfl⟩
  obtain ⟨nb, hnb⟩ : ∃ nb, nb = lb.length := ⟨_, rfl⟩
  rw [← hna] at na10 HSU HPI hg1 hg2
  rw [← hnb] at nb10 HSI hg2
  obtain ⟨lu, hlu⟩ : ∃ lu, lu = hs ++ la := ⟨_, rfl⟩
  obtain ⟨lp, hlp⟩ : ∃ lp, lp = hs ++ (la ++ lb) := ⟨_, rfl⟩
  rw [← hlu] at HPU HPI
  rw [show lu ++ lb = lp by rw [hlu, hlp, List.append_assoc]] at HPI
  rw [← hlp] at hg1 hg2
  have hnu : m + na = lu.length := by rw [hlu, List.length_append]; omega
  have hnp : m + na + nb = lp.length := by rw [hlp, List.length_append, List.length_append]; omega
  have hpre : lp.take m = hs := by rw [hlp, ← hsl, List.take_left]
  have hp256 : ∀ x ∈ lp, x < 256 := by
    intro x hx
    rw [hlp] at hx
    rcases List.mem_append.1 hx with h | h
    · exact hs256 x h
    · rcases List.mem_append.1 h with h | h
      · exact la256 x h
      · exact lb256 x h
  have HG := Lib.hid (fun w' P f (h : Reads w' 5 1 P (m + na + nb) (bsV lp)) (hf : m + na + nb ≤ f) (hfm : f ≤ maxLen) => GetU_c P (m + na + nb) f (m : Nat) lp w' h (by omega) hf hfm hp256)
  have HI := Lib.hid (fun w' P f (h : Reads w' 5 1 P (m + na + nb) (bsV lp)) (hf : m + na + nb ≤ f) (hfm : f ≤ maxLen) => Get_c P (m + na + nb) f ((m + na : Nat) : Int) lp w' h (by omega) hf hfm hp256)
  have HX := Lib.hid (fun w' P f C fc (h : Reads w' 5 1 P (m + na + nb) (bsV lp)) (hf : m + na + nb ≤ f) (h2 : Reads w' 5 1 C m (bsV hs)) => prefix_c P C (m + na + nb) m f fc lp hs w' h h2 hf hp256 hs256)
  rw [hg1] at HG
  rw [hg2] at HI
  rw [decide_eq_true hpre] at HX
  rw [show unf (fz, m + na + nb, (0 : Int)).1 = a2 from huf] at HI
  dsimp only at HG HI
  have HNU := Lib.hid hnu
  have HNP := Lib.hid hnp
  clear w0 hbl hb256 hrd hbs hln hhs hs256 w1 w2 hm hsl hf64 la256 lb256 hla hlb hna hnb hlu hlp hnu hnp v1 v2 z1 z2 hpre hp256 hg1 hg2 huf
  go_enter Try.func9, Try.ntmps9
  go_wp2_with fail
  refine HWK.out.mono ?_
  rintro e w1 ⟨rfl, hb1⟩
  go_wp2_with fail
  refine (HHD.out w1 hb1).mono ?_
  rintro e w2 ⟨C, f, rfl, hh2, hb2⟩
  have hbw2 := below_of' hb1 hb2
  obtain ⟨hmf, hfm⟩ := hh2.cap
  have HH2 := Lib.hid hh2
  clear hb1 hb2 HWK HHD hh2
  go_wp2_with fail
  refine (HPU.out w2 C f HH2.out.reads).mono ?_
  clear HPU
  intro e w3 h
  obtain ⟨U, fu, rfl, hou, hb3⟩ := h.n HNU.out
  have HOU := Lib.hid (Reads.of_own hou)
  have HC3 := Lib.hid (HH2.out.reads.below hb3)
  have hbw3 := below_of' hbw2 hb3
  clear h hou hb3 HH2
  go_wp2_with fail
  refine (HPI.out w3 U fu HOU.out).mono ?_
  clear HPI
  intro e w4 h
  obtain ⟨P, fp, rfl, hop, hb4⟩ := h.n HNP.out
  have HC4 := Lib.hid (HC3.out.below hb4)
  have HP4 := Lib.hid (Reads.of_own hop)
  have hpf := own_cap hop
  have hfp : fp ≤ maxLen := by obtain ⟨A', c', h1, _, hf⟩ := own_form hop; injection h1 with _ _ h1; omega
  have HBW4 := Lib.hid (below_of' hbw3 hb4)
  clear h hop hb4 HC3 HOU hbw2 hbw3
  go_wp2_with fail
  refine (HG.out w4 P fp HP4.out hpf hfp).mono ?_; rintro e w' ⟨rfl, rfl⟩
  clear HG
  go_wp2_with fail
  refine (HI.out w4 P fp HP4.out hpf hfp).mono ?_; rintro e w' ⟨rfl, rfl⟩
  clear HI
  go_wp2_with fail
  refine (HSU.out w4).mono ?_
  rintro e w5 ⟨rfl, hb5⟩
  have HC5 := Lib.hid (HC4.out.below hb5)
  have HP5 := Lib.hid (HP4.out.below hb5)
  have HBW5 := Lib.hid (below_of' HBW4.out hb5)
  clear HSU hb5 HC4 HP4 HBW4
  go_wp2_with fail
  refine (HSI.out w5).mono ?_
  rintro e w6 ⟨rfl, hb6⟩
  have HC6 := Lib.hid (HC5.out.below hb6)
  have HP6 := Lib.hid (HP5.out.below hb6)
  have HBW6 := Lib.hid (below_of' HBW5.out hb6)
  clear HSI hb6 HC5 HP5 HBW5
  go_wp2_with fail
  refine (HX.out w6 P fp C f HP6.out hpf HC6.out).mono ?_; rintro e w' ⟨rfl, rfl⟩
  go_wp2
  go_ret
  exact ⟨rfl, HBW6.out⟩
end Go.Proofs.Ytcdkibpfgnmmfaa
