/- Walk of the law VaryGets. -/
import Derived.Test.YtcdkibpfgnmmfaaVarS
namespace Go.Proofs.Ytcdkibpfgnmmfaa
open Go.RowKit Go.Shelf VB
set_option linter.unusedVariables false
theorem below_drewN {n : Nat} {w w' : World} (h : Below n w w') (q : Nat) : Below n w (w'.drewN q) := ⟨h.os, h.tape, h.output, h.size, h.block⟩
set_option maxRecDepth 100000 in
set_option maxHeartbeats 2000000 in
theorem vGets_core (a0 : Option Addr) (len0 cap0 : Nat) (z0 : List Int) (a1 : Int) (w : World) (w0 : RowIn .u8 w a0 len0 cap0 z0) (w1 : (Lit.int .i64 a1).wf = true) :
    Calls Try.prog 4 #[.slice a0 len0 cap0, .int .i64 a1] w fun e w' => e = .returned (.bool true) ∧ Below w.heap.size w w' := by
  obtain ⟨hbl, hb256, E, hrd⟩ := bytes_in w0
  obtain ⟨bs, hbs⟩ : ∃ bs, bs = bytesOf z0 len0 := ⟨_, rfl⟩
  rw [← hbs] at hbl hb256 hrd
  have hln := w0.len
  have hlc := hln.1
  have hcm := hln.2.2
  obtain ⟨m, hm⟩ : ∃ m, m = min len0 400 := ⟨_, rfl⟩
  have hm4 : m ≤ 400 := by omega
  have HWK := Lib.hid (wakes_c w)
  have HHD := Lib.hid (fun w1 (hb1 : Below w.heap.size w w1) => head_in a0 len0 m cap0 bs w1 (hrd.below hb1) hlc hcm hm)
  have HKP := Lib.hid (fun w2 C f base (hb2 : Below w.heap.size w w2) (ho : w2.ownsRow base 5 1 (.slice C (m + 12) f) (m + 12) (bsV (bs.take m ++ List.replicate 12 238))) (hl : (bs.take m).length = m) => kept_c C a0 m f len0 m cap0 base (bs.take m) bs w2 ho hl (hrd.below hb2) hlc hcm hm rfl)
  obtain ⟨hs, hhs⟩ : ∃ hs, hs = bs.take m := ⟨_, rfl⟩
  rw [← hhs] at HHD HKP
  have hs256 : ∀ x ∈ hs, x < 256 := by intro x hx; rw [hhs] at hx; exact hb256 x (List.mem_of_mem_take hx)
  have HS := Lib.hid hs256
  clear w0 hbl hb256 hrd hbs hln hhs hs256 w1 hm
  go_enter Try.func4, Try.ntmps4
  go_wp2_with fail
  refine HWK.out.mono ?_
  rintro e w1 ⟨rfl, hb1⟩
  go_wp2_with fail
  refine (HHD.out w1 hb1).mono ?_
  rintro e w2 ⟨C, f, rfl, ⟨hhl, hown⟩, hb2⟩
  have hbw := below_of' hb1 hb2
  have HK := Lib.hid (HKP.out w2 C f _ hbw hown hhl)
  have hnf := own_cap hown
  have hfm : f ≤ maxLen := by obtain ⟨A', c', h1, _, hf⟩ := own_form hown; injection h1 with _ _ h1; omega
  have hrd : Reads w2 5 1 C m (bsV hs) := by
    have h := (Reads.of_own hown).take (k := m) (by omega)
    rw [Nat.mul_one, bsV_app] at h
    rw [show m = (bsV hs).length by rw [bsV_len, hhl], List.take_left, bsV_len, hhl] at h
    exact h
  have G1 := Lib.hid (GetU_c C m f a1 hs w2 hrd (by omega) (by omega) hfm HS.out)
  have G2 := Lib.hid (Get_c C m f a1 hs w2 hrd (by omega) (by omega) hfm HS.out)
  have G3 := Lib.hid (refGet_c C m f a1 hs w2 hrd (by omega) (by omega) hfm HS.out)
  have G4 := Lib.hid (number_c C m f a1 hs w2 hrd (by omega) (by omega) hfm HS.out)
  have hgot := rg_got hs a1
  have hok := @rg_ok hs a1
  have herr := @rg_err hs a1
  clear HWK HHD HKP HS hrd hown hb1 hb2
  generalize gotN hs a1 = g at *
  generalize rg hs a1 = r at *
  obtain ⟨r1, r2, r3⟩ := r
  dsimp only at hgot hok herr
  by_cases he : r3 = 0
  · subst he
    rw [if_pos rfl] at hgot
    subst hgot
    obtain ⟨h1, h2, h3⟩ := hok rfl
    obtain ⟨k, rfl⟩ := Int.eq_ofNat_of_zero_le h1
    rw [Int.toNat_natCast] at *
    have hk : k + r2 ≤ 1000000 := by omega
    clear hok herr
    generalize unf (r1, k + r2, (0 : Int)).1 = v at *
    dsimp only at G1 G2 G4
    go_wp2_with fail
    refine G1.out.mono ?_; rintro e w' ⟨rfl, rfl⟩
    go_wp2_with fail
    refine G2.out.mono ?_; rintro e w' ⟨rfl, rfl⟩
    go_wp2_with fail
    refine G3.out.mono ?_; rintro e w' ⟨rfl, rfl⟩
    go_wp2_with fail
    refine G4.out.mono ?_; rintro e w' ⟨rfl, rfl⟩
    go_wp2_with fail
    refine HK.out.mono ?_; rintro e w' ⟨rfl, q, rfl⟩
    have hfin := below_drewN hbw q
    go_wp2
    go_ret
    exact ⟨rfl, hfin⟩
  · rw [if_neg he] at hgot
    subst hgot
    obtain ⟨rfl, rfl, _⟩ := trip (herr he)
    have te := beq_eq_false_iff_ne.2 he
    clear hok herr he
    generalize unf (0, 0, r3).1 = v at *
    dsimp only at G1 G2 G4
    go_wp2_with fail
    refine G1.out.mono ?_; rintro e w' ⟨rfl, rfl⟩
    go_wp2_with fail
    refine G2.out.mono ?_; rintro e w' ⟨rfl, rfl⟩
    go_wp2_with fail
    refine G3.out.mono ?_; rintro e w' ⟨rfl, rfl⟩
    go_wp2_with fail
    refine G4.out.mono ?_; rintro e w' ⟨rfl, rfl⟩
    go_wp2_with fail
    refine HK.out.mono ?_; rintro e w' ⟨rfl, q, rfl⟩
    have hfin := below_drewN hbw q
    go_wp2
    go_ret
    exact ⟨rfl, hfin⟩
end Go.Proofs.Ytcdkibpfgnmmfaa
