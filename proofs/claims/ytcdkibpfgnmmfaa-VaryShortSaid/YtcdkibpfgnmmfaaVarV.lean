/- Contracts of the document's RowBytes, Row. -/
import Derived.Test.YtcdkibpfgnmmfaaVarU
namespace Go.Proofs.Ytcdkibpfgnmmfaa
open Go.RowKit Go.Shelf VB
set_option linter.unusedVariables false
set_option maxHeartbeats 1000000 in
theorem rowBytes_c (L : Option Addr) (k cl : Nat) (zs : List Int) (w : World) (hz : Reads w 2 1 L k (zs.map (Value.int .i64))) (hk : k ≤ 1000) (hr : ∀ z ∈ zs, -9223372036854775808 ≤ z ∧ z ≤ 9223372036854775807) :
    Calls Try.prog 28 #[.slice L k cl] w (RetB (rowB zs) w) := by
  have hzl := ints_len hz
  have HZ := Lib.hid hz
  have HR := Lib.hid hr
  have HZL := Lib.hid hzl
  have HB0 := Lib.hid (fun w => bytes_ref k (by omega) w)
  have h10 := vb_len10 (n := k) (by omega)
  obtain ⟨vs, hvs⟩ : ∃ vs, vs = zs.map fold64 := ⟨_, rfl⟩
  have hvl : vs.length = k := by rw [hvs, List.length_map]; exact hzl
  have hvb : ∀ v ∈ vs, v < 18446744073709551616 := by
    rw [hvs]
    intro v hv
    obtain ⟨z, hz, rfl⟩ := List.mem_map.1 hv
    exact fold64_lt (hr z hz).1 (hr z hz).2
  obtain ⟨R, hR⟩ : ∃ R, R = rowB zs := ⟨_, rfl⟩
  have e1 : vb k ++ (vs.take k).flatMap vb = R := by rw [hR]; unfold rowB; rw [hzl, ← hvs, List.take_of_length_le (by omega)]
  rw [← hR]
  have HE := Lib.hid e1
  have HVS := Lib.hid hvs
  have HVL := Lib.hid hvl
  have HVB := Lib.hid hvb
  obtain ⟨l0, hl0⟩ : ∃ l0, l0 = vb k := ⟨_, rfl⟩
  rw [← hl0] at HB0 HE h10
  clear hz hr hzl e1 hvs hvl hvb hR hl0
  obtain ⟨i0, hi0, hz0, hz1, hz2⟩ := info_parts u8_info
  go_enter Try.func28, Try.ntmps28
  go_wp2_with fail
  refine (HB0.out w).mono ?_
  clear HB0
  rintro e w1 ⟨C1, f1, rfl, hown1, hb1⟩
  have HO1 := Lib.hid hown1
  clear hown1
  go_wp2_with fail
  go_loopw [3, 12] (fun u3 u12 wr => ∃ (i : Nat) (C : Option Addr) (f n : Nat), i ≤ k ∧ n = (l0 ++ (vs.take i).flatMap vb).length ∧ u12 = .int .i64 (i : Nat) ∧ u3 = .slice C n f ∧ wr.ownsRow w.heap.size 5 1 (.slice C n f) n (bsV (l0 ++ (vs.take i).flatMap vb)) ∧ Below w.heap.size w wr)
    (fun _ u12 _ => k - (intOf u12).toNat)
  case atStart => exact ⟨0, C1, f1, _, Nat.zero_le _, by simp, rfl, rfl, by simpa using HO1.out, hb1⟩
  case round =>
    clear HO1 hb1
    obtain ⟨i, C, f, n, hi, hn, rfl, rfl, hrow, hB⟩ := hrel
    have hacc : n ≤ 10010 := by
      rw [hn, List.length_append]
      have h1 := flat_len (vs.take i) (fun v hv => HVB.out v (List.mem_of_mem_take hv))
      rw [List.length_take] at h1
      omega
    have HN := Lib.hid hn
    have HROW := Lib.hid hrow
    clear hn hrow
    by_cases hlt : i < k
    · obtain ⟨ad, rfl, cx⟩ := ints_at (HZ.out.below hB) hlt
      have hzr := HR.out (zs.getD i 0) (by rw [List.getD_eq_getElem?_getD, List.getElem?_eq_getElem (by rw [HZL.out]; exact hlt)]; exact List.getElem_mem _)
      have htk := take_flat (vs := vs) (i := i) (by rw [HVL.out]; exact hlt)
      have hq : vs.getD i 0 = fold64 (zs.getD i 0) := by
        rw [HVS.out, List.getD_eq_getElem?_getD, List.getD_eq_getElem?_getD, List.getElem?_map, List.getElem?_eq_getElem (by rw [HZL.out]; exact hlt)]
        rfl
      have HC := Lib.hid (fun w => signed_c (zs.getD i 0) hzr.1 hzr.2 w)
      have hq10 := vb_len10 (fold64_lt hzr.1 hzr.2)
      rw [hq] at htk
      obtain ⟨lx, hlx⟩ : ∃ lx, lx = vb (fold64 (zs.getD i 0)) := ⟨_, rfl⟩
      rw [← hlx] at htk HC hq10
      obtain ⟨nx, hnx⟩ : ∃ nx, nx = lx.length := ⟨_, rfl⟩
      rw [← hnx] at hq10
      have HNX := Lib.hid hnx
      have HTK := Lib.hid htk
      clear htk hlx hnx hq hzr
      generalize zs.getD i 0 = z at *
      obtain ⟨acc, ha⟩ : ∃ acc, acc = l0 ++ (vs.take i).flatMap vb := ⟨_, rfl⟩
      have hnxt : l0 ++ (vs.take (i + 1)).flatMap vb = acc ++ lx := by rw [HTK.out, ha, List.append_assoc]
      rw [← ha] at HN HROW
      have HNXT := Lib.hid hnxt
      clear ha hnxt HTK
      go_wp2_with fail
      refine (HC.out wr).mono ?_
      intro e w2 h
      obtain ⟨A, fa, rfl, hoa, hb2⟩ := h.n HNX.out
      have HRD := Lib.hid (Reads.of_own hoa)
      have HROW2 := Lib.hid (own_below HROW.out hb2)
      have HB2 := Lib.hid (below_of' hB hb2)
      have hs2 := HB2.out.size
      clear h hoa hb2 HROW hB HC
      go_wp2_with (at_builtin; refine wpList_append_any _ rfl (.tmp 16) (.tmp 18) 29 rfl w.heap.size 5 i0 (.int .u8 0) 1 1 Try.underlying29 hi0 hz0 hz1 hz2 rfl (by decide) (.slice C n f) n _ rfl HROW2.out A nx fa (bsV lx) rfl HRD.out (bsV_one _) (by simp only [maxLen]; omega) (by omega) hs2 ?_; intro v' w3 hown' hg' hnil)
      obtain ⟨D, d, rfl, _, _⟩ := own_form hown'
      exact ⟨⟨i + 1, D, d, n + nx, by omega, by rw [HNXT.out, List.length_append, ← HN.out, ← HNX.out], by go_num, rfl, by rw [HNXT.out, bsV_app]; exact hown', HB2.out.grown hg' hs2 (fun k hk => (HROW2.out.lt k hk).1)⟩, by simp [intOf]; omega⟩
    · obtain rfl : i = k := by omega
      have HRR := Lib.hid (HE.out)
      clear hlt
      go_wp2
      go_ret
      have h1 := HN.out
      have h2 := HROW.out
      rw [HRR.out] at h1 h2
      subst h1
      exact ⟨C, f, rfl, h2, hB⟩
end Go.Proofs.Ytcdkibpfgnmmfaa
