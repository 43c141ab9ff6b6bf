/- Walk of the law VaryAlone. -/
import Derived.Test.YtcdkibpfgnmmfaaLawK
import Derived.Deep.RegionHeld3
import Derived.Deep.DeepCutAuto
import Derived.Deep.QuietTactic
import Derived.BigQuiet
namespace Go.Proofs.Ytcdkibpfgnmmfaa
open Go.RowKit Go.Shelf VB
set_option linter.unusedVariables false
theorem fold_unf {v : Nat} (h : v < 18446744073709551616) : fold64 (unf v) = v := by
  unfold unf fold64
  split <;> split <;> omega
/-- what was got has just those bytes -/
theorem gotN_sound {hs : List Nat} {z : Int} {v p : Nat} (hb : ∀ x ∈ hs, x < 256) (h : gotN hs z = (v, p, 0)) : ∃ k : Nat, z = (k : Nat) ∧ (hs.drop k).take (vb v).length = vb v ∧ p = k + (vb v).length ∧ k + (vb v).length ≤ hs.length ∧ v < 18446744073709551616 := by
  have h1 := gotN_small hs z
  rw [h] at h1
  unfold gotN at h
  split at h
  · rename_i hz
    obtain ⟨k, rfl⟩ := Int.eq_ofNat_of_zero_le hz.1
    rw [Int.toNat_natCast] at h
    split at h
    · rename_i he
      obtain ⟨g1, g2, g3⟩ : ∃ a b, gv 0 0 (hs.drop k) = (a, b, 0) := ⟨_, _, by rw [← he]⟩
      rw [g3] at h
      dsimp only at h
      obtain ⟨rfl, rfl, _⟩ := trip h
      obtain ⟨m, e1, e2, _⟩ := gv_sound _ 0 0 _ _ (fun x hx => hb x (List.mem_of_mem_drop hx)) g3
      have e3 := gv_lt _ 0 0 _ _ g3
      rw [Nat.zero_add, Nat.pow_zero, Nat.mul_one] at e1
      subst e1
      rw [Nat.sub_zero] at e2
      rw [List.length_drop] at e3
      have e4 : (vb g1).length = g2 := by rw [← e2, List.length_take, List.length_drop]; omega
      refine ⟨k, rfl, by rw [e4]; exact e2, by rw [e4], by rw [e4]; omega, h1⟩
    · rename_i he
      have := congrArg (fun t : Nat × Nat × Int => t.2.2) h
      exact absurd this he
  · have := congrArg (fun t : Nat × Nat × Int => t.2.2) h
    exact absurd this (show ¬ (2 : Int) = 0 by decide)
theorem gotN_cut {n j : Nat} (hn : n < 18446744073709551616) (hj : j < (vb n).length) : gotN ((vb n).take j) 0 = (0, 0, 6) := by
  unfold gotN
  rw [if_pos ⟨by omega, by omega⟩, show (0 : Int).toNat = 0 from rfl, List.drop_zero, gv_cut n 0 0 j (by simpa using hn) hj, if_neg (by decide)]
set_option maxRecDepth 100000 in
set_option maxHeartbeats 4000000 in
theorem vAlone_core (a0 : Option Addr) (len0 cap0 : Nat) (z0 : List Int) (a1 a2 : Int) (w : World) (w0 : RowIn .u8 w a0 len0 cap0 z0) (w1 : (Lit.int .i64 a1).wf = true) (w2 : (Lit.int .u64 a2).wf = true) :
    Calls Try.prog 8 #[.slice a0 len0 cap0, .int .i64 a1, .int .u64 a2] w fun e w' => e = .returned (.bool true) ∧ Below w.heap.size w w' := by
  obtain ⟨hbl, hb256, E, hrd⟩ := bytes_in w0
  obtain ⟨bs, hbs⟩ : ∃ bs, bs = bytesOf z0 len0 := ⟨_, rfl⟩
  rw [← hbs] at hbl hb256 hrd
  have hln := w0.len
  have hlc := hln.1
  have hcm := hln.2.2
  obtain ⟨m, hm⟩ : ∃ m, m = min len0 400 := ⟨_, rfl⟩
  have hm4 : m ≤ 400 := by omega
  obtain ⟨v1, v2⟩ := u64_wf w2
  obtain ⟨n, rfl⟩ := Int.eq_ofNat_of_zero_le v1
  have hn64 : n < 18446744073709551616 := by omega
  have HWK := Lib.hid (wakes_c w)
  have HHD := Lib.hid (fun w1 (hb1 : Below w.heap.size w w1) => head_in a0 len0 m cap0 bs w1 (hrd.below hb1) hlc hcm hm)
  obtain ⟨hs, hhs⟩ : ∃ hs, hs = bs.take m := ⟨_, rfl⟩
  rw [← hhs] at HHD
  have hs256 : ∀ x ∈ hs, x < 256 := by intro x hx; rw [hhs] at hx; exact hb256 x (List.mem_of_mem_take hx)
  have hsl : hs.length = m := by rw [hhs, List.length_take]; omega
  have nn10 := vb_len10 hn64
  have HPN := Lib.hid (fun w => PutU_c none 0 0 [] n w Reads.none_ (by decide) hn64)
  have ln256 := vb_byte n
  have hcut := fun j hj => gotN_cut (n := n) (j := j) hn64 hj
  have hfree := fun v r hv h => vb_free (m := v) (n := n) (r := r) hv hn64 h
  have hfree2 := fun v r hv h => vb_free (m := n) (n := v) (r := r) hn64 hv h
  obtain ⟨ln, hln'⟩ : ∃ ln, ln = vb n := ⟨_, rfl⟩
  rw [← hln'] at nn10 HPN ln256 hcut hfree hfree2
  rw [List.nil_append] at HPN
  obtain ⟨nn, hnn⟩ : ∃ nn, nn = ln.length := ⟨_, rfl⟩
  rw [← hnn] at nn10 hcut
  have HCUT := Lib.hid (fun w' O fo j (hj : j < nn) (h : Reads w' 5 1 O nn (bsV ln)) (hf : nn ≤ fo) (hfm : fo ≤ maxLen) => by
    have hr := h.take (k := j) (by omega)
    rw [Nat.mul_one, show (bsV ln).take j = bsV (ln.take j) by simp [bsV, List.map_take]] at hr
    have := GetU_c O j fo 0 (ln.take j) w' hr (by omega) (by omega) hfm (fun x hx => ln256 x (List.mem_of_mem_take hx))
    rw [hcut j hj] at this
    exact this)
  have HNN := Lib.hid hnn
  have HS := Lib.hid hs256
  have HL := Lib.hid hsl
  have HFREE := Lib.hid hfree
  have HFREE2 := Lib.hid hfree2
  have HN256 := Lib.hid ln256
  clear w0 hbl hb256 hrd hbs hln hhs hs256 w1 w2 hm hsl v1 v2 hcut hln' hnn hfree hfree2 ln256
  go_enter Try.func8, Try.ntmps8
  go_wp2_with fail
  refine HWK.out.mono ?_
  rintro e w1 ⟨rfl, hb1⟩
  go_wp2_with fail
  refine (HHD.out w1 hb1).mono ?_
  rintro e w2 ⟨C, f, rfl, hh2, hb2⟩
  have hbw2 := below_of' hb1 hb2
  obtain ⟨hmf, hfm⟩ := hh2.cap
  have HR2 := Lib.hid hh2.reads
  obtain ⟨cd, hC, _⟩ := (Reads.of_own hh2.2).2 (by omega)
  subst hC
  clear hb1 hb2 HWK HHD hh2
  have G1 := Lib.hid (GetU_c (some cd) m f a1 hs w2 HR2.out (by omega) (by omega) hfm HS.out)
  have G2 := Lib.hid (fun w' (h : Reads w' 5 1 (some cd) m (bsV hs)) => Get_c (some cd) m f a1 hs w' h (by omega) (by omega) hfm HS.out)
  have hsound := fun v p => @gotN_sound hs a1 v p HS.out
  generalize gotN hs a1 = g at *
  obtain ⟨v, p, e0⟩ := g
  dsimp only at G1 G2
  by_cases he : e0 = 0
  · subst he
    obtain ⟨k, rfl, hdk, hp, hle, hv64⟩ := hsound v p rfl
    clear hsound
    rw [HL.out] at hle
    have nv10 := vb_len10 hv64
    have nv1 := vb_len_pos v
    have hpu := fun w => PutU_c none 0 0 [] v w Reads.none_ (by decide) hv64
    have hpi := fun w => Put_c none 0 0 [] (unf v) w Reads.none_ (by decide) (by unfold unf; split <;> omega) (by unfold unf; split <;> omega)
    rw [fold_unf hv64] at hpi
    simp only [List.nil_append] at hpu hpi
    have lv256 := vb_byte v
    have hfr := fun r => HFREE.out v r hv64
    have hfr2 := fun r => HFREE2.out v r hv64
    generalize unf v = uv at *
    obtain ⟨lv, hlv⟩ : ∃ lv, lv = vb v := ⟨_, rfl⟩
    rw [← hlv] at hdk nv10 nv1 hpu hpi lv256 hfr hfr2 hle hp
    obtain ⟨nv, hnv⟩ : ∃ nv, nv = lv.length := ⟨_, rfl⟩
    rw [← hnv] at hdk nv10 nv1 hle hp
    obtain rfl : nv = p - k := by omega
    have HSLC := Lib.hid (fun w' (h : Reads w' 5 1 (some cd) m (bsV hs)) => show Reads w' 5 1 (some (cd.add k)) (p - k) (bsV lv) by
      have h1 := h.cut (k := k) (cap := f) (by omega) (by omega)
      rw [if_neg (by omega), Nat.mul_one] at h1
      have h2 := h1.take (k := p - k) (by omega)
      rw [Nat.mul_one] at h2
      rw [← hdk]
      rw [show bsV ((hs.drop k).take (p - k)) = ((bsV hs).drop k).take (p - k) by simp [bsV, List.map_take, List.map_drop]]
      exact h2)
    have HPU := Lib.hid (fun w => hpu w)
    have HPI := Lib.hid (fun w => hpi w)
    have HEQ := Lib.hid (fun w' U fu (h1 : Reads w' 5 1 U (p - k) (bsV lv)) (h2 : Reads w' 5 1 (some cd) m (bsV hs)) => by
      have h3 := equal_bs (e1 := 5) (e2 := 5) U (some (cd.add k)) (p - k) (p - k) fu (f - k) lv lv w' h1 (HSLC.out w' h2) (by omega)
      rw [decide_eq_true rfl] at h3
      exact h3)
    have HX1 := Lib.hid (fun (hvn : ¬ v = n) w' O fo (h1 : Reads w' 5 1 O nn (bsV ln)) (h2 : Reads w' 5 1 (some cd) m (bsV hs)) (hf : nn ≤ fo) => by
      have h := prefix_c O (some (cd.add k)) nn (p - k) fo (f - k) ln lv w' h1 (HSLC.out w' h2) hf HN256.out lv256
      rw [show decide (ln.take (p - k) = lv) = false from decide_eq_false (fun h => hvn (hfr (ln.drop (p - k)) (by rw [← h]; exact (List.take_append_drop _ _).symm)))] at h
      exact h)
    have HX2 := Lib.hid (fun (hvn : ¬ v = n) w' O fo (h1 : Reads w' 5 1 O nn (bsV ln)) (h2 : Reads w' 5 1 (some cd) m (bsV hs)) => by
      have h := prefix_c (some (cd.add k)) O (p - k) nn (f - k) fo lv ln w' (HSLC.out w' h2) h1 (by omega) lv256 HN256.out
      rw [show decide (lv.take nn = ln) = false from decide_eq_false (fun h => hvn (hfr2 (lv.drop nn) (by rw [← h]; exact (List.take_append_drop _ _).symm)).symm)] at h
      exact h)
    have HNV := Lib.hid hnv
    have HV256 := Lib.hid lv256
    have HFR := Lib.hid hfr
    have HFR2 := Lib.hid hfr2
    have t1 : decide ((p : Int) ≤ (k : Int)) = false := decide_eq_false (by omega)
    have t2 : decide (p ≤ k) = false := decide_eq_false (by omega)
    have t3 : decide ((m : Int) < (p : Int)) = false := decide_eq_false (by omega)
    have t4 : decide (m < p) = false := decide_eq_false (by omega)
    have hkm : p ≤ m := by omega
    have hkp : k ≤ p := by omega
    have i1 : (0 : Int) ≤ (k : Int) := by omega
    have i2 : (k : Int) ≤ (p : Int) := by omega
    have i3 : (p : Int) ≤ (f : Int) := by omega
    have hkf : ¬ f = k := by omega
    clear hpu hpi hdk hlv hnv lv256 hfr hfr2 HFREE HFREE2 hle hp
    go_wp2_with fail
    refine G1.out.mono ?_; rintro e w' ⟨rfl, rfl⟩
    clear G1
    go_upto_region 5 with fail
    go_region_held3 (fun _w' => True) (trivial) (first | (go_at_call 15; refine (HPU.out _).mono ?_; intro e wa h; obtain ⟨U, fu, rfl, hou, hba⟩ := h.n HNV.out; have HOU := Lib.hid hou) | (go_at_call 24; refine (HEQ.out _ U fu (Reads.of_own HOU.out) (HR2.out.drew.below hba)).mono ?_; rintro e wb ⟨rfl, q5, rfl⟩))
    have hba2 : Below w2.heap.size w2 wa := ⟨hba.os, hba.tape, hba.output, hba.size, hba.block⟩
    have hbw3 := below_drewN (below_of' hbw2 hba2) q5
    have HR3 := Lib.hid ((HR2.out.below hba2).drewN q5)
    clear HR2 hbw2 hba hba2 h hou HOU HPU
    generalize wa.drewN q5 = w3 at *
    go_wp2_with fail
    refine (G2.out _ HR3.out).mono ?_; rintro e w' ⟨rfl, rfl⟩
    clear G2
    go_upto_region 8 with fail
    go_region_held3 (fun _w' => True) (trivial) (first | (go_at_call 14; refine (HPI.out _).mono ?_; intro e wa h; obtain ⟨U, fu, rfl, hou, hba⟩ := h.n HNV.out; have HOU := Lib.hid hou) | (go_at_call 24; refine (HEQ.out _ U fu (Reads.of_own HOU.out) (HR3.out.drew.below hba)).mono ?_; rintro e wb ⟨rfl, q5, rfl⟩))
    have hba2 : Below w3.heap.size w3 wa := ⟨hba.os, hba.tape, hba.output, hba.size, hba.block⟩
    have hbw4 := below_drewN (below_of' hbw3 hba2) q5
    have HR4 := Lib.hid ((HR3.out.below hba2).drewN q5)
    clear HR3 hbw3 hba hba2 h hou HOU HPI HEQ
    generalize wa.drewN q5 = w4 at *
    go_wp2_with fail
    refine (HPN.out w4).mono ?_
    clear HPN
    intro e w5 h
    obtain ⟨O, fo, rfl, hoo, hb5⟩ := h.n HNN.out
    have hof := own_cap hoo
    have hofm : fo ≤ maxLen := by obtain ⟨A', c', h1, _, hf⟩ := own_form hoo; injection h1 with _ _ h1; omega
    have HO5 := Lib.hid (Reads.of_own hoo)
    have HR5 := Lib.hid (HR4.out.below hb5)
    have hbw5 := below_of' hbw4 hb5
    clear h hoo hb5 HR4 hbw4
    go_wp2_with fail
    go_loopw [86] (fun v wr => ∃ j : Nat, j ≤ nn ∧ v = .int .i64 (j : Nat) ∧ wr = w5) (fun v _ => nn - (intOf v).toNat)
    case atStart => exact ⟨0, Nat.zero_le _, rfl, rfl⟩
    case round =>
      obtain ⟨j, hj, rfl, rfl⟩ := hrel
      by_cases hlt : j < nn
      · have hjf : j ≤ fo := by omega
        have G := Lib.hid (HCUT.out _ O fo j hlt HO5.out hof hofm)
        go_wp2_with fail
        refine G.out.mono ?_; rintro e w' ⟨rfl, rfl⟩
        go_wp2_with fail
        exact ⟨⟨j + 1, by omega, by go_num, by simp⟩, by simp [intOf]; omega⟩
      · obtain rfl : j = nn := by omega
        clear hlt
        by_cases hvn : v = n
        · have te : ((v : Int) == (n : Int)) = true := beq_iff_eq.2 (by omega)
          clear hvn
          go_wp2_with fail
          go_ret
          exact ⟨rfl, hbw5⟩
        · have te : ((v : Int) == (n : Int)) = false := beq_eq_false_iff_ne.2 (by omega)
          have HX1' := Lib.hid (HX1.out hvn _ O fo HO5.out HR5.out hof)
          have HX2' := Lib.hid (HX2.out hvn _ O fo HO5.out HR5.out)
          clear hvn HX1 HX2
          go_wp2_with fail
          refine HX1'.out.mono ?_; rintro e w' ⟨rfl, rfl⟩
          go_wp2_with fail
          refine HX2'.out.mono ?_; rintro e w' ⟨rfl, rfl⟩
          go_wp2_with fail
          go_ret
          exact ⟨rfl, hbw5⟩
  · have te := beq_eq_false_iff_ne.2 he
    have te2 := bne_iff_ne.2 he
    generalize unf v = uv at *
    clear hsound he
    go_wp2_with fail
    refine G1.out.mono ?_; rintro e w' ⟨rfl, rfl⟩
    clear G1
    go_upto_region 5 with fail
    go_quiet (fail)
    go_wp2_with fail
    refine (G2.out _ (HR2.out.drewN nq)).mono ?_; rintro e w' ⟨rfl, rfl⟩
    clear G2
    have hbw3 := below_drewN hbw2 nq
    have HR3 := Lib.hid (HR2.out.drewN nq)
    clear HR2 hbw2
    generalize w2.drewN nq = w3 at *
    go_upto_region 8 with fail
    go_quiet (fail)
    go_wp2_with fail
    have hbw4 := below_drewN hbw3 nq
    have HR4 := Lib.hid (HR3.out.drewN nq)
    clear HR3 hbw3
    generalize w3.drewN nq = w4 at *
    refine (HPN.out w4).mono ?_
    clear HPN
    intro e w5 h
    obtain ⟨O, fo, rfl, hoo, hb5⟩ := h.n HNN.out
    have hof := own_cap hoo
    have hofm : fo ≤ maxLen := by obtain ⟨A', c', h1, _, hf⟩ := own_form hoo; injection h1 with _ _ h1; omega
    have HO5 := Lib.hid (Reads.of_own hoo)
    have HR5 := Lib.hid (HR4.out.below hb5)
    have hbw5 := below_of' hbw4 hb5
    clear h hoo hb5 HR4 hbw4
    go_wp2_with fail
    go_loopw [86] (fun v wr => ∃ j : Nat, j ≤ nn ∧ v = .int .i64 (j : Nat) ∧ wr = w5) (fun v _ => nn - (intOf v).toNat)
    case atStart => exact ⟨0, Nat.zero_le _, rfl, rfl⟩
    case round =>
      obtain ⟨j, hj, rfl, rfl⟩ := hrel
      by_cases hlt : j < nn
      · have hjf : j ≤ fo := by omega
        have G := Lib.hid (HCUT.out _ O fo j hlt HO5.out hof hofm)
        go_wp2_with fail
        refine G.out.mono ?_; rintro e w' ⟨rfl, rfl⟩
        go_wp2_with fail
        exact ⟨⟨j + 1, by omega, by go_num, by simp⟩, by simp [intOf]; omega⟩
      · obtain rfl : j = nn := by omega
        clear hlt
        go_wp2_with fail
        go_ret
        exact ⟨rfl, hbw5⟩
end Go.Proofs.Ytcdkibpfgnmmfaa
