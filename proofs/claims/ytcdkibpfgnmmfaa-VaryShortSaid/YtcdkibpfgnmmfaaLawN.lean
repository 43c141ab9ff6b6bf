/- Walk of the law VaryShort. -/
import Derived.Test.YtcdkibpfgnmmfaaLawM
import Derived.Deep.DeepCutAuto
import Derived.Deep.QuietTactic
import Derived.BigQuiet
namespace Go.Proofs.Ytcdkibpfgnmmfaa
open Go.RowKit Go.Shelf VB
set_option linter.unusedVariables false
theorem far_c (n : Int) (h : -9223372036854775808 ≤ n) (h2 : n ≤ 9223372036854775807) (w : World) : Calls Try.prog 11 #[.int .i64 n] w fun e w' => e = .returned (.int .u64 (n.natAbs : Nat)) ∧ w = w' := by
  go_enter Try.func11, Try.ntmps11
  by_cases hn : n < 0
  · have e1 : wrap64 (n + 1) = n + 1 := by unfold wrap64; omega
    have e2 : wrap64 (-(n + 1)) = -(n + 1) := by unfold wrap64; omega
    have e3 : IntKind.u64.wrap (-(n + 1)) = -(n + 1) := by rw [IntKind.wrap_u64]; omega
    have e4 : IntKind.u64.wrap (-(n + 1) + 1) = (n.natAbs : Int) := by rw [IntKind.wrap_u64]; omega
    go_wp2_with fail
    go_ret
    exact ⟨rfl, rfl⟩
  · have hd : decide (n < 0) = false := decide_eq_false hn
    have e3 : IntKind.u64.wrap n = (n.natAbs : Int) := by rw [IntKind.wrap_u64]; omega
    go_wp2_with fail
    go_ret
    exact ⟨rfl, rfl⟩
theorem fold_far {m n : Int} (h : m.natAbs < n.natAbs) : fold64 m ≤ fold64 n := by
  unfold fold64
  split <;> split <;> omega
set_option maxRecDepth 100000 in
set_option maxHeartbeats 4000000 in
theorem vShort_core (x0a x0b x0c x0d : Int) (w : World) (w0a : (Lit.int .u64 x0a).wf = true) (w0b : (Lit.int .u64 x0b).wf = true) (w0c : (Lit.int .i64 x0c).wf = true) (w0d : (Lit.int .i64 x0d).wf = true) :
    Calls Try.prog 3 #[.agg #[.int .u64 x0a, .int .u64 x0b, .int .i64 x0c, .int .i64 x0d]] w fun e w' => e = .returned (.bool true) ∧ Below w.heap.size w w' := by
  obtain ⟨p1, p2⟩ := u64_wf w0a
  obtain ⟨q1, q2⟩ := u64_wf w0b
  obtain ⟨r1, r2⟩ := i64_wf w0c
  obtain ⟨s1, s2⟩ := i64_wf w0d
  obtain ⟨a, rfl⟩ := Int.eq_ofNat_of_zero_le p1
  obtain ⟨b, rfl⟩ := Int.eq_ofNat_of_zero_le q1
  have a64 : a < 18446744073709551616 := by omega
  have b64 : b < 18446744073709551616 := by omega
  clear w0a w0b w0c w0d p1 p2 q1 q2
  obtain ⟨cs, hcs⟩ : ∃ cs : Array Value, cs = #[.int .u64 (a : Nat), .int .u64 (b : Nat), .int .i64 x0c, .int .i64 x0d] := ⟨_, rfl⟩
  have HBK := Lib.hid (Blk.new w 24 cs)
  have HBW := Lib.hid ((Below.refl w.heap.size w).alloc (Nat.le_refl _) (.cells cs 24))
  have HWK := Lib.hid (wakes_c (w.alloc (.cells cs 24)))
  have HCS := Lib.hid hcs
  rw [hcs] at HWK HBK HBW
  clear hcs
  go_enter Try.func3, Try.ntmps3
  go_wp2_with fail
  refine HWK.out.mono ?_
  rintro e w1 ⟨rfl, hb1⟩
  have HB1 := Lib.hid (HBK.out.under hb1)
  have HBW1 := Lib.hid (show Below w.heap.size w w1 from HBW.out.trans (hb1.mono HBW.out.size))
  clear HWK HBK HBW hb1
  have c0 : w1.cell? ⟨w.heap.size, 0, none⟩ = some (.int .u64 (a : Nat)) := (HB1.out.cell 0).trans rfl
  have c1 : w1.cell? ⟨w.heap.size, 1, none⟩ = some (.int .u64 (b : Nat)) := (HB1.out.cell 1).trans rfl
  have c2 : w1.cell? ⟨w.heap.size, 2, none⟩ = some (.int .i64 x0c) := (HB1.out.cell 2).trans rfl
  have c3 : w1.cell? ⟨w.heap.size, 3, none⟩ = some (.int .i64 x0d) := (HB1.out.cell 3).trans rfl
  go_upto_region 3 with fail
  go_quiet (fail)
  have HBW2 := Lib.hid (below_drewN HBW1.out nq)
  clear c0 c1 c2 c3 HB1 HBW1
  generalize w1.drewN nq = w2 at *
  go_upto_if 19 with fail
  go_cut [3, 4] (fun u3 u4 wx => ∃ a b : Nat, u3 = .int .u64 (a : Nat) ∧ u4 = .int .u64 (b : Nat) ∧ a ≤ b ∧ a < 18446744073709551616 ∧ b < 18446744073709551616 ∧ wx = w2)
  case first =>
    by_cases hab : b < a
    · go_wp2_with fail
      go_meet
      exact ⟨b, a, rfl, rfl, by omega, b64, a64, rfl⟩
    · have hd : decide ((b : Int) < (a : Int)) = false := decide_eq_false (by omega)
      go_wp2_with fail
      go_meet
      exact ⟨a, b, rfl, rfl, by omega, a64, b64, rfl⟩
  case rest =>
    clear a64 b64 HCS
    obtain ⟨a', b', rfl, rfl, hab, a64, b64, rfl⟩ := hcut
    have HFC := Lib.hid (fun w => far_c x0c r1 r2 w)
    have HFD := Lib.hid (fun w => far_c x0d s1 s2 w)
    go_wp2_with fail
    refine (HFC.out _).mono ?_; rintro e w' ⟨rfl, rfl⟩
    go_wp2_with fail
    refine (HFD.out _).mono ?_; rintro e w' ⟨rfl, rfl⟩
    clear HFC HFD
    go_upto_if 26 with fail
    go_cut [5, 6] (fun u5 u6 wx => ∃ m n : Int, u5 = .int .i64 m ∧ u6 = .int .i64 n ∧ m.natAbs ≤ n.natAbs ∧ -9223372036854775808 ≤ m ∧ m ≤ 9223372036854775807 ∧ -9223372036854775808 ≤ n ∧ n ≤ 9223372036854775807 ∧ wx = wc)
    case first =>
      by_cases hmn : x0d.natAbs < x0c.natAbs
      · have hd : decide ((x0d.natAbs : Int) < (x0c.natAbs : Int)) = true := decide_eq_true (by omega)
        go_wp2_with fail
        go_meet
        exact ⟨x0d, x0c, rfl, rfl, by omega, s1, s2, r1, r2, rfl⟩
      · have hd : decide ((x0d.natAbs : Int) < (x0c.natAbs : Int)) = false := decide_eq_false (by omega)
        go_wp2_with fail
        go_meet
        exact ⟨x0c, x0d, rfl, rfl, by omega, r1, r2, s1, s2, rfl⟩
    case rest =>
      clear r1 r2 s1 s2
      obtain ⟨m, n, rfl, rfl, hmn, r1, r2, s1, s2, rfl⟩ := hcut
      have hab' := vb_len_mono hab
      have ha1 := vb_len_pos a'
      have hb10 := vb_len10 b64
      have HSA := Lib.hid (fun w => SizeU_c a' a64 w)
      have HSB := Lib.hid (fun w => SizeU_c b' b64 w)
      have HFM := Lib.hid (fun w => far_c m r1 r2 w)
      have HFN := Lib.hid (fun w => far_c n s1 s2 w)
      have HSM := Lib.hid (fun w => Size_c m r1 r2 w)
      have HSN := Lib.hid (fun w => Size_c n s1 s2 w)
      have HP := Lib.hid (fun w => Put_c none 0 0 [] n w Reads.none_ (by decide) s1 s2)
      have HPU := Lib.hid (fun w => PutU_c none 0 0 [] b' w Reads.none_ (by decide) b64)
      have hff : m.natAbs < n.natAbs → (vb (fold64 m)).length ≤ (vb (fold64 n)).length := fun h => vb_len_mono (fold_far h)
      simp only [List.nil_append] at HP HPU
      generalize m.natAbs = fm at *
      generalize n.natAbs = fn at *
      obtain ⟨lm, hlm⟩ : ∃ l, l = vb (fold64 m) := ⟨_, rfl⟩
      obtain ⟨ln, hln⟩ : ∃ l, l = vb (fold64 n) := ⟨_, rfl⟩
      obtain ⟨lb, hlb⟩ : ∃ l, l = vb b' := ⟨_, rfl⟩
      obtain ⟨la, hla⟩ : ∃ l, l = vb a' := ⟨_, rfl⟩
      rw [← hlm] at HSM hff
      rw [← hln] at HSN hff HP
      rw [← hla] at HSA hab' ha1
      rw [← hlb] at HSB hab' hb10 HPU
      obtain ⟨sm, hsm⟩ : ∃ l, l = lm.length := ⟨_, rfl⟩
      obtain ⟨sn, hsn⟩ : ∃ l, l = ln.length := ⟨_, rfl⟩
      obtain ⟨sb, hsb⟩ : ∃ l, l = lb.length := ⟨_, rfl⟩
      obtain ⟨sa, hsa⟩ : ∃ l, l = la.length := ⟨_, rfl⟩
      rw [← hsm] at HSM hff
      rw [← hsn] at HSN hff
      rw [← hsa] at HSA hab' ha1
      rw [← hsb] at HSB hab' hb10
      have HNM := Lib.hid hsn
      have HNB := Lib.hid hsb
      clear hlm hln hlb hla hsm hsn hsb hsa r1 r2 s1 s2 a64 b64 hab
      have t1 : (sa : Int) ≤ (sb : Int) := by omega
      have t2 : (1 : Int) ≤ (sa : Int) := by omega
      have t3 : (sb : Int) ≤ 10 := by omega
      go_wp2_with fail
      refine (HSA.out _).mono ?_; rintro e w3 ⟨rfl, hb3⟩
      have hbw3 := below_of' HBW2.out hb3
      clear hb3 HBW2
      go_wp2_with fail
      refine (HSB.out _).mono ?_; rintro e w4 ⟨rfl, hb4⟩
      have hbw4 := below_of' hbw3 hb4
      clear hb4 hbw3
      go_wp2_with fail
      refine (HSA.out _).mono ?_; rintro e w5 ⟨rfl, hb5⟩
      have hbw5 := below_of' hbw4 hb5
      clear hb5 hbw4
      go_wp2_with fail
      refine (HSB.out _).mono ?_; rintro e w6 ⟨rfl, hb6⟩
      have hbw6 := below_of' hbw5 hb6
      clear hb6 hbw5
      go_wp2_with fail
      refine (HFM.out _).mono ?_; rintro e w' ⟨rfl, rfl⟩
      go_wp2_with fail
      refine (HFN.out _).mono ?_; rintro e w' ⟨rfl, rfl⟩
      clear HFM HFN HSA
      by_cases hfe : fm = fn
      · have te : ((fm : Int) == (fn : Int)) = true := beq_iff_eq.2 (by omega)
        have HBW := Lib.hid hbw6
        clear hfe hff hbw6
        go_wp2_with fail
        refine (HP.out _).mono ?_
        intro e w20 h
        obtain ⟨U, fu, rfl, hou, hbA⟩ := h.n HNM.out
        have hbw10 := below_of' HBW.out hbA
        clear h hou hbA
        go_wp2_with fail
        refine (HSN.out _).mono ?_; rintro e w21 ⟨rfl, hbB⟩
        have hbw11 := below_of' hbw10 hbB
        clear hbB hbw10
        go_wp2_with fail
        refine (HPU.out _).mono ?_
        intro e w22 h
        obtain ⟨U2, fu2, rfl, hou2, hbC⟩ := h.n HNB.out
        have hbw12 := below_of' hbw11 hbC
        clear h hou2 hbC hbw11
        go_wp2_with fail
        refine (HSB.out _).mono ?_; rintro e w23 ⟨rfl, hbD⟩
        have hbw13 := below_of' hbw12 hbD
        clear hbD hbw12
        go_wp2_with fail
        go_ret
        exact ⟨rfl, hbw13⟩
      · have te : ((fm : Int) == (fn : Int)) = false := beq_eq_false_iff_ne.2 (by omega)
        have t4 : (sm : Int) ≤ (sn : Int) := by have := hff (by omega); omega
        clear hfe hff
        go_wp2_with fail
        refine (HSM.out _).mono ?_; rintro e w7 ⟨rfl, hb7⟩
        have hbw7 := below_of' hbw6 hb7
        clear hb7 hbw6
        go_wp2_with fail
        refine (HSN.out _).mono ?_; rintro e w8 ⟨rfl, hb8⟩
        have HBW := Lib.hid (below_of' hbw7 hb8)
        clear hb8 hbw7
        go_wp2_with fail
        refine (HP.out _).mono ?_
        intro e w20 h
        obtain ⟨U, fu, rfl, hou, hbA⟩ := h.n HNM.out
        have hbw10 := below_of' HBW.out hbA
        clear h hou hbA
        go_wp2_with fail
        refine (HSN.out _).mono ?_; rintro e w21 ⟨rfl, hbB⟩
        have hbw11 := below_of' hbw10 hbB
        clear hbB hbw10
        go_wp2_with fail
        refine (HPU.out _).mono ?_
        intro e w22 h
        obtain ⟨U2, fu2, rfl, hou2, hbC⟩ := h.n HNB.out
        have hbw12 := below_of' hbw11 hbC
        clear h hou2 hbC hbw11
        go_wp2_with fail
        refine (HSB.out _).mono ?_; rintro e w23 ⟨rfl, hbD⟩
        have hbw13 := below_of' hbw12 hbD
        clear hbD hbw12
        go_wp2_with fail
        go_ret
        exact ⟨rfl, hbw13⟩
end Go.Proofs.Ytcdkibpfgnmmfaa
