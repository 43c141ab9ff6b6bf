/- Walk of the law GaugeRows. -/
import Derived.Test.YthkncbfaehgenaaGauQ
import Derived.Test.YthkncbfaehgenaaLawC
namespace Go.Proofs.Ythkncbfaehgenaa
open Go.RowKit NB
set_option linter.unusedVariables false
/-- the first place of a row from which on something does not hold -/
theorem first_bad (p : Nat → Prop) (n : Nat) : ∃ m, m ≤ n ∧ (∀ j, j < m → p j) ∧ (m < n → ¬ p m) := by
  induction n with
  | zero => exact ⟨0, Nat.le_refl _, fun j h => by omega, fun h => by omega⟩
  | succ n ih =>
    obtain ⟨m, h1, h2, h3⟩ := ih
    by_cases hm : m < n
    · exact ⟨m, by omega, h2, fun _ => h3 hm⟩
    · obtain rfl : m = n := by omega
      by_cases hp : p m
      · exact ⟨m + 1, Nat.le_refl _, fun j hj => by
          by_cases e : j = m
          · rw [e]; exact hp
          · exact h2 j (by omega), fun h => by omega⟩
      · exact ⟨m, by omega, h2, fun _ => hp⟩
/-- the readings' bits that came in -/
def bitsOf (zs : List Int) (n : Nat) : List Nat := (zs.take n).map Int.toNat
theorem bitsOf_len {zs : List Int} {n : Nat} (h : n ≤ zs.length) : (bitsOf zs n).length = n := by unfold bitsOf; rw [List.length_map, List.length_take]; omega
theorem bitsOf_at {w : World} {a : Option Addr} {len cap n : Nat} {zs : List Int} (h : RowIn .u64 w a len cap zs) (hn : n ≤ len) {k : Nat} (hk : k < n) : ∃ x, a = some x ∧ w.cell? (x.add k) = some (.int .u64 ((bitsOf zs n).getD k 0 : Nat)) := by
  obtain ⟨x, h1, h2⟩ := h.at_ (show k < len by omega)
  have hl := h.len
  have hw := u64_wf (h.wf (show k < len by omega))
  refine ⟨x, h1, h2.trans ?_⟩
  congr 2
  unfold bitsOf
  rw [List.getD_eq_getElem?_getD, List.getElem?_eq_getElem (by omega)] at hw ⊢
  rw [List.getD_eq_getElem?_getD, List.getElem?_map, List.getElem?_take, if_pos hk, List.getElem?_eq_getElem (by omega)]
  simp only [Option.map_some, Option.getD_some] at hw ⊢
  omega
theorem bitsOf_lt {w : World} {a : Option Addr} {len cap n : Nat} {zs : List Int} (h : RowIn .u64 w a len cap zs) (hn : n ≤ len) (j : Nat) : (bitsOf zs n).getD j 0 < 18446744073709551616 := by
  have hl := h.len
  unfold bitsOf
  rw [List.getD_eq_getElem?_getD, List.getElem?_map, List.getElem?_take]
  by_cases hj : j < n
  · rw [if_pos hj]
    have hw := u64_wf (h.wf (show j < len by omega))
    rw [List.getD_eq_getElem?_getD, List.getElem?_eq_getElem (by omega)] at hw
    rw [List.getElem?_eq_getElem (by omega)]
    simp only [Option.map_some, Option.getD_some] at hw ⊢
    omega
  · rw [if_neg hj]
    decide
theorem flts_succ (bs : List Nat) (k : Nat) (h : k < bs.length) : flts (bs.take (k + 1)) = flts (bs.take k) ++ [.float .f64 (bs.getD k 0)] := by
  unfold flts
  rw [List.take_succ_eq_append_getElem h, List.map_append, List.getD_eq_getElem?_getD, List.getElem?_eq_getElem h]
  rfl
theorem reads_all {w : World} {B : Nat} {e : TypeId} {A : Option Addr} {n f : Nat} {xs : List Value} (h : w.ownsRow B e 1 (.slice A n f) n xs) : Reads w e 1 A n xs := Reads.of_own h

set_option maxHeartbeats 2000000 in
theorem rows_out (a0 : Option Addr) (len cap n : Nat) (zs : List Int) (bs : List Nat) (z : Int) (w : World) (hc : len ≤ 9223372036854775807) (hn : n ≤ len) (hn20 : n ≤ 20) (hend : n < len → n = 20) (hl : bs.length = n)
    (hcell : ∀ k, k < n → ∃ x, a0 = some x ∧ w.cell? (x.add k) = some (.int .u64 (bs.getD k 0 : Nat))) (hany : n < len → ∃ x, a0 = some x ∧ w.cell? (x.add n) = some (.int .u64 (zs.getD n 0))) (hb : ∀ j, bs.getD j 0 < 18446744073709551616) (hz : ¬(-40 ≤ z ∧ z ≤ 40)) :
    Calls Try.prog 10 #[.slice a0 len cap, .int .i64 z] w fun e w' => e = .returned (.bool true) ∧ Below w.heap.size w w' := by
  have HC := Lib.hid hcell
  have HA := Lib.hid hany
  have HB := Lib.hid hb
  have HL := Lib.hid hl
  have WA := Lib.hid wakes_c
  clear hcell hany hb hl
  have SC := Lib.hid (scale_c z)
  rw [decide_eq_false hz] at SC
  have RO := Lib.hid (fun A n c w => row_out A n c z w hz)
  clear hz
  go_enter Try.func10, Try.ntmps10
  go_wp2_with fail
  refine (WA.out _).mono ?_; rintro e w1 ⟨rfl, hw1⟩
  go_wp2_with fail
  refine (SC.out _).mono ?_; rintro e w2 ⟨rfl, rfl⟩
  go_wp2
  go_loopw [5, 6, 7, 8, 25] (fun u5 u6 u7 u8 u25 wr => ∃ (k : Nat) (C : Option Addr) (f : Nat), k ≤ n ∧ u25 = .int .i64 k ∧ u6 = .slice none 0 0 ∧ u7 = .int .i64 0 ∧ u8 = .int .i64 2 ∧ u5 = .slice C k f ∧ wr.ownsRow w.heap.size 23 1 (.slice C k f) k (flts (bs.take k)) ∧ Below w.heap.size w wr)
    (fun _ _ _ _ u25 _ => n - (intOf u25).toNat)
  case atStart => exact ⟨0, _, _, Nat.zero_le _, rfl, rfl, rfl, rfl, rfl, by simpa [flts] using World.ownsRow_nil _ _ _ _, hw1⟩
  case round =>
    obtain ⟨k, C, f, hk, rfl, rfl, rfl, rfl, rfl, hown, hb⟩ := hrel
    by_cases hlt : k < n
    · have hlen : k < len := by omega
      have t20 : ((k : Int) == 20) = false := by rw [beq_eq_false_iff_ne]; omega
      obtain ⟨x, rfl, cx⟩ := HC.out k hlt
      have cx := (hb.cell (cell_lt cx)).trans cx
      have hs := flts_succ bs k (by rw [HL.out]; exact hlt)
      have fb := frombits (bs.getD k 0)
      have HS := Lib.hid hs
      clear hs
      generalize bs.getD k 0 = b at *
      go_wp2_with (at_builtin; refine wpList_pushG rfl (.tmp 32) (.tmp 35) 52 rfl w.heap.size 23 (.float .f64 0) 8 Try.underlying52 f64_info rfl C k f _ rfl hown rfl rfl ?_ ?_ hb.size ?_; omega; omega; intro C1 f1 w3 hown1 hgr1 hb3)
      exact ⟨⟨k + 1, C1, f1, by omega, by go_num, rfl, rfl, rfl, rfl, by rw [HS.out]; exact hown1, hb.trans hb3⟩, by simp [intOf]; omega⟩
    · obtain rfl : k = n := by omega
      by_cases he : k < len
      · have t20 : ((k : Int) == 20) = true := by rw [beq_iff_eq]; have := hend he; omega
        obtain ⟨x, rfl, cx⟩ := HA.out he
        have cx := (hb.cell (cell_lt cx)).trans cx
        generalize zs.getD k 0 = b at *
        clear hlt
        go_wp2_with fail
        refine (RO.out _ _ _ _).mono ?_; rintro e w2 ⟨rfl, rfl⟩
        go_wp2
        refine wp_loop_rounds 1 ?_
        rw [rounds_succ]
        go_wp2
        go_ret
        exact ⟨rfl, hb⟩
      · go_wp2_with fail
        refine (RO.out _ _ _ _).mono ?_; rintro e w2 ⟨rfl, rfl⟩
        go_wp2
        refine wp_loop_rounds 1 ?_
        rw [rounds_succ]
        go_wp2
        go_ret
        exact ⟨rfl, hb⟩
theorem fixs_at {w : World} {A : Option Addr} {bs : List Nat} {z : Int} (h : Reads w 2 1 A bs.length (fixs bs z)) {k : Nat} (hk : k < bs.length) : ∃ ad, A = some ad ∧ w.cell? (ad.add k) = some (.int .i64 (fixedI (bs.getD k 0) z)) := by
  obtain ⟨ad, u, e, h1, h2⟩ := h.at_ hk
  unfold fixs at h1
  rw [List.getElem?_map, List.getElem?_eq_getElem hk] at h1
  cases h1
  exact ⟨ad, e, by rw [h2, List.getD_eq_getElem?_getD, List.getElem?_eq_getElem hk]; rfl⟩
set_option maxHeartbeats 4000000 in
theorem rows_all (a0 : Option Addr) (len cap n : Nat) (zs : List Int) (bs : List Nat) (z : Int) (w : World) (hc : len ≤ 9223372036854775807) (hn : n ≤ len) (hn20 : n ≤ 20) (hend : n < len → n = 20) (hl : bs.length = n)
    (hcell : ∀ k, k < n → ∃ x, a0 = some x ∧ w.cell? (x.add k) = some (.int .u64 (bs.getD k 0 : Nat))) (hany : n < len → ∃ x, a0 = some x ∧ w.cell? (x.add n) = some (.int .u64 (zs.getD n 0))) (hb : ∀ j, bs.getD j 0 < 18446744073709551616) (hz : -40 ≤ z) (hz2 : z ≤ 40) (hg : ∀ j, j < n → fixedE (bs.getD j 0) z = 0) :
    Calls Try.prog 10 #[.slice a0 len cap, .int .i64 z] w fun e w' => e = .returned (.bool true) ∧ Below w.heap.size w w' := by
  have HC := Lib.hid hcell
  have HA := Lib.hid hany
  have HB := Lib.hid hb
  have HL := Lib.hid hl
  have WA := Lib.hid wakes_c
  clear hcell hany hb hl
  have SC := Lib.hid (scale_c z)
  rw [decide_eq_true ⟨hz, hz2⟩] at SC
  have HZ := Lib.hid hg
  clear hg
  go_enter Try.func10, Try.ntmps10
  go_wp2_with fail
  refine (WA.out _).mono ?_; rintro e w1 ⟨rfl, hw1⟩
  go_wp2_with fail
  refine (SC.out _).mono ?_; rintro e w2 ⟨rfl, rfl⟩
  go_wp2
  go_loopw [5, 6, 7, 8, 25] (fun u5 u6 u7 u8 u25 wr => ∃ (k : Nat) (C : Option Addr) (f : Nat) (D : Option Addr) (g : Nat), k ≤ n ∧ u25 = .int .i64 k ∧ u6 = .slice D k g ∧ u7 = .int .i64 0 ∧ u8 = .int .i64 0 ∧ u5 = .slice C k f ∧ wr.ownsRow w.heap.size 23 1 (.slice C k f) k (flts (bs.take k)) ∧
      wr.ownsRow w.heap.size 2 1 (.slice D k g) k (fixs (bs.take k) z) ∧ Below w.heap.size w wr)
    (fun _ _ _ _ u25 _ => n - (intOf u25).toNat)
  case atStart => exact ⟨0, _, _, _, _, Nat.zero_le _, rfl, rfl, rfl, rfl, rfl, by simpa [flts] using World.ownsRow_nil _ _ _ _, by simpa [fixs] using World.ownsRow_nil _ _ _ _, hw1⟩
  case round =>
    obtain ⟨k, C, f, D, g, hk, rfl, rfl, rfl, rfl, rfl, hown, hwant, hb⟩ := hrel
    by_cases hlt : k < n
    · have hlen : k < len := by omega
      have t20 : ((k : Int) == 20) = false := by rw [beq_eq_false_iff_ne]; omega
      obtain ⟨x, rfl, cx⟩ := HC.out k hlt
      have cx := (hb.cell (cell_lt cx)).trans cx
      have hs := flts_succ bs k (by rw [HL.out]; exact hlt)
      have hs2 := fixs_succ bs z k (by rw [HL.out]; exact hlt)
      have fb := frombits (bs.getD k 0)
      have hf := fun w => refFixed_c (bs.getD k 0) z w (HB.out k)
      rw [HZ.out k hlt] at hf
      have FX := Lib.hid hf
      have HS := Lib.hid hs
      have HS2 := Lib.hid hs2
      clear hs hs2 hf
      generalize bs.getD k 0 = b at *
      generalize fixedI b z = v at *
      go_wp2_with (at_builtin; refine wpList_pushG rfl (.tmp 32) (.tmp 35) 52 rfl w.heap.size 23 (.float .f64 0) 8 Try.underlying52 f64_info rfl C k f _ rfl hown rfl rfl ?_ ?_ hb.size ?_; omega; omega; intro C1 f1 w3 hown1 hgr1 hb3)
      have hwant1 := own_beside hwant hown (by decide) hgr1
      refine (FX.out _).mono ?_; rintro e w4 ⟨rfl, hb4'⟩
      have hown2 := own_below hown1 hb4'
      have hwant2 := own_below hwant1 hb4'
      have hb4 := below_two (hb.trans hb3) hb4'
      clear cx
      go_wp2_with (at_builtin; refine wpList_pushG rfl (.tmp 49) (.tmp 51) 53 rfl w.heap.size 2 (.int .i64 0) 8 Try.underlying53 i64_info rfl D k g _ rfl hwant2 rfl rfl ?_ ?_ hb4.size ?_; omega; omega; intro D1 g1 w5 hwant3 hgr5 hb5)
      have hown3 := own_beside hown2 hwant2 (by decide) hgr5
      exact ⟨⟨k + 1, C1, f1, D1, g1, by omega, by go_num, rfl, rfl, rfl, rfl, by rw [HS.out]; exact hown3, by rw [HS2.out]; exact hwant3, hb4.trans hb5⟩, by simp [intOf]; omega⟩
    · obtain rfl : k = n := by omega
      have e1 : bs.take k = bs := List.take_of_length_le (by rw [HL.out]; exact Nat.le_refl _)
      rw [e1] at hown hwant
      have hrc := row_all C f z bs wr (by rw [HL.out]; omega) HB.out (by rw [HL.out]; exact Reads.of_own hown) hz hz2 (by rw [HL.out]; exact HZ.out)
      rw [HL.out] at hrc
      have RC := Lib.hid hrc
      clear hrc e1 hlt hown
      by_cases he : k < len
      · have t20 : ((k : Int) == 20) = true := by rw [beq_iff_eq]; have := hend he; omega
        obtain ⟨x, rfl, cx⟩ := HA.out he
        have cx := (hb.cell (cell_lt cx)).trans cx
        generalize zs.getD k 0 = b at *
        go_wp2_with fail
        refine RC.out.mono ?_; rintro e w6 ⟨C6, f6, rfl, hrd, hb6⟩
        rw [HL.out] at hrd
        clear cx
        rw [HL.out]
        go_wp2
        have hwant := own_below hwant hb6
        have hrd := hrd
        have HW := Lib.hid (Reads.of_own hwant)
        have HG := Lib.hid hrd
        clear hwant hrd
        go_loop [80] (fun u80 => ∃ j : Nat, j ≤ k ∧ u80 = .int .i64 j) (fun u80 => k - (intOf u80).toNat)
        case atStart => exact ⟨0, Nat.zero_le _, rfl⟩
        case round =>
          obtain ⟨j, hj, rfl⟩ := hrel
          by_cases hlt : j < k
          · obtain ⟨ad, rfl, c1⟩ := fixs_at (by rw [HL.out]; exact HW.out) (show j < bs.length by rw [HL.out]; exact hlt)
            obtain ⟨bd, rfl, c2⟩ := fixs_at (by rw [HL.out]; exact HG.out) (show j < bs.length by rw [HL.out]; exact hlt)
            generalize fixedI (bs.getD j 0) z = v at *
            go_wp2
            exact ⟨⟨j + 1, by omega, by go_num⟩, by simp [intOf]; omega⟩
          · obtain rfl : j = k := by omega
            clear hlt
            go_wp2
            go_ret
            exact ⟨rfl, below_two hb hb6⟩
      · go_wp2_with fail
        refine RC.out.mono ?_; rintro e w6 ⟨C6, f6, rfl, hrd, hb6⟩
        rw [HL.out] at hrd
        rw [HL.out]
        go_wp2
        have hwant := own_below hwant hb6
        have hrd := hrd
        have HW := Lib.hid (Reads.of_own hwant)
        have HG := Lib.hid hrd
        clear hwant hrd
        go_loop [80] (fun u80 => ∃ j : Nat, j ≤ k ∧ u80 = .int .i64 j) (fun u80 => k - (intOf u80).toNat)
        case atStart => exact ⟨0, Nat.zero_le _, rfl⟩
        case round =>
          obtain ⟨j, hj, rfl⟩ := hrel
          by_cases hlt : j < k
          · obtain ⟨ad, rfl, c1⟩ := fixs_at (by rw [HL.out]; exact HW.out) (show j < bs.length by rw [HL.out]; exact hlt)
            obtain ⟨bd, rfl, c2⟩ := fixs_at (by rw [HL.out]; exact HG.out) (show j < bs.length by rw [HL.out]; exact hlt)
            generalize fixedI (bs.getD j 0) z = v at *
            go_wp2
            exact ⟨⟨j + 1, by omega, by go_num⟩, by simp [intOf]; omega⟩
          · obtain rfl : j = k := by omega
            clear hlt
            go_wp2
            go_ret
            exact ⟨rfl, below_two hb hb6⟩


set_option maxHeartbeats 4000000 in
theorem rows_bad (a0 : Option Addr) (len cap n : Nat) (zs : List Int) (bs : List Nat) (z : Int) (w : World) (hc : len ≤ 9223372036854775807) (hn : n ≤ len) (hn20 : n ≤ 20) (hend : n < len → n = 20) (hl : bs.length = n)
    (hcell : ∀ k, k < n → ∃ x, a0 = some x ∧ w.cell? (x.add k) = some (.int .u64 (bs.getD k 0 : Nat))) (hany : n < len → ∃ x, a0 = some x ∧ w.cell? (x.add n) = some (.int .u64 (zs.getD n 0))) (hb : ∀ j, bs.getD j 0 < 18446744073709551616) (hz : -40 ≤ z) (hz2 : z ≤ 40) (m : Nat) (hm : m < n) (hg : ∀ j, j < m → fixedE (bs.getD j 0) z = 0) (E : Int) (hE : fixedE (bs.getD m 0) z = E) (hE0 : E ≠ 0) :
    Calls Try.prog 10 #[.slice a0 len cap, .int .i64 z] w fun e w' => e = .returned (.bool true) ∧ Below w.heap.size w w' := by
  have HC := Lib.hid hcell
  have HA := Lib.hid hany
  have HB := Lib.hid hb
  have HL := Lib.hid hl
  have WA := Lib.hid wakes_c
  clear hcell hany hb hl
  have SC := Lib.hid (scale_c z)
  rw [decide_eq_true ⟨hz, hz2⟩] at SC
  have HZ := Lib.hid hg
  have HE := Lib.hid hE
  clear hg hE
  go_enter Try.func10, Try.ntmps10
  go_wp2_with fail
  refine (WA.out _).mono ?_; rintro e w1 ⟨rfl, hw1⟩
  go_wp2_with fail
  refine (SC.out _).mono ?_; rintro e w2 ⟨rfl, rfl⟩
  go_wp2
  go_loopw [5, 6, 7, 8, 25] (fun u5 u6 u7 u8 u25 wr => ∃ (k : Nat) (C : Option Addr) (f : Nat), k ≤ n ∧ u25 = .int .i64 k ∧ u5 = .slice C k f ∧ wr.ownsRow w.heap.size 23 1 (.slice C k f) k (flts (bs.take k)) ∧ Below w.heap.size w wr ∧
      ((k ≤ m ∧ u7 = .int .i64 0 ∧ u8 = .int .i64 0 ∧ ∃ D g, u6 = .slice D k g ∧ wr.ownsRow w.heap.size 2 1 (.slice D k g) k (fixs (bs.take k) z)) ∨ (m < k ∧ u7 = .int .i64 m ∧ u8 = .int .i64 E)))
    (fun _ _ _ _ u25 _ => n - (intOf u25).toNat)
  case atStart => exact ⟨0, _, _, Nat.zero_le _, rfl, rfl, by simpa [flts] using World.ownsRow_nil _ _ _ _, hw1, .inl ⟨Nat.zero_le _, rfl, rfl, _, _, rfl, by simpa [fixs] using World.ownsRow_nil _ _ _ _⟩⟩
  case round =>
    obtain ⟨k, C, f, hk, rfl, rfl, hown, hb, hmode⟩ := hrel
    by_cases hlt : k < n
    · have hlen : k < len := by omega
      have t20 : ((k : Int) == 20) = false := by rw [beq_eq_false_iff_ne]; omega
      obtain ⟨x, rfl, cx⟩ := HC.out k hlt
      have cx := (hb.cell (cell_lt cx)).trans cx
      have hs := flts_succ bs k (by rw [HL.out]; exact hlt)
      have fb := frombits (bs.getD k 0)
      have HS := Lib.hid hs
      clear hs
      rcases hmode with ⟨hkm, rfl, rfl, D, g, rfl, hwant⟩ | ⟨hkm, rfl, rfl⟩
      · by_cases hq : k < m
        · have hs2 := fixs_succ bs z k (by rw [HL.out]; exact hlt)
          have hf := fun w => refFixed_c (bs.getD k 0) z w (HB.out k)
          rw [HZ.out k hq] at hf
          have FX := Lib.hid hf
          have HS2 := Lib.hid hs2
          clear hs2 hf hE0
          generalize bs.getD k 0 = b at *
          generalize fixedI b z = v at *
          go_wp2_with (at_builtin; refine wpList_pushG rfl (.tmp 32) (.tmp 35) 52 rfl w.heap.size 23 (.float .f64 0) 8 Try.underlying52 f64_info rfl C k f _ rfl hown rfl rfl ?_ ?_ hb.size ?_; omega; omega; intro C1 f1 w3 hown1 hgr1 hb3)
          have hwant1 := own_beside hwant hown (by decide) hgr1
          refine (FX.out _).mono ?_; rintro e w4 ⟨rfl, hb4'⟩
          have hown2 := own_below hown1 hb4'
          have hwant2 := own_below hwant1 hb4'
          have hb4 := below_two (hb.trans hb3) hb4'
          clear cx
          go_wp2_with (at_builtin; refine wpList_pushG rfl (.tmp 49) (.tmp 51) 53 rfl w.heap.size 2 (.int .i64 0) 8 Try.underlying53 i64_info rfl D k g _ rfl hwant2 rfl rfl ?_ ?_ hb4.size ?_; omega; omega; intro D1 g1 w5 hwant3 hgr5 hb5)
          have hown3 := own_beside hown2 hwant2 (by decide) hgr5
          exact ⟨⟨k + 1, C1, f1, by omega, by go_num, rfl, by rw [HS.out]; exact hown3, hb4.trans hb5, .inl ⟨by omega, rfl, rfl, D1, g1, rfl, by rw [HS2.out]; exact hwant3⟩⟩, by simp [intOf]; omega⟩
        · obtain rfl : k = m := by omega
          have hf := fun w => refFixed_c (bs.getD k 0) z w (HB.out k)
          rw [HE.out] at hf
          have FX := Lib.hid hf
          have tE := bne_iff_ne.2 hE0
          clear hf hE0 hq hkm
          generalize bs.getD k 0 = b at *
          generalize fixedI b z = v at *
          go_wp2_with (at_builtin; refine wpList_pushG rfl (.tmp 32) (.tmp 35) 52 rfl w.heap.size 23 (.float .f64 0) 8 Try.underlying52 f64_info rfl C k f _ rfl hown rfl rfl ?_ ?_ hb.size ?_; omega; omega; intro C1 f1 w3 hown1 hgr1 hb3)
          refine (FX.out _).mono ?_; rintro e w4 ⟨rfl, hb4'⟩
          have hown2 := own_below hown1 hb4'
          have hb4 := below_two (hb.trans hb3) hb4'
          clear cx
          go_wp2
          exact ⟨⟨k + 1, C1, f1, by omega, by go_num, rfl, by rw [HS.out]; exact hown2, hb4, .inr ⟨by omega, rfl, rfl⟩⟩, by simp [intOf]; omega⟩
      · have tE := bne_iff_ne.2 hE0
        clear hE0
        generalize bs.getD k 0 = b at *
        go_wp2_with (at_builtin; refine wpList_pushG rfl (.tmp 32) (.tmp 35) 52 rfl w.heap.size 23 (.float .f64 0) 8 Try.underlying52 f64_info rfl C k f _ rfl hown rfl rfl ?_ ?_ hb.size ?_; omega; omega; intro C1 f1 w3 hown1 hgr1 hb3)
        exact ⟨⟨k + 1, C1, f1, by omega, by go_num, rfl, by rw [HS.out]; exact hown1, hb.trans hb3, .inr ⟨by omega, rfl, rfl⟩⟩, by simp [intOf]; omega⟩
    · obtain rfl : k = n := by omega
      have e1 : bs.take k = bs := List.take_of_length_le (by rw [HL.out]; exact Nat.le_refl _)
      rw [e1] at hown
      clear e1
      rcases hmode with ⟨hkm, rfl, rfl, D, g, rfl, hwant⟩ | ⟨hkm, rfl, rfl⟩
      · omega
      · skip
        have hrc := row_bad C f z bs wr (by rw [HL.out]; omega) HB.out (by rw [HL.out]; exact Reads.of_own hown) hz hz2 m (by rw [HL.out]; omega) HZ.out E HE.out hE0
        rw [HL.out] at hrc
        have RC := Lib.hid hrc
        have tE := bne_iff_ne.2 hE0
        clear hrc hlt hown
        by_cases he : k < len
        · have t20 : ((k : Int) == 20) = true := by rw [beq_iff_eq]; have := hend he; omega
          obtain ⟨x, rfl, cx⟩ := HA.out he
          have cx := (hb.cell (cell_lt cx)).trans cx
          generalize zs.getD k 0 = b at *
          clear hE0
          go_wp2_with fail
          refine RC.out.mono ?_; rintro e w6 ⟨rfl, hb6⟩
          go_wp2
          refine wp_loop_rounds 1 ?_
          rw [rounds_succ]
          go_wp2
          go_ret
          exact ⟨rfl, below_two hb hb6⟩
        · clear hE0
          go_wp2_with fail
          refine RC.out.mono ?_; rintro e w6 ⟨rfl, hb6⟩
          go_wp2
          refine wp_loop_rounds 1 ?_
          rw [rounds_succ]
          go_wp2
          go_ret
          exact ⟨rfl, below_two hb hb6⟩
theorem rows_walk (a0 : Option Addr) (len cap : Nat) (zs : List Int) (z : Int) (w : World) (w0 : RowIn .u64 w a0 len cap zs) (w1 : (Lit.int .i64 z).wf = true) :
    Calls Try.prog 10 #[.slice a0 len cap, .int .i64 z] w fun e w' => e = .returned (.bool true) ∧ Below w.heap.size w w' := by
  have hl := w0.len
  have hmx : cap ≤ 9223372036854775807 := hl.2.2
  obtain ⟨n, hn, hn20, hend⟩ : ∃ n, n ≤ len ∧ n ≤ 20 ∧ (n < len → n = 20) := by
    by_cases h : len ≤ 20
    · exact ⟨len, Nat.le_refl _, h, fun h => by omega⟩
    · exact ⟨20, by omega, Nat.le_refl _, fun _ => rfl⟩
  have h1 := bitsOf_len (zs := zs) (n := n) (by omega)
  have h2 := fun k hk => bitsOf_at w0 hn (k := k) hk
  have h3 := bitsOf_lt w0 hn
  have h4 : n < len → ∃ x, a0 = some x ∧ w.cell? (x.add n) = some (.int .u64 (zs.getD n 0)) := fun h => w0.at_ h
  by_cases hz : -40 ≤ z ∧ z ≤ 40
  · obtain ⟨m, m1, m2, m3⟩ := first_bad (fun j => fixedE ((bitsOf zs n).getD j 0) z = 0) n
    by_cases hm : m < n
    · exact rows_bad a0 len cap n zs (bitsOf zs n) z w (by omega) hn hn20 hend h1 h2 h4 h3 hz.1 hz.2 m hm m2 _ rfl (m3 hm)
    · obtain rfl : m = n := by omega
      exact rows_all a0 len cap m zs (bitsOf zs m) z w (by omega) hn hn20 hend h1 h2 h4 h3 hz.1 hz.2 m2
  · exact rows_out a0 len cap n zs (bitsOf zs n) z w (by omega) hn hn20 hend h1 h2 h4 h3 hz
end Go.Proofs.Ythkncbfaehgenaa
