/- Contracts of the reference's rows of binary digits: Size, power, minus, times. -/
import Derived.Test.YtpomhcclnhddmaaDoorRefA
namespace Go.Proofs.YtpomhcclnhddmaaDoor
open Go.RowKit NB

theorem retD_own {w w' : World} {v : Nat} {C : Option Addr} {f : Nat} (hown : OwnD w' w.heap.size C f v (nb v)) (hb : Below w.heap.size w w') : RetD v w (.returned (.slice C (nb v) f)) w' :=
  ⟨C, f, rfl, own_cap hown, Reads.of_own hown, hb⟩

theorem bl_take (v : Nat) {n k : Nat} (h : k ≤ n) : (bl v n).take k = bl v k := by
  unfold bl
  rw [← List.map_take, List.take_range, Nat.min_eq_left h]
theorem bl_cons (v n : Nat) {d : Nat} (hd : d < 2) : bl (2 * v + d) (n + 1) = .int .i64 (d : Nat) :: bl v n := by
  unfold bl
  rw [List.range_succ_eq_map, List.map_cons, List.map_map, bitf_cons_zero v d hd]
  congr 1
  refine List.map_congr_left fun i _ => ?_
  show Value.int .i64 (bitf (2 * v + d) (i + 1) : Nat) = _
  rw [bitf_cons_succ v d i hd]
theorem below_drewN {B : Nat} {a w : World} (h : Below B a w) (n : Nat) : Below B a (w.drewN n) := ⟨h.os, h.tape, h.output, h.size, h.block⟩

theorem size_facts (m k : Nat) : m / 2 ^ k % 2 = bitf m k ∧ m / 2 ^ k / 2 = m / 2 ^ (k + 1) ∧ (m / 2 ^ k = 0 ↔ nb m ≤ k) := by
  refine ⟨rfl, by rw [Nat.pow_succ, Nat.div_div_eq_div_mul], ?_⟩
  rw [nb_le_iff, Nat.div_eq_zero_iff]
  have := Nat.two_pow_pos k
  omega

set_option maxHeartbeats 1000000 in
theorem size_core (m : Nat) (w : World) (hm : m < 18446744073709551616) :
    Calls Tryd.prog 39 #[.int .u64 (m : Nat)] w (RetD m w) := by
  have hz : nb m ≤ 64 := (nb_le_iff m 64).2 hm
  have HM := Lib.hid hm
  clear hm
  go_enter Tryd.func39, Tryd.ntmps39
  go_wp2
  go_loopw [0, 3] (fun u0 u3 wr => ∃ (k : Nat) (C : Option Addr) (f : Nat), k ≤ nb m ∧ u0 = .int .u64 (m / 2 ^ k : Nat) ∧ u3 = .slice C k f ∧ OwnD wr w.heap.size C f m k ∧ Below w.heap.size w wr)
    (fun u0 _ _ => (intOf u0).toNat)
  case atStart => exact ⟨0, none, 0, Nat.zero_le _, by simp, rfl, World.ownsRow_nil _ _ _ _, Below.refl _ _⟩
  case round =>
    obtain ⟨k, C, f, hk, rfl, rfl, hown, hb⟩ := hrel
    obtain ⟨f1, f2, f3⟩ := size_facts m k
    have f4 : m / 2 ^ k ≤ m := Nat.div_le_self _ _
    have f5 : m / 2 ^ k < 18446744073709551616 := Nat.lt_of_le_of_lt f4 HM.out
    have F1 := Lib.hid f1
    have F2 := Lib.hid f2
    clear f1 f2 f4
    generalize m / 2 ^ k = z at *
    by_cases h0 : z = 0
    · obtain rfl := h0
      have e0 : k = nb m := by omega
      have E0 := Lib.hid e0
      clear e0 f3 hk
      go_wp2
      go_ret
      have h1 := retD_own (v := m) (by rw [← E0.out]; exact hown) hb
      rw [← E0.out] at h1
      exact h1
    · have h1 : k < nb m := by omega
      clear f3
      go_wp2_with (at_builtin; refine wpList_push rfl (.tmp 6) (.tmp 10) 26 rfl w.heap.size 3 (.int .i64 0) 8 Tryd.underlying26 int_info rfl C k f _ rfl hown rfl rfl ?_ ?_ hb.size ?_; omega; omega; intro C' f' w' hown' hb')
      exact ⟨⟨k + 1, C', f', by omega, val_int (by rw [← F2.out]; omega), rfl, OwnD.push hown' (by rw [← F1.out]; omega), hb.trans hb'⟩, by simp [intOf]; omega⟩

set_option maxHeartbeats 1000000 in
theorem power_any (z : Int) (w : World) (h0 : 0 ≤ z) (h1 : z ≤ 100000) :
    Calls Tryd.prog 40 #[.int .i64 z] w (RetD (2 ^ z.toNat) w) := by
  obtain ⟨p, rfl⟩ := Int.eq_ofNat_of_zero_le h0
  rw [Int.toNat_natCast]
  have hz : ∀ k, k < p → bitf (2 ^ p) k = 0 := fun k hk => by
    unfold bitf
    obtain ⟨j, rfl⟩ : ∃ j, p = k + (j + 1) := ⟨p - k - 1, by omega⟩
    rw [Nat.pow_add, Nat.mul_div_cancel_left _ (Nat.two_pow_pos k), Nat.pow_succ]; omega
  have ho : bitf (2 ^ p) p = 1 := by
    unfold bitf
    rw [Nat.div_self (Nat.two_pow_pos p)]
  have hn := nb_pow p
  generalize 2 ^ p = v at *
  have HZ := Lib.hid hz
  have HO := Lib.hid ho
  have HN := Lib.hid hn
  clear hz ho hn
  go_enter Tryd.func40, Tryd.ntmps40
  go_wp2
  go_loopw [3, 4] (fun u3 u4 wr => ∃ (k : Nat) (C : Option Addr) (f : Nat), k ≤ p ∧ u4 = .int .i64 k ∧ u3 = .slice C k f ∧ OwnD wr w.heap.size C f v k ∧ Below w.heap.size w wr)
    (fun _ u4 _ => p - (intOf u4).toNat)
  case atStart => exact ⟨0, none, 0, Nat.zero_le _, rfl, rfl, World.ownsRow_nil _ _ _ _, Below.refl _ _⟩
  case round =>
    obtain ⟨k, C, f, hk, rfl, rfl, hown, hb⟩ := hrel
    by_cases hlt : k < p
    · go_wp2_with (at_builtin; refine wpList_push rfl (.tmp 10) (.tmp 11) 26 rfl w.heap.size 3 (.int .i64 0) 8 Tryd.underlying26 int_info rfl C k f _ rfl hown rfl rfl ?_ ?_ hb.size ?_; omega; omega; intro C' f' w' hown' hb')
      exact ⟨⟨k + 1, C', f', by omega, by go_num, rfl, OwnD.push hown' (by rw [HZ.out k hlt]; rfl), hb.trans hb'⟩, by simp [intOf]; omega⟩
    · obtain rfl : k = p := by omega
      clear hlt hk
      go_wp2_with (at_builtin; refine wpList_push rfl (.tmp 13) (.tmp 14) 26 rfl w.heap.size 3 (.int .i64 0) 8 Tryd.underlying26 int_info rfl C k f _ rfl hown rfl rfl ?_ ?_ hb.size ?_; omega; omega; intro C' f' w' hown' hb')
      go_ret
      have h1 := retD_own (v := v) (by rw [HN.out]; exact OwnD.push hown' (by rw [HO.out]; rfl)) (hb.trans hb')
      rw [HN.out] at h1
      exact h1

set_option maxHeartbeats 1000000 in
theorem minus_any (A B : Option Addr) (m n p r c d : Nat) (w : World) (ep : p = nb m) (er : r = nb n) (hle : n ≤ m) (hp : p ≤ 1000000) (hx : Dig w A m p) (hy : Dig w B n r) :
    Calls Tryd.prog 42 #[.slice A p c, .slice B r d] w (RetD (m - n) w) := by
  have HX := Lib.hid hx
  have HY := Lib.hid hy
  have EP := Lib.hid ep
  have ER := Lib.hid er
  clear hx hy ep er
  go_enter Tryd.func42, Tryd.ntmps42
  go_wp2
  go_loopw [5, 6, 7, 8] (fun u5 u6 u7 u8 wr => ∃ (k : Nat) (C : Option Addr) (f : Nat), k ≤ p ∧ u7 = .int .i64 k ∧ u6 = .int .i64 (borrow m n k : Nat) ∧ u5 = .slice C k f ∧ OwnD wr w.heap.size C f (m - n) k ∧ Below w.heap.size w wr)
    (fun _ _ u7 _ _ => p - (intOf u7).toNat)
  case atStart => exact ⟨0, none, 0, Nat.zero_le _, rfl, by rw [borrow_zero]; rfl, rfl, World.ownsRow_nil _ _ _ _, Below.refl _ _⟩
  case round =>
    obtain ⟨k, C, f, hk, rfl, rfl, rfl, hown, hb⟩ := hrel
    by_cases ha : k < p
    · have BL := borrow_lt m n k
      have BS := borrow_step m n k
      have DD := diff_digit k hle
      have XL := bitf_lt m k
      have YL := bitf_lt n k
      have YZ : ¬ k < r → bitf n k = 0 := fun h => bitf_ge (by have := ER.out; omega)
      have Y1 : k < r → ∃ ad, B = some ad ∧ wr.cell? (ad.add k) = some (.int .i64 (bitf n k : Nat)) := fun h => Dig.cell (HY.out.below hb) h
      obtain ⟨ad, rfl, cx⟩ := Dig.cell (HX.out.below hb) ha
      have HS := Lib.hid BS
      have HD := Lib.hid DD
      clear BS DD
      generalize borrow m n k = y0 at *
      generalize bitf m k = x at *
      generalize bitf n k = y at *
      by_cases hb2 : k < r
      · obtain ⟨bd, rfl, cy⟩ := Y1 hb2
        clear Y1 YZ
        by_cases hn : (x : Int) - y0 - y < 0
        · go_wp2_with (at_builtin; refine wpList_push rfl (.tmp 35) (.tmp 37) 26 rfl w.heap.size 3 (.int .i64 0) 8 Tryd.underlying26 int_info rfl C k f _ rfl hown rfl rfl ?_ ?_ hb.size ?_; omega; omega; intro C' f' w' hown' hb')
          exact ⟨⟨k + 1, C', f', by omega, by go_num, val_int (by have := HS.out; split at this <;> omega), rfl, OwnD.push hown' (by have := HD.out; split at this <;> omega), hb.trans hb'⟩, by simp [intOf]; omega⟩
        · go_wp2_with (at_builtin; refine wpList_push rfl (.tmp 35) (.tmp 37) 26 rfl w.heap.size 3 (.int .i64 0) 8 Tryd.underlying26 int_info rfl C k f _ rfl hown rfl rfl ?_ ?_ hb.size ?_; omega; omega; intro C' f' w' hown' hb')
          exact ⟨⟨k + 1, C', f', by omega, by go_num, val_int (by have := HS.out; split at this <;> omega), rfl, OwnD.push hown' (by have := HD.out; split at this <;> omega), hb.trans hb'⟩, by simp [intOf]; omega⟩
      · obtain rfl : y = 0 := YZ hb2
        clear Y1 YZ
        by_cases hn : (x : Int) - y0 < 0
        · go_wp2_with (at_builtin; refine wpList_push rfl (.tmp 35) (.tmp 37) 26 rfl w.heap.size 3 (.int .i64 0) 8 Tryd.underlying26 int_info rfl C k f _ rfl hown rfl rfl ?_ ?_ hb.size ?_; omega; omega; intro C' f' w' hown' hb')
          exact ⟨⟨k + 1, C', f', by omega, by go_num, val_int (by have := HS.out; split at this <;> omega), rfl, OwnD.push hown' (by have := HD.out; split at this <;> omega), hb.trans hb'⟩, by simp [intOf]; omega⟩
        · go_wp2_with (at_builtin; refine wpList_push rfl (.tmp 35) (.tmp 37) 26 rfl w.heap.size 3 (.int .i64 0) 8 Tryd.underlying26 int_info rfl C k f _ rfl hown rfl rfl ?_ ?_ hb.size ?_; omega; omega; intro C' f' w' hown' hb')
          exact ⟨⟨k + 1, C', f', by omega, by go_num, val_int (by have := HS.out; split at this <;> omega), rfl, OwnD.push hown' (by have := HD.out; split at this <;> omega), hb.trans hb'⟩, by simp [intOf]; omega⟩
    · obtain rfl : k = p := by omega
      have hv : m - n < 2 ^ k := Nat.lt_of_le_of_lt (Nat.sub_le _ _) (by rw [EP.out]; exact lt_pow_nb m)
      have hf := own_cap hown
      have hread : Dig wr C (m - n) k := Reads.of_own hown
      have HT := Lib.hid (trim_any C (m - n) k f wr hp hf hread hv)
      have HR := Lib.hid hread
      have HV := Lib.hid hv
      clear ha hread hv
      go_wp2_with (go_at_call 59; refine HT.out.mono ?_; rintro e w' ⟨rfl, q, rfl⟩)
      go_ret
      have hs : nb (m - n) ≤ k := (nb_le_iff _ _).2 HV.out
      refine ⟨C, f, rfl, by omega, ?_, below_drewN hb q⟩
      have h2 := (Reads.take HR.out hs).drewN q
      rw [Nat.mul_one, bl_take _ hs] at h2
      exact h2

end Go.Proofs.YtpomhcclnhddmaaDoor
