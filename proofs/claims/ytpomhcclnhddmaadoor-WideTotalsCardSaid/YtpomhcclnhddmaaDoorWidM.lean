/- Plain facts: numbers of 128 bits, by their words. No program. -/
import Derived.WalkKit
namespace Go.Proofs.YtpomhcclnhddmaaDoor
open Go Go.RowKit
/-- a number that has room in 128 bits -/
abbrev inW (x : Int) : Prop := -170141183460469231731687303715884105728 ≤ x ∧ x < 170141183460469231731687303715884105728
/-- what is left of a number in 128 bits -/
def wr (x : Int) : Int := (x + 170141183460469231731687303715884105728) % 340282366920938463463374607431768211456 - 170141183460469231731687303715884105728
theorem wr_in (x : Int) : inW (wr x) := by unfold wr; omega
theorem wr_id {x : Int} (h : inW x) : wr x = x := by unfold wr; omega
theorem split_w {h l : Int} (hl : 0 ≤ l) (hl' : l < 18446744073709551616) : h = (h * 18446744073709551616 + l) / 18446744073709551616 ∧ l = (h * 18446744073709551616 + l) % 18446744073709551616 := by omega
theorem in_w {h l : Int} (hl : 0 ≤ l) (hl' : l < 18446744073709551616) (h0 : -9223372036854775808 ≤ h) (h1 : h ≤ 9223372036854775807) : inW (h * 18446744073709551616 + l) := by omega
theorem hi_in {x : Int} (h : inW x) : -9223372036854775808 ≤ x / 18446744073709551616 ∧ x / 18446744073709551616 ≤ 9223372036854775807 := by omega
theorem lo_in (x : Int) : 0 ≤ x % 18446744073709551616 ∧ x % 18446744073709551616 < 18446744073709551616 := by omega
theorem hi_neg (x : Int) : x / 18446744073709551616 < 0 ↔ x < 0 := by omega
theorem wr_hi (z q r : Int) (h : z = q * 18446744073709551616 + r) (hr : 0 ≤ r) (hr' : r < 18446744073709551616) : wr z / 18446744073709551616 = (q + 9223372036854775808) % 18446744073709551616 - 9223372036854775808 ∧ wr z % 18446744073709551616 = r := by
  unfold wr; omega
theorem sum_words {a b c d : Int} : wrap64 ((a % 18446744073709551616 + c % 18446744073709551616 + (b + d) / 18446744073709551616) % 18446744073709551616) = wr (a * 18446744073709551616 + b + (c * 18446744073709551616 + d)) / 18446744073709551616 ∧
    (b + d) % 18446744073709551616 = wr (a * 18446744073709551616 + b + (c * 18446744073709551616 + d)) % 18446744073709551616 := by
  have h := wr_hi (a * 18446744073709551616 + b + (c * 18446744073709551616 + d)) (a + c + (b + d) / 18446744073709551616) ((b + d) % 18446744073709551616) (by omega) (by omega) (by omega)
  rw [h.1, h.2]
  unfold wrap64
  omega
/-- the borrow -/
def bor (x y : Int) : Int := if x < y then 1 else 0
theorem bor_01 (x y : Int) : 0 ≤ bor x y ∧ bor x y ≤ 1 := by unfold bor; split <;> omega
theorem bor_div {b d : Int} (hb : 0 ≤ b) (hb' : b < 18446744073709551616) (hd : 0 ≤ d) (hd' : d < 18446744073709551616) : (b - d) / 18446744073709551616 = -bor b d := by unfold bor; split <;> omega
theorem dif_words {a b c d : Int} (hb : 0 ≤ b) (hb' : b < 18446744073709551616) (hd : 0 ≤ d) (hd' : d < 18446744073709551616) : wrap64 ((a % 18446744073709551616 - c % 18446744073709551616 - bor b d) % 18446744073709551616) = wr (a * 18446744073709551616 + b - (c * 18446744073709551616 + d)) / 18446744073709551616 ∧
    (b - d) % 18446744073709551616 = wr (a * 18446744073709551616 + b - (c * 18446744073709551616 + d)) % 18446744073709551616 := by
  have h := wr_hi (a * 18446744073709551616 + b - (c * 18446744073709551616 + d)) (a - c + (b - d) / 18446744073709551616) ((b - d) % 18446744073709551616) (by omega) (by omega) (by omega)
  have e := bor_div hb hb' hd hd'
  rw [h.1, h.2]
  unfold wrap64
  generalize bor b d = t at *
  omega
/-- whether a sum fits, by the signs -/
theorem sum_fits {x y : Int} (hx : inW x) (hy : inW y) : decide (inW (x + y)) = (if decide (x < 0) = decide (y < 0) then (decide (wr (x + y) < 0) == decide (x < 0)) else true) := by
  have hw := wr_in (x + y)
  have hq : wr (x + y) = x + y ∨ wr (x + y) = x + y - 340282366920938463463374607431768211456 ∨ wr (x + y) = x + y + 340282366920938463463374607431768211456 := by unfold wr; omega
  by_cases h1 : x < 0 <;> by_cases h2 : y < 0 <;> by_cases h3 : wr (x + y) < 0 <;> by_cases h4 : inW (x + y) <;> simp [h1, h2, h3, h4] <;> omega
theorem dif_fits {x y : Int} (hx : inW x) (hy : inW y) : decide (inW (x - y)) = (if decide (x < 0) = decide (y < 0) then true else (decide (wr (x - y) < 0) == decide (x < 0))) := by
  have hw := wr_in (x - y)
  have hq : wr (x - y) = x - y ∨ wr (x - y) = x - y - 340282366920938463463374607431768211456 ∨ wr (x - y) = x - y + 340282366920938463463374607431768211456 := by unfold wr; omega
  by_cases h1 : x < 0 <;> by_cases h2 : y < 0 <;> by_cases h3 : wr (x - y) < 0 <;> by_cases h4 : inW (x - y) <;> simp [h1, h2, h3, h4] <;> omega
end Go.Proofs.YtpomhcclnhddmaaDoor
