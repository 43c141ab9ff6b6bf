/- Contracts of vary: GetU, Get. -/
import Derived.Test.YtgdnpmjmkcccoaaVarG
import Derived.Test.YtgdnpmjmkcccoaaVarH
namespace Go.Proofs.Ytgdnpmjmkcccoaa
open Go.RowKit Go.Shelf VB
set_option linter.unusedVariables false
/-- the number whose bytes begin at place z of bs, and the place behind them, and the error -/
def gotN (bs : List Nat) (z : Int) : Nat × Nat × Int :=
  if 0 ≤ z ∧ z ≤ bs.length then (if (gv 0 0 (bs.drop z.toNat)).2.2 = 0 then ((gv 0 0 (bs.drop z.toNat)).1, z.toNat + (gv 0 0 (bs.drop z.toNat)).2.1, 0) else (0, 0, (gv 0 0 (bs.drop z.toNat)).2.2)) else (0, 0, 2)
theorem unf_zero : unf 0 = 0 := rfl
set_option maxHeartbeats 1000000 in
theorem GetU_c (A : Option Addr) (n c : Nat) (z : Int) (bs : List Nat) (w : World) (hb : Reads w 5 1 A n (bsV bs)) (hn : n ≤ 1000000) (hc : n ≤ c) (hcm : c ≤ maxLen) (hbs : ∀ x ∈ bs, x < 256) :
    Calls Try.prog 86 #[.slice A n c, .int .i64 z] w fun e w' => e = .returned (.tuple #[.int .u64 ((gotN bs z).1 : Nat), .int .i64 ((gotN bs z).2.1 : Nat), .int .i64 (gotN bs z).2.2]) ∧ w = w' := by
  have hl : bs.length = n := by have := hb.1; rw [bsV_len] at this; omega
  have hG : ∀ w', Reads w' 5 1 A n (bsV bs) → Calls Try.prog 110 #[.slice A n c, .int .i64 z, .func (.func 111) #[] #[]] w' fun e w'' => e = .returned (.tuple #[.int .u64 ((gotN bs z).1 : Nat), .int .i64 ((gotN bs z).2.1 : Nat), .int .i64 (gotN bs z).2.2]) ∧ w' = w'' := by
    intro w' hb'
    by_cases hz : 0 ≤ z ∧ z ≤ n
    · obtain ⟨k, rfl⟩ := Int.eq_ofNat_of_zero_le hz.1
      refine (gets_u_in A n c k bs w' hb' hn hc hcm (by omega) hbs _ _ _ rfl).mono ?_
      rintro e w2 ⟨h1, h2⟩
      refine ⟨h1.trans ?_, h2⟩
      unfold gotN
      rw [hl, if_pos hz, Int.toNat_natCast]
      by_cases he : (gv 0 0 (bs.drop k)).2.2 = 0
      · rw [if_pos he, if_pos he, if_pos he, he]
      · rw [if_neg he, if_neg he, if_neg he]; rfl
    · have e : gotN bs z = (0, 0, 2) := by unfold gotN; rw [hl, if_neg hz]
      rw [e]
      exact gets_u_out A n c z w' hz
  have HG := Lib.hid (hG w hb)
  generalize gotN bs z = g at *
  obtain ⟨g1, g2, g3⟩ := g
  go_enter Try.func86, Try.ntmps86
  go_wp2_with fail
  refine HG.out.mono ?_; rintro e w' ⟨rfl, rfl⟩
  go_wp2
  go_ret3
  exact ⟨rfl, rfl⟩
set_option maxHeartbeats 1000000 in
theorem Get_c (A : Option Addr) (n c : Nat) (z : Int) (bs : List Nat) (w : World) (hb : Reads w 5 1 A n (bsV bs)) (hn : n ≤ 1000000) (hc : n ≤ c) (hcm : c ≤ maxLen) (hbs : ∀ x ∈ bs, x < 256) :
    Calls Try.prog 115 #[.slice A n c, .int .i64 z] w fun e w' => e = .returned (.tuple #[.int .i64 (unf (gotN bs z).1), .int .i64 ((gotN bs z).2.1 : Nat), .int .i64 (gotN bs z).2.2]) ∧ w = w' := by
  have hl : bs.length = n := by have := hb.1; rw [bsV_len] at this; omega
  have hG : ∀ w', Reads w' 5 1 A n (bsV bs) → Calls Try.prog 136 #[.slice A n c, .int .i64 z, .func (.func 137) #[] #[]] w' fun e w'' => e = .returned (.tuple #[.int .i64 (unf (gotN bs z).1), .int .i64 ((gotN bs z).2.1 : Nat), .int .i64 (gotN bs z).2.2]) ∧ w' = w'' := by
    intro w' hb'
    by_cases hz : 0 ≤ z ∧ z ≤ n
    · obtain ⟨k, rfl⟩ := Int.eq_ofNat_of_zero_le hz.1
      refine (gets_i_in A n c k bs w' hb' hn hc hcm (by omega) hbs _ _ _ rfl).mono ?_
      rintro e w2 ⟨h1, h2⟩
      refine ⟨h1.trans ?_, h2⟩
      unfold gotN
      rw [hl, if_pos hz, Int.toNat_natCast]
      by_cases he : (gv 0 0 (bs.drop k)).2.2 = 0
      · rw [if_pos he, if_pos he, if_pos he, he]
      · rw [if_neg he, if_neg he, if_neg he]
        dsimp only
        rw [unf_zero]
    · have e : gotN bs z = (0, 0, 2) := by unfold gotN; rw [hl, if_neg hz]
      rw [e]
      exact gets_i_out A n c z w' hz
  have HG := Lib.hid (hG w hb)
  generalize unf (gotN bs z).1 = g1 at *
  generalize (gotN bs z).2.1 = g2 at *
  generalize (gotN bs z).2.2 = g3 at *
  go_enter Try.func115, Try.ntmps115
  go_wp2_with fail
  refine HG.out.mono ?_; rintro e w' ⟨rfl, rfl⟩
  go_wp2
  go_ret3
  exact ⟨rfl, rfl⟩
end Go.Proofs.Ytgdnpmjmkcccoaa
