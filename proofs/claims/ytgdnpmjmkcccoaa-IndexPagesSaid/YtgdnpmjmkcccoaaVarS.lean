/- Contract of the document's Number; rows that came in. -/
import Derived.Test.YtgdnpmjmkcccoaaVarR
import Derived.Test.YtgdnpmjmkcccoaaVarO
import Derived.DataShut
namespace Go.Proofs.Ytgdnpmjmkcccoaa
open Go.RowKit Go.Shelf VB
set_option linter.unusedVariables false
theorem refT_small (l : List Nat) : (refT l).1 < 18446744073709551616 := by
  unfold refT
  split
  · exact (by decide)
  · split
    · exact (by decide)
    · split
      · exact (by decide)
      · rename_i h1 h2 _
        exact lv_small h1 h2
theorem rg_small (bs : List Nat) (z : Int) : (rg bs z).1 < 18446744073709551616 := by
  unfold rg
  split
  · rw [gv_ref]; exact refT_small _
  · exact (by decide)
theorem gotN_small (bs : List Nat) (z : Int) : (gotN bs z).1 < 18446744073709551616 := by
  rw [rg_got]
  split
  · exact rg_small bs z
  · exact Nat.zero_lt_succ _
set_option maxHeartbeats 1000000 in
theorem number_c (A : Option Addr) (n c : Nat) (z : Int) (bs : List Nat) (w : World) (hb : Reads w 5 1 A n (bsV bs)) (hn : n ≤ 1000000) (hc : n ≤ c) (hcm : c ≤ maxLen) (hbs : ∀ x ∈ bs, x < 256) :
    Calls Try.prog 122 #[.slice A n c, .int .i64 z] w fun e w' => e = .returned (.tuple #[.int .i64 (unf (gotN bs z).1), .int .i64 ((gotN bs z).2.1 : Nat), .int .i64 (gotN bs z).2.2]) ∧ w = w' := by
  have hl : bs.length = n := by have := hb.1; rw [bsV_len] at this; omega
  have HR := Lib.hid (refGet_c A n c z bs w hb hn hc hcm hbs)
  have hgot := rg_got bs z
  have hsm := rg_small bs z
  have hok := @rg_ok bs z
  clear hb hbs
  obtain ⟨g, hg⟩ : ∃ g, g = gotN bs z := ⟨_, rfl⟩
  rw [← hg] at hgot ⊢
  clear hg
  generalize rg bs z = r at *
  obtain ⟨r1, r2, r3⟩ := r
  dsimp only at hgot hsm hok
  by_cases he : r3 = 0
  · subst he
    rw [if_pos rfl] at hgot
    subst hgot
    obtain ⟨h1, h2, h3⟩ := hok rfl
    obtain ⟨k, rfl⟩ := Int.eq_ofNat_of_zero_le h1
    rw [Int.toNat_natCast] at h3 ⊢
    have HU := Lib.hid (fun w => unsign_c r1 hsm w)
    have hk : k + r2 ≤ 1000000 := by omega
    obtain ⟨v, hv⟩ : ∃ v, v = unf r1 := ⟨_, rfl⟩
    rw [← hv] at HU
    rw [show unf (r1, k + r2, (0 : Int)).1 = v from hv.symm]
    clear hok hsm hv
    go_enter Try.func122, Try.ntmps122
    go_wp2_with fail
    refine HR.out.mono ?_; rintro e w' ⟨rfl, rfl⟩
    go_wp2_with fail
    refine (HU.out _).mono ?_; rintro e w' ⟨rfl, rfl⟩
    go_wp2
    go_ret3
    exact ⟨rfl, rfl⟩
  · rw [if_neg he] at hgot
    subst hgot
    have te := beq_eq_false_iff_ne.2 he
    have te2 := bne_iff_ne.2 he
    have HE := Lib.hid he
    clear hok hsm he
    go_enter Try.func122, Try.ntmps122
    go_wp2_with fail
    refine HR.out.mono ?_; rintro e w' ⟨rfl, rfl⟩
    go_wp2
    go_ret3
    exact ⟨rfl, rfl⟩
/-- the bytes that came in -/
def bytesOf (zs : List Int) (n : Nat) : List Nat := (zs.take n).map Int.toNat
theorem u8_wf {z : Int} (h : (Lit.int .u8 z).wf = true) : 0 ≤ z ∧ z < 256 := by
  rw [Lit.wf_int_iff, IntKind.min_u8, IntKind.max_u8] at h; omega
theorem typed_of_cell {w : World} {p : Addr} {v : Value} (h : w.cell? p = some v) : ∃ e, Typed w p.block e := by
  unfold World.cell? at h
  split at h
  · rename_i cs e fr he
    exact ⟨e, cs, fr, he⟩
  · cases h
theorem bytes_in {w : World} {a : Option Addr} {len cap : Nat} {zs : List Int} (h : RowIn .u8 w a len cap zs) : (bytesOf zs len).length = len ∧ (∀ x ∈ bytesOf zs len, x < 256) ∧ ∃ e, Reads w e 1 a len (bsV (bytesOf zs len)) := by
  have hl := h.len
  have hlen : (bytesOf zs len).length = len := by unfold bytesOf; rw [List.length_map, List.length_take]; omega
  have hget : ∀ j, j < len → (((bytesOf zs len).getD j 0 : Nat) : Int) = zs.getD j 0 := by
    intro j hj
    have hw := u8_wf (h.wf hj)
    unfold bytesOf at hlen ⊢
    rw [List.getD_eq_getElem?_getD, List.getElem?_eq_getElem (by omega)] at hw ⊢
    rw [List.getD_eq_getElem?_getD, List.getElem?_eq_getElem (by omega)]
    rw [List.getElem_map, List.getElem_take]
    simp only [Option.getD_some] at hw ⊢
    omega
  refine ⟨hlen, ?_, ?_⟩
  · intro x hx
    obtain ⟨j, hj, rfl⟩ := List.getElem_of_mem hx
    rw [hlen] at hj
    have h1 := hget j hj
    have hw := u8_wf (h.wf hj)
    rw [List.getD_eq_getElem?_getD, List.getElem?_eq_getElem (by omega)] at h1
    simp only [Option.getD_some] at h1
    omega
  · rcases Nat.eq_zero_or_pos len with h0 | h0
    · exact ⟨0, by rw [bsV_len, hlen, Nat.mul_one], fun hp => absurd hp (by omega)⟩
    · obtain ⟨x, hx, hc⟩ := h.at_ h0
      obtain ⟨e, he⟩ := typed_of_cell hc
      rw [block_of_add] at he
      refine ⟨e, by rw [bsV_len, hlen, Nat.mul_one], fun _ => ⟨x, hx, he, ?_⟩⟩
      intro j u hu
      have hj : j < len := by have := (List.getElem?_eq_some_iff.1 hu).1; rw [bsV_len, hlen] at this; exact this
      obtain ⟨x', hx', hc'⟩ := h.at_ hj
      rw [hx] at hx'
      cases hx'
      rw [hc', ← hget j hj, ← hu, bsV, List.getElem?_map, List.getD_eq_getElem?_getD, List.getElem?_eq_getElem (by omega)]
      rfl
end Go.Proofs.Ytgdnpmjmkcccoaa
