/- Contracts of index: checked.mark (seats Index, Manifest). -/
import Derived.Test.YtgdnpmjmkcccoaaMet
import Derived.Test.YtgdnpmjmkcccoaaMemC
import Derived.Test.YtgdnpmjmkcccoaaPost
import Derived.WalkMore
import Derived.Outline
import Derived.Laws.BitsLemmas
import Derived.Laws.BitsAllLaws
import Derived.Test.YtgdnpmjmkcccoaaProg
import Derived.Shelf.Abstract
import Derived.Shelf.RegionOpen
import Derived.WalkKit
import Derived.WalkLawsBesides
import Derived.Deep.RegionHeld3
import Derived.Lib.Hide
import Derived.KernelRfl
namespace Go.Proofs.Ytgdnpmjmkcccoaa
open Go.RowKit Go.Shelf
open Go.Lib (hid)
set_option linter.unusedVariables false
set_option linter.unusedSimpArgs false
/-- the cells of an entry that is checked -/
abbrev ckC (fs ls ct : Int) (A : Option Addr) (n c : Nat) (by_ : Int) (r : Nat) : Array Value := #[.int .i64 fs, .int .i64 ls, .int .i64 ct, .slice A n c, .int .i64 by_, .map (some r)]
def markB (p : Int) (L : List Int) : Bool := (decide (18 ≤ p) && decide (p < 256)) && decide (p ∉ L)
def RetMk (p : Int) (L : List Int) (r : Nat) (w : World) (e : Ending) (w' : World) : Prop := e = .returned (.bool (markB p L)) ∧ But r w w' ∧ MetAt w' r (p :: L)
theorem map_ne {w : World} {g r : Nat} {t : TypeId} {cs : Array Value} {L : List Int} (k : Blk w g t cs) (h : MetAt w r L) : g ≠ r := by
  obtain ⟨es, clock, M, h1, _⟩ := h
  rintro rfl
  unfold Blk at k
  rw [k] at h1
  injection h1 with h1
  cases h1
set_option maxHeartbeats 1000000 in
theorem mark_c {w : World} {g r : Nat} {fs ls ct by_ : Int} {A : Option Addr} {n c : Nat} {L : List Int} (p : Int) (kc : Blk w g 139 (ckC fs ls ct A n c by_ r)) (hm : MetAt w r L) (hL : L.length ≤ 1000000) :
    Calls Try.prog 134 #[.pointer (some ⟨g, 0, none⟩), .int .i64 p] w (RetMk p L r w) := by
  have hz : ∀ w, (zeroValue 3).run Try.prog w = .ok (.int .i64 0) w := fun w => by kernel_rfl
  have hg := met_get (P := Try.prog) (k := p) hm Try.underlying72 Try.underlying3 (hz w)
  obtain ⟨w1, hp, hm1, hb1⟩ := met_put (P := Try.prog) (k := p) hm Try.underlying72 Try.underlying3
  have hg1 := met_get (P := Try.prog) (k := p) hm1 Try.underlying72 Try.underlying3 (hz w1)
  have kc1 := kc.but hb1 (map_ne kc hm)
  have hcl : L.count p ≤ 1000000 := Nat.le_trans List.count_le_length hL
  have hw : wrap64 ((L.count p : Nat) + 1 : Int) = ((L.count p : Nat) + 1 : Int) := by unfold wrap64; omega
  have c5 : w.cell? ⟨g, 5, none⟩ = some (.map (some r)) := kc.cell 5
  have d5 : w1.cell? ⟨g, 5, none⟩ = some (.map (some r)) := kc1.cell 5
  rw [List.count_cons_self] at hg1
  have hin : (L.count p = 0) ↔ p ∉ L := List.count_eq_zero
  obtain ⟨k, hk⟩ : ∃ k, k = L.count p := ⟨_, rfl⟩
  rw [← hk] at hg hp hg1 hw hcl hin
  have HX := hid (And.intro hb1 hm1)
  have HIN := hid hin
  clear hm hL kc kc1 hb1 hm1 hk hin
  have HV := hid (show (((k : Nat) : Int) + 1 == 1) = decide (p ∉ L) by
    by_cases h : k = 0
    · rw [decide_eq_true (HIN.out.1 h)]; simp [h]
    · rw [decide_eq_false (fun h2 => h (HIN.out.2 h2))]; simp; omega)
  go_enter Try.func134, Try.ntmps134
  by_cases h1 : 18 ≤ p
  · by_cases h2 : p < 256
    · have HF := hid (show RetMk p L r w (.returned (.bool (((k : Nat) : Int) + 1 == 1))) w1 from ⟨by rw [HV.out]; unfold markB; rw [decide_eq_true h1, decide_eq_true h2]; rfl, HX.out.1, HX.out.2⟩)
      go_wp2_with fail
      go_ret
      exact HF.out
    · have HF := hid (show RetMk p L r w (.returned (.bool false)) w1 from ⟨by unfold markB; rw [decide_eq_true h1, decide_eq_false h2]; rfl, HX.out.1, HX.out.2⟩)
      go_wp2_with fail
      go_ret
      exact HF.out
  · have HF := hid (show RetMk p L r w (.returned (.bool false)) w1 from ⟨by unfold markB; rw [decide_eq_false h1]; rfl, HX.out.1, HX.out.2⟩)
    go_wp2_with fail
    go_ret
    exact HF.out
end Go.Proofs.Ytgdnpmjmkcccoaa
