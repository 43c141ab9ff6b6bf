/- Contracts: record.Name, slices.Equal of points (seat Record). -/
import Derived.Test.YtedojdbihajnbaaRecI
import Derived.Laws.RangeAny
import Derived.Deep.QuietTactic
import Derived.BigQuiet
import Derived.WalkMore
namespace Go.Proofs.Ytedojdbihajnbaa
open Go.RowKit Go.Shelf VB
open Go.Lib (hid)
set_option linter.unusedVariables false
set_option linter.unusedSimpArgs false
/-- is a text a name? -/
def nameB (s : ByteArray) : Bool := (decide (1 ≤ s.size) && decide (s.size ≤ 12)) && s.data.toList.all fun b => letB (b.toNat : Nat)
theorem byte_at (s : ByteArray) (i : Nat) (h : i < s.size) : s.data.toList[i]? = some (s[i]'h) := by
  rw [Array.getElem?_toList, Array.getElem?_eq_getElem h]
  rfl
theorem all_break {s : ByteArray} {i : Nat} (h : i < s.size) (hl : letB ((s[i]'h).toNat : Nat) = false) : nameB s = false := by
  unfold nameB
  have : (s.data.toList.all fun b => letB (b.toNat : Nat)) = false := by
    rw [← Bool.not_eq_true, List.all_eq_true]
    intro hall
    have := hall (s[i]'h) (List.mem_of_getElem? (byte_at s i h))
    rw [hl] at this
    cases this
  rw [this, Bool.and_false]
theorem all_end {s : ByteArray} (h : ∀ i, (hi : i < s.size) → letB ((s[i]'hi).toNat : Nat) = true) : nameB s = (decide (1 ≤ s.size) && decide (s.size ≤ 12)) := by
  unfold nameB
  have : (s.data.toList.all fun b => letB (b.toNat : Nat)) = true := by
    rw [List.all_eq_true]
    intro b hb
    obtain ⟨i, hi, rfl⟩ := List.getElem_of_mem hb
    have := h i (by simpa using hi)
    rw [Array.getElem_toList]
    exact this
  rw [this, Bool.and_true]
theorem letB_high {c : Int} (h : 128 ≤ c) : letB c = false := by
  unfold letB
  have h1 : decide (c ≤ 122) = false := decide_eq_false (by omega)
  have h2 : decide (c ≤ 57) = false := decide_eq_false (by omega)
  rw [h1, h2]; simp
set_option maxRecDepth 1000000 in
set_option maxHeartbeats 400000 in
theorem Name_c (s : ByteArray) (w : World) : Calls Try.prog 15 #[.string s] w fun e w' => e = .returned (.bool (nameB s)) ∧ Below w.heap.size w w' := by
  have HBI : ∀ pos, Below w.heap.size w (w.iter s pos) := fun pos => (Below.refl _ _).alloc (Nat.le_refl _) _
  have hcase : (s.size < 1) ∨ (1 ≤ s.size ∧ s.size ≤ 12) ∨ (1 ≤ s.size ∧ 12 < s.size) := by omega
  have HF : ∀ ok, (decide (1 ≤ s.size) && decide (s.size ≤ 12)) = ok → Hid ((∀ i, (hi : i < s.size) → letB ((s[i]'hi).toNat : Nat) = true) → nameB s = ok) := fun ok e => hid (fun h => (all_end h).trans e)
  rcases hcase with h1 | ⟨h1, h2⟩ | ⟨h1, h2⟩
  · have t1 : decide ((1 : Int) ≤ (s.size : Int)) = false := decide_eq_false (by omega)
    have t2 : decide (1 ≤ s.size) = false := decide_eq_false (by omega)
    have HE := HF false (by rw [t2]; rfl)
    clear HF h1
    go_enter Try.func15, Try.ntmps15
    go_wp2_with fail
    go_step3
    go_wp2_with fail
    go_step3
    go_wp2_with fail
    go_loopw [3] (fun u3 w' => ∃ pos : Nat, w' = w.iter s pos ∧ u3 = .bool false ∧ Hid (pos ≤ s.size ∧ ∀ i, (hi : i < s.size) → i < pos → letB ((s[i]'hi).toNat : Nat) = true)) (fun _ w' => s.size - w'.iterPos w.heap.size)
    case atStart => exact ⟨0, rfl, rfl, hid ⟨Nat.zero_le _, fun i hi h => absurd h (by omega)⟩⟩
    case round =>
      obtain ⟨pos, rfl, rfl, hp⟩ := hrel
      by_cases hlt : pos < s.size
      · have hnx : ∀ ty, (Instr.next (.pointer (some ⟨w.heap.size, 0, none⟩)) true ty).run Try.prog (w.iter s pos) = _ := fun ty => run_next_any w s pos ty hlt
        by_cases ha : (s[pos]'hlt).toNat < 128
        · rw [decode_ascii s pos hlt ha] at hnx
          obtain ⟨x, hx⟩ : ∃ x, x = (s[pos]'hlt).toNat := ⟨_, rfl⟩
          rw [← hx] at hnx
          by_cases hl : letB (x : Nat) = true
          · have HN := hid (show pos + 1 ≤ s.size ∧ ∀ i, (hi : i < s.size) → i < pos + 1 → letB ((s[i]'hi).toNat : Nat) = true from ⟨hlt, fun i hi h => by
              by_cases e : i = pos
              · subst e; rw [← hx]; exact hl
              · exact hp.out.2 i hi (by omega)⟩)
            have HL := hid hl
            clear hl hx ha
            go_wp2_with fail
            refine (letter_c _ _).mono ?_
            rintro e w5 ⟨rfl, rfl⟩
            rw [HL.out]
            go_wp2_with fail
            go_roundw
            case rel => exact ⟨pos + 1, rfl, rfl, HN⟩
            case measure =>
              simp
              omega
          · have hlf : letB (x : Nat) = false := by simpa using hl
            have HR := hid (all_break hlt (by rw [← hx]; exact hlf))
            have HL := hid hlf
            clear hl hx ha hlf
            go_wp2_with fail
            refine (letter_c _ _).mono ?_
            rintro e w5 ⟨rfl, rfl⟩
            rw [HL.out]
            go_wp2
            try rw [Exit.noGoto_ret]
            go_ret
            exact ⟨by rw [HR.out]; rfl, HBI _⟩
        · have hh := decode_high s pos hlt (by omega)
          have HR := hid (all_break hlt (letB_high (by omega)))
          have HL := hid (letB_high (c := ((Utf8.decode s pos).1 : Nat)) (by omega))
          generalize (Utf8.decode s pos).1 = cx at *
          clear ha hh
          go_wp2_with fail
          refine (letter_c _ _).mono ?_
          rintro e w5 ⟨rfl, rfl⟩
          rw [HL.out]
          go_wp2
          try rw [Exit.noGoto_ret]
          go_ret
          exact ⟨by rw [HR.out]; rfl, HBI _⟩
      · have hnx : ∀ ty, (Instr.next (.pointer (some ⟨w.heap.size, 0, none⟩)) true ty).run Try.prog (w.iter s pos) = _ := fun ty => run_next_end w s pos ty hlt
        have HR := hid (HE.out (fun i hi => hp.out.2 i hi (by omega)))
        go_wp2
        try rw [Exit.noGoto_ret]
        go_ret
        exact ⟨by rw [HR.out]; rfl, HBI _⟩
  · have t1 : decide ((1 : Int) ≤ (s.size : Int)) = true := decide_eq_true (by omega)
    have t2 : decide (1 ≤ s.size) = true := decide_eq_true (by omega)
    have t3 : decide ((s.size : Int) ≤ 12) = true := decide_eq_true (by omega)
    have t4 : decide (s.size ≤ 12) = true := decide_eq_true (by omega)
    have HE := HF true (by rw [t2, t4]; rfl)
    clear HF h1 h2
    go_enter Try.func15, Try.ntmps15
    go_wp2_with fail
    go_step3
    go_wp2_with fail
    go_step3
    go_wp2_with fail
    go_loopw [3] (fun u3 w' => ∃ pos : Nat, w' = w.iter s pos ∧ u3 = .bool true ∧ Hid (pos ≤ s.size ∧ ∀ i, (hi : i < s.size) → i < pos → letB ((s[i]'hi).toNat : Nat) = true)) (fun _ w' => s.size - w'.iterPos w.heap.size)
    case atStart => exact ⟨0, rfl, rfl, hid ⟨Nat.zero_le _, fun i hi h => absurd h (by omega)⟩⟩
    case round =>
      obtain ⟨pos, rfl, rfl, hp⟩ := hrel
      by_cases hlt : pos < s.size
      · have hnx : ∀ ty, (Instr.next (.pointer (some ⟨w.heap.size, 0, none⟩)) true ty).run Try.prog (w.iter s pos) = _ := fun ty => run_next_any w s pos ty hlt
        by_cases ha : (s[pos]'hlt).toNat < 128
        · rw [decode_ascii s pos hlt ha] at hnx
          obtain ⟨x, hx⟩ : ∃ x, x = (s[pos]'hlt).toNat := ⟨_, rfl⟩
          rw [← hx] at hnx
          by_cases hl : letB (x : Nat) = true
          · have HN := hid (show pos + 1 ≤ s.size ∧ ∀ i, (hi : i < s.size) → i < pos + 1 → letB ((s[i]'hi).toNat : Nat) = true from ⟨hlt, fun i hi h => by
              by_cases e : i = pos
              · subst e; rw [← hx]; exact hl
              · exact hp.out.2 i hi (by omega)⟩)
            have HL := hid hl
            clear hl hx ha
            go_wp2_with fail
            refine (letter_c _ _).mono ?_
            rintro e w5 ⟨rfl, rfl⟩
            rw [HL.out]
            go_wp2_with fail
            go_roundw
            case rel => exact ⟨pos + 1, rfl, rfl, HN⟩
            case measure =>
              simp
              omega
          · have hlf : letB (x : Nat) = false := by simpa using hl
            have HR := hid (all_break hlt (by rw [← hx]; exact hlf))
            have HL := hid hlf
            clear hl hx ha hlf
            go_wp2_with fail
            refine (letter_c _ _).mono ?_
            rintro e w5 ⟨rfl, rfl⟩
            rw [HL.out]
            go_wp2
            try rw [Exit.noGoto_ret]
            go_ret
            exact ⟨by rw [HR.out]; rfl, HBI _⟩
        · have hh := decode_high s pos hlt (by omega)
          have HR := hid (all_break hlt (letB_high (by omega)))
          have HL := hid (letB_high (c := ((Utf8.decode s pos).1 : Nat)) (by omega))
          generalize (Utf8.decode s pos).1 = cx at *
          clear ha hh
          go_wp2_with fail
          refine (letter_c _ _).mono ?_
          rintro e w5 ⟨rfl, rfl⟩
          rw [HL.out]
          go_wp2
          try rw [Exit.noGoto_ret]
          go_ret
          exact ⟨by rw [HR.out]; rfl, HBI _⟩
      · have hnx : ∀ ty, (Instr.next (.pointer (some ⟨w.heap.size, 0, none⟩)) true ty).run Try.prog (w.iter s pos) = _ := fun ty => run_next_end w s pos ty hlt
        have HR := hid (HE.out (fun i hi => hp.out.2 i hi (by omega)))
        go_wp2
        try rw [Exit.noGoto_ret]
        go_ret
        exact ⟨by rw [HR.out]; rfl, HBI _⟩
  · have t1 : decide ((1 : Int) ≤ (s.size : Int)) = true := decide_eq_true (by omega)
    have t2 : decide (1 ≤ s.size) = true := decide_eq_true (by omega)
    have t3 : decide ((s.size : Int) ≤ 12) = false := decide_eq_false (by omega)
    have t4 : decide (s.size ≤ 12) = false := decide_eq_false (by omega)
    have HE := HF false (by rw [t2, t4]; rfl)
    clear HF h1 h2
    go_enter Try.func15, Try.ntmps15
    go_wp2_with fail
    go_step3
    go_wp2_with fail
    go_step3
    go_wp2_with fail
    go_loopw [3] (fun u3 w' => ∃ pos : Nat, w' = w.iter s pos ∧ u3 = .bool false ∧ Hid (pos ≤ s.size ∧ ∀ i, (hi : i < s.size) → i < pos → letB ((s[i]'hi).toNat : Nat) = true)) (fun _ w' => s.size - w'.iterPos w.heap.size)
    case atStart => exact ⟨0, rfl, rfl, hid ⟨Nat.zero_le _, fun i hi h => absurd h (by omega)⟩⟩
    case round =>
      obtain ⟨pos, rfl, rfl, hp⟩ := hrel
      by_cases hlt : pos < s.size
      · have hnx : ∀ ty, (Instr.next (.pointer (some ⟨w.heap.size, 0, none⟩)) true ty).run Try.prog (w.iter s pos) = _ := fun ty => run_next_any w s pos ty hlt
        by_cases ha : (s[pos]'hlt).toNat < 128
        · rw [decode_ascii s pos hlt ha] at hnx
          obtain ⟨x, hx⟩ : ∃ x, x = (s[pos]'hlt).toNat := ⟨_, rfl⟩
          rw [← hx] at hnx
          by_cases hl : letB (x : Nat) = true
          · have HN := hid (show pos + 1 ≤ s.size ∧ ∀ i, (hi : i < s.size) → i < pos + 1 → letB ((s[i]'hi).toNat : Nat) = true from ⟨hlt, fun i hi h => by
              by_cases e : i = pos
              · subst e; rw [← hx]; exact hl
              · exact hp.out.2 i hi (by omega)⟩)
            have HL := hid hl
            clear hl hx ha
            go_wp2_with fail
            refine (letter_c _ _).mono ?_
            rintro e w5 ⟨rfl, rfl⟩
            rw [HL.out]
            go_wp2_with fail
            go_roundw
            case rel => exact ⟨pos + 1, rfl, rfl, HN⟩
            case measure =>
              simp
              omega
          · have hlf : letB (x : Nat) = false := by simpa using hl
            have HR := hid (all_break hlt (by rw [← hx]; exact hlf))
            have HL := hid hlf
            clear hl hx ha hlf
            go_wp2_with fail
            refine (letter_c _ _).mono ?_
            rintro e w5 ⟨rfl, rfl⟩
            rw [HL.out]
            go_wp2
            try rw [Exit.noGoto_ret]
            go_ret
            exact ⟨by rw [HR.out]; rfl, HBI _⟩
        · have hh := decode_high s pos hlt (by omega)
          have HR := hid (all_break hlt (letB_high (by omega)))
          have HL := hid (letB_high (c := ((Utf8.decode s pos).1 : Nat)) (by omega))
          generalize (Utf8.decode s pos).1 = cx at *
          clear ha hh
          go_wp2_with fail
          refine (letter_c _ _).mono ?_
          rintro e w5 ⟨rfl, rfl⟩
          rw [HL.out]
          go_wp2
          try rw [Exit.noGoto_ret]
          go_ret
          exact ⟨by rw [HR.out]; rfl, HBI _⟩
      · have hnx : ∀ ty, (Instr.next (.pointer (some ⟨w.heap.size, 0, none⟩)) true ty).run Try.prog (w.iter s pos) = _ := fun ty => run_next_end w s pos ty hlt
        have HR := hid (HE.out (fun i hi => hp.out.2 i hi (by omega)))
        go_wp2
        try rw [Exit.noGoto_ret]
        go_ret
        exact ⟨by rw [HR.out]; rfl, HBI _⟩
end Go.Proofs.Ytedojdbihajnbaa
