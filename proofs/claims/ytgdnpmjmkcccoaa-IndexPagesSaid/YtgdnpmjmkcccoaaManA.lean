/- Manifest: names, letters, numbers that are read, points; slices.Equal, slices.Clone of points (turned from the texts of the seat Record). -/
import Derived.Test.YtgdnpmjmkcccoaaVarT
import Derived.Test.YtgdnpmjmkcccoaaVarY
import Derived.Test.YtgdnpmjmkcccoaaVarS
import Derived.Test.YtgdnpmjmkcccoaaVarN
import Derived.Test.YtgdnpmjmkcccoaaBut
import Derived.WalkLawsBesides
import Derived.Deep.RegionHeld3
import Derived.Laws.RangeAny
import Derived.Deep.QuietTactic
import Derived.BigQuiet
import Derived.WalkMore
import Derived.WalkSpells
import Derived.Lib.AppendZerosOnto
import Derived.Lib.Walk
import Derived.Lib.SliceRun
import Derived.Outline
import Derived.Deep.DeepCutAuto
namespace Go.Proofs.Ytgdnpmjmkcccoaa
open Go.RowKit Go.Shelf VB
open Go.Lib (hid)
set_option linter.unusedVariables false
set_option linter.unusedSimpArgs false
/-- may a name have a byte? -/
def letB (c : Int) : Bool := decide (97 ≤ c) && decide (c ≤ 122) || decide (48 ≤ c) && decide (c ≤ 57)
def timeB (t : Int) : Bool := decide (0 ≤ t) && decide (t ≤ 281474976710656)
def valB (v : Int) : Bool := decide (-2305843009213693952 ≤ v) && decide (v ≤ 2305843009213693952)
set_option maxHeartbeats 400000 in
theorem letter_c (c : Int) (w : World) : Calls Try.prog 105 #[.int .i32 c] w fun e w' => e = .returned (.bool (letB c)) ∧ w = w' := by
  unfold letB
  by_cases h1 : 97 ≤ c <;> by_cases h2 : c ≤ 122 <;> by_cases h3 : 48 ≤ c <;> by_cases h4 : c ≤ 57 <;> simp only [h1, h2, h3, h4, decide_true, decide_false, Bool.and_true, Bool.and_false, Bool.true_and, Bool.false_and, Bool.or_true, Bool.or_false, Bool.true_or, Bool.false_or]
  all_goals
    go_enter Try.func105, Try.ntmps105
    go_wp2
    go_ret
    exact ⟨rfl, rfl⟩
/-- the bytes that are read -/
structure Src (w : World) (B : Option Addr) (n c : Nat) (bs : List Nat) : Prop where
  reads : Reads w 5 1 B n (bsV bs)
  hn : n ≤ 1000000
  hc : n ≤ c
  hcm : c ≤ maxLen
  hbs : ∀ x ∈ bs, x < 256
theorem Src.len {w : World} {B : Option Addr} {n c : Nat} {bs : List Nat} (h : Src w B n c bs) : bs.length = n := by have := h.reads.1; rw [bsV_len] at this; omega
theorem Src.drew {w : World} {B : Option Addr} {n c : Nat} {bs : List Nat} (h : Src w B n c bs) : Src w.drew B n c bs := ⟨h.reads.drew, h.hn, h.hc, h.hcm, h.hbs⟩
theorem Src.alloc {w : World} {B : Option Addr} {n c : Nat} {bs : List Nat} (h : Src w B n c bs) (o : Obj) : Src (w.alloc o) B n c bs := ⟨h.reads.alloc o, h.hn, h.hc, h.hcm, h.hbs⟩
theorem Src.below {w w' : World} {B : Option Addr} {n c : Nat} {bs : List Nat} (h : Src w B n c bs) (hb : Below w.heap.size w w') : Src w' B n c bs := ⟨h.reads.below hb, h.hn, h.hc, h.hcm, h.hbs⟩
/-- a number without a sign, at most so great -/
def plainS (bs : List Nat) (most z : Nat) : Except Int (Nat × Nat) :=
  if (gotN bs z).2.2 = 0 then (if (gotN bs z).1 ≤ most then .ok ((gotN bs z).1, (gotN bs z).2.1) else .error 7) else .error (gotN bs z).2.2
/-- a number with a sign -/
def signS (bs : List Nat) (z : Nat) : Except Int (Int × Nat) :=
  if (gotN bs z).2.2 = 0 then .ok (unf (gotN bs z).1, (gotN bs z).2.1) else .error (gotN bs z).2.2
section
variable {w : World} {B : Option Addr} {n c : Nat} {bs : List Nat}
theorem plainS_ok {most z v p : Nat} (h : plainS bs most z = .ok (v, p)) : gotN bs z = (v, p, 0) ∧ v ≤ most := by
  unfold plainS at h
  split at h
  · rename_i h0
    split at h
    · rename_i h1
      injection h with h
      injection h with h2 h3
      refine ⟨?_, h2 ▸ h1⟩
      rw [← h2, ← h3, ← h0]
    · cases h
  · cases h
theorem plainS_er {most z : Nat} {x : Int} (h : plainS bs most z = .error x) : (∃ v p, gotN bs z = (v, p, x) ∧ x ≠ 0) ∨ (∃ v p, gotN bs z = (v, p, 0) ∧ most < v ∧ x = 7) := by
  unfold plainS at h
  split at h
  · rename_i h0
    split at h
    · cases h
    · rename_i h1
      injection h with h
      exact .inr ⟨_, _, by rw [← h0], by omega, h.symm⟩
  · rename_i h0
    injection h with h
    exact .inl ⟨_, _, by rw [← h], by rw [← h]; exact h0⟩
theorem signS_ok {z p : Nat} {v : Int} (h : signS bs z = .ok (v, p)) : ∃ u, gotN bs z = (u, p, 0) ∧ v = unf u := by
  unfold signS at h
  split at h
  · rename_i h0
    injection h with h
    injection h with h2 h3
    exact ⟨_, by rw [← h3, ← h0], h2.symm⟩
  · cases h
theorem signS_er {z : Nat} {x : Int} (h : signS bs z = .error x) : ∃ v p, gotN bs z = (v, p, x) ∧ x ≠ 0 := by
  unfold signS at h
  split at h
  · cases h
  · rename_i h0
    injection h with h
    exact ⟨_, _, by rw [← h], by rw [← h]; exact h0⟩
theorem GetU_s {z : Nat} (hs : Src w B n c bs) {v p : Nat} {x : Int} (h : gotN bs z = (v, p, x)) : Calls Try.prog 86 #[.slice B n c, .int .i64 z] w fun e w' => e = .returned (.tuple #[.int .u64 (v : Nat), .int .i64 (p : Nat), .int .i64 x]) ∧ w = w' := by
  have := GetU_c B n c z bs w hs.reads hs.hn hs.hc hs.hcm hs.hbs
  rw [h] at this; exact this
theorem Get_s {z : Nat} (hs : Src w B n c bs) {v p : Nat} {x : Int} (h : gotN bs z = (v, p, x)) : Calls Try.prog 115 #[.slice B n c, .int .i64 z] w fun e w' => e = .returned (.tuple #[.int .i64 (unf v), .int .i64 (p : Nat), .int .i64 x]) ∧ w = w' := by
  have := Get_c B n c z bs w hs.reads hs.hn hs.hc hs.hcm hs.hbs
  rw [h] at this; exact this
end
/-- is a text a name? -/
def nameB (s : ByteArray) : Bool := (decide (1 ≤ s.size) && decide (s.size ≤ 12)) && s.data.toList.all fun b => letB (b.toNat : Nat)
theorem byte_at (s : ByteArray) (i : Nat) (h : i < s.size) : s.data.toList[i]? = some (s[i]'h) := by
  rw [Array.getElem?_toList, Array.getElem?_eq_getElem h]
  rfl
theorem all_break {s : ByteArray} {i : Nat} (h : i < s.size) (hl : letB ((s[i]'h).toNat : Nat) = false) : nameB s = false := by
  unfold nameB
  have : (s.data.toList.all fun b => letB (b.toNat : Nat)) = false := by
    rw [← Bool.not_eq_true, List.all_eq_true]
    intro hall
    have := hall (s[i]'h) (List.mem_of_getElem? (byte_at s i h))
    rw [hl] at this
    cases this
  rw [this, Bool.and_false]
theorem all_end {s : ByteArray} (h : ∀ i, (hi : i < s.size) → letB ((s[i]'hi).toNat : Nat) = true) : nameB s = (decide (1 ≤ s.size) && decide (s.size ≤ 12)) := by
  unfold nameB
  have : (s.data.toList.all fun b => letB (b.toNat : Nat)) = true := by
    rw [List.all_eq_true]
    intro b hb
    obtain ⟨i, hi, rfl⟩ := List.getElem_of_mem hb
    have := h i (by simpa using hi)
    rw [Array.getElem_toList]
    exact this
  rw [this, Bool.and_true]
theorem letB_high {c : Int} (h : 128 ≤ c) : letB c = false := by
  unfold letB
  have h1 : decide (c ≤ 122) = false := decide_eq_false (by omega)
  have h2 : decide (c ≤ 57) = false := decide_eq_false (by omega)
  rw [h1, h2]; simp
set_option maxRecDepth 1000000 in
set_option maxHeartbeats 400000 in
theorem Name_c (s : ByteArray) (w : World) : Calls Try.prog 76 #[.string s] w fun e w' => e = .returned (.bool (nameB s)) ∧ Below w.heap.size w w' := by
  have HBI : ∀ pos, Below w.heap.size w (w.iter s pos) := fun pos => (Below.refl _ _).alloc (Nat.le_refl _) _
  have hcase : (s.size < 1) ∨ (1 ≤ s.size ∧ s.size ≤ 12) ∨ (1 ≤ s.size ∧ 12 < s.size) := by omega
  have HF : ∀ ok, (decide (1 ≤ s.size) && decide (s.size ≤ 12)) = ok → Hid ((∀ i, (hi : i < s.size) → letB ((s[i]'hi).toNat : Nat) = true) → nameB s = ok) := fun ok e => hid (fun h => (all_end h).trans e)
  rcases hcase with h1 | ⟨h1, h2⟩ | ⟨h1, h2⟩
  · have t1 : decide ((1 : Int) ≤ (s.size : Int)) = false := decide_eq_false (by omega)
    have t2 : decide (1 ≤ s.size) = false := decide_eq_false (by omega)
    have HE := HF false (by rw [t2]; rfl)
    clear HF h1
    go_enter Try.func76, Try.ntmps76
    go_wp2_with fail
    go_step3
    go_wp2_with fail
    go_step3
    go_wp2_with fail
    go_loopw [3] (fun u3 w' => ∃ pos : Nat, w' = w.iter s pos ∧ u3 = .bool false ∧ Hid (pos ≤ s.size ∧ ∀ i, (hi : i < s.size) → i < pos → letB ((s[i]'hi).toNat : Nat) = true)) (fun _ w' => s.size - w'.iterPos w.heap.size)
    case atStart => exact ⟨0, rfl, rfl, hid ⟨Nat.zero_le _, fun i hi h => absurd h (by omega)⟩⟩
    case round =>
      obtain ⟨pos, rfl, rfl, hp⟩ := hrel
      by_cases hlt : pos < s.size
      · have hnx : ∀ ty, (Instr.next (.pointer (some ⟨w.heap.size, 0, none⟩)) true ty).run Try.prog (w.iter s pos) = _ := fun ty => run_next_any w s pos ty hlt
        by_cases ha : (s[pos]'hlt).toNat < 128
        · rw [decode_ascii s pos hlt ha] at hnx
          obtain ⟨x, hx⟩ : ∃ x, x = (s[pos]'hlt).toNat := ⟨_, rfl⟩
          rw [← hx] at hnx
          by_cases hl : letB (x : Nat) = true
          · have HN := hid (show pos + 1 ≤ s.size ∧ ∀ i, (hi : i < s.size) → i < pos + 1 → letB ((s[i]'hi).toNat : Nat) = true from ⟨hlt, fun i hi h => by
              by_cases e : i = pos
              · subst e; rw [← hx]; exact hl
              · exact hp.out.2 i hi (by omega)⟩)
            have HL := hid hl
            clear hl hx ha
            go_wp2_with fail
            refine (letter_c _ _).mono ?_
            rintro e w5 ⟨rfl, rfl⟩
            rw [HL.out]
            go_wp2_with fail
            go_roundw
            case rel => exact ⟨pos + 1, rfl, rfl, HN⟩
            case measure =>
              simp
              omega
          · have hlf : letB (x : Nat) = false := by simpa using hl
            have HR := hid (all_break hlt (by rw [← hx]; exact hlf))
            have HL := hid hlf
            clear hl hx ha hlf
            go_wp2_with fail
            refine (letter_c _ _).mono ?_
            rintro e w5 ⟨rfl, rfl⟩
            rw [HL.out]
            go_wp2
            try rw [Exit.noGoto_ret]
            go_ret
            exact ⟨by rw [HR.out]; rfl, HBI _⟩
        · have hh := decode_high s pos hlt (by omega)
          have HR := hid (all_break hlt (letB_high (by omega)))
          have HL := hid (letB_high (c := ((Utf8.decode s pos).1 : Nat)) (by omega))
          generalize (Utf8.decode s pos).1 = cx at *
          clear ha hh
          go_wp2_with fail
          refine (letter_c _ _).mono ?_
          rintro e w5 ⟨rfl, rfl⟩
          rw [HL.out]
          go_wp2
          try rw [Exit.noGoto_ret]
          go_ret
          exact ⟨by rw [HR.out]; rfl, HBI _⟩
      · have hnx : ∀ ty, (Instr.next (.pointer (some ⟨w.heap.size, 0, none⟩)) true ty).run Try.prog (w.iter s pos) = _ := fun ty => run_next_end w s pos ty hlt
        have HR := hid (HE.out (fun i hi => hp.out.2 i hi (by omega)))
        go_wp2
        try rw [Exit.noGoto_ret]
        go_ret
        exact ⟨by rw [HR.out]; rfl, HBI _⟩
  · have t1 : decide ((1 : Int) ≤ (s.size : Int)) = true := decide_eq_true (by omega)
    have t2 : decide (1 ≤ s.size) = true := decide_eq_true (by omega)
    have t3 : decide ((s.size : Int) ≤ 12) = true := decide_eq_true (by omega)
    have t4 : decide (s.size ≤ 12) = true := decide_eq_true (by omega)
    have HE := HF true (by rw [t2, t4]; rfl)
    clear HF h1 h2
    go_enter Try.func76, Try.ntmps76
    go_wp2_with fail
    go_step3
    go_wp2_with fail
    go_step3
    go_wp2_with fail
    go_loopw [3] (fun u3 w' => ∃ pos : Nat, w' = w.iter s pos ∧ u3 = .bool true ∧ Hid (pos ≤ s.size ∧ ∀ i, (hi : i < s.size) → i < pos → letB ((s[i]'hi).toNat : Nat) = true)) (fun _ w' => s.size - w'.iterPos w.heap.size)
    case atStart => exact ⟨0, rfl, rfl, hid ⟨Nat.zero_le _, fun i hi h => absurd h (by omega)⟩⟩
    case round =>
      obtain ⟨pos, rfl, rfl, hp⟩ := hrel
      by_cases hlt : pos < s.size
      · have hnx : ∀ ty, (Instr.next (.pointer (some ⟨w.heap.size, 0, none⟩)) true ty).run Try.prog (w.iter s pos) = _ := fun ty => run_next_any w s pos ty hlt
        by_cases ha : (s[pos]'hlt).toNat < 128
        · rw [decode_ascii s pos hlt ha] at hnx
          obtain ⟨x, hx⟩ : ∃ x, x = (s[pos]'hlt).toNat := ⟨_, rfl⟩
          rw [← hx] at hnx
          by_cases hl : letB (x : Nat) = true
          · have HN := hid (show pos + 1 ≤ s.size ∧ ∀ i, (hi : i < s.size) → i < pos + 1 → letB ((s[i]'hi).toNat : Nat) = true from ⟨hlt, fun i hi h => by
              by_cases e : i = pos
              · subst e; rw [← hx]; exact hl
              · exact hp.out.2 i hi (by omega)⟩)
            have HL := hid hl
            clear hl hx ha
            go_wp2_with fail
            refine (letter_c _ _).mono ?_
            rintro e w5 ⟨rfl, rfl⟩
            rw [HL.out]
            go_wp2_with fail
            go_roundw
            case rel => exact ⟨pos + 1, rfl, rfl, HN⟩
            case measure =>
              simp
              omega
          · have hlf : letB (x : Nat) = false := by simpa using hl
            have HR := hid (all_break hlt (by rw [← hx]; exact hlf))
            have HL := hid hlf
            clear hl hx ha hlf
            go_wp2_with fail
            refine (letter_c _ _).mono ?_
            rintro e w5 ⟨rfl, rfl⟩
            rw [HL.out]
            go_wp2
            try rw [Exit.noGoto_ret]
            go_ret
            exact ⟨by rw [HR.out]; rfl, HBI _⟩
        · have hh := decode_high s pos hlt (by omega)
          have HR := hid (all_break hlt (letB_high (by omega)))
          have HL := hid (letB_high (c := ((Utf8.decode s pos).1 : Nat)) (by omega))
          generalize (Utf8.decode s pos).1 = cx at *
          clear ha hh
          go_wp2_with fail
          refine (letter_c _ _).mono ?_
          rintro e w5 ⟨rfl, rfl⟩
          rw [HL.out]
          go_wp2
          try rw [Exit.noGoto_ret]
          go_ret
          exact ⟨by rw [HR.out]; rfl, HBI _⟩
      · have hnx : ∀ ty, (Instr.next (.pointer (some ⟨w.heap.size, 0, none⟩)) true ty).run Try.prog (w.iter s pos) = _ := fun ty => run_next_end w s pos ty hlt
        have HR := hid (HE.out (fun i hi => hp.out.2 i hi (by omega)))
        go_wp2
        try rw [Exit.noGoto_ret]
        go_ret
        exact ⟨by rw [HR.out]; rfl, HBI _⟩
  · have t1 : decide ((1 : Int) ≤ (s.size : Int)) = true := decide_eq_true (by omega)
    have t2 : decide (1 ≤ s.size) = true := decide_eq_true (by omega)
    have t3 : decide ((s.size : Int) ≤ 12) = false := decide_eq_false (by omega)
    have t4 : decide (s.size ≤ 12) = false := decide_eq_false (by omega)
    have HE := HF false (by rw [t2, t4]; rfl)
    clear HF h1 h2
    go_enter Try.func76, Try.ntmps76
    go_wp2_with fail
    go_step3
    go_wp2_with fail
    go_step3
    go_wp2_with fail
    go_loopw [3] (fun u3 w' => ∃ pos : Nat, w' = w.iter s pos ∧ u3 = .bool false ∧ Hid (pos ≤ s.size ∧ ∀ i, (hi : i < s.size) → i < pos → letB ((s[i]'hi).toNat : Nat) = true)) (fun _ w' => s.size - w'.iterPos w.heap.size)
    case atStart => exact ⟨0, rfl, rfl, hid ⟨Nat.zero_le _, fun i hi h => absurd h (by omega)⟩⟩
    case round =>
      obtain ⟨pos, rfl, rfl, hp⟩ := hrel
      by_cases hlt : pos < s.size
      · have hnx : ∀ ty, (Instr.next (.pointer (some ⟨w.heap.size, 0, none⟩)) true ty).run Try.prog (w.iter s pos) = _ := fun ty => run_next_any w s pos ty hlt
        by_cases ha : (s[pos]'hlt).toNat < 128
        · rw [decode_ascii s pos hlt ha] at hnx
          obtain ⟨x, hx⟩ : ∃ x, x = (s[pos]'hlt).toNat := ⟨_, rfl⟩
          rw [← hx] at hnx
          by_cases hl : letB (x : Nat) = true
          · have HN := hid (show pos + 1 ≤ s.size ∧ ∀ i, (hi : i < s.size) → i < pos + 1 → letB ((s[i]'hi).toNat : Nat) = true from ⟨hlt, fun i hi h => by
              by_cases e : i = pos
              · subst e; rw [← hx]; exact hl
              · exact hp.out.2 i hi (by omega)⟩)
            have HL := hid hl
            clear hl hx ha
            go_wp2_with fail
            refine (letter_c _ _).mono ?_
            rintro e w5 ⟨rfl, rfl⟩
            rw [HL.out]
            go_wp2_with fail
            go_roundw
            case rel => exact ⟨pos + 1, rfl, rfl, HN⟩
            case measure =>
              simp
              omega
          · have hlf : letB (x : Nat) = false := by simpa using hl
            have HR := hid (all_break hlt (by rw [← hx]; exact hlf))
            have HL := hid hlf
            clear hl hx ha hlf
            go_wp2_with fail
            refine (letter_c _ _).mono ?_
            rintro e w5 ⟨rfl, rfl⟩
            rw [HL.out]
            go_wp2
            try rw [Exit.noGoto_ret]
            go_ret
            exact ⟨by rw [HR.out]; rfl, HBI _⟩
        · have hh := decode_high s pos hlt (by omega)
          have HR := hid (all_break hlt (letB_high (by omega)))
          have HL := hid (letB_high (c := ((Utf8.decode s pos).1 : Nat)) (by omega))
          generalize (Utf8.decode s pos).1 = cx at *
          clear ha hh
          go_wp2_with fail
          refine (letter_c _ _).mono ?_
          rintro e w5 ⟨rfl, rfl⟩
          rw [HL.out]
          go_wp2
          try rw [Exit.noGoto_ret]
          go_ret
          exact ⟨by rw [HR.out]; rfl, HBI _⟩
      · have hnx : ∀ ty, (Instr.next (.pointer (some ⟨w.heap.size, 0, none⟩)) true ty).run Try.prog (w.iter s pos) = _ := fun ty => run_next_end w s pos ty hlt
        have HR := hid (HE.out (fun i hi => hp.out.2 i hi (by omega)))
        go_wp2
        try rw [Exit.noGoto_ret]
        go_ret
        exact ⟨by rw [HR.out]; rfl, HBI _⟩
def cellsP (q : Int × Int) : List Value := [.int .i64 q.1, .int .i64 q.2]
theorem cellsP_snoc (l : List (Int × Int)) (q : Int × Int) : (l ++ [q]).flatMap cellsP = l.flatMap cellsP ++ [.int .i64 q.1, .int .i64 q.2] := by simp [cellsP]
theorem cellsP_len (l : List (Int × Int)) : (l.flatMap cellsP).length = l.length * 2 := by
  induction l with
  | nil => rfl
  | cons x l ih => rw [List.flatMap_cons, List.length_append, ih, List.length_cons]; simp only [cellsP, List.length_cons, List.length_nil]; omega
theorem point_info : (Try.prog.info? 47).map (fun i => (i.zero, i.size, i.bytes)) = some (some (.agg #[.int .i64 0, .int .i64 0]), 2, 16) := by kernel_rfl
theorem info_parts3 {P : Program} {e : TypeId} {z : Value} {s b : Nat} (h : (P.info? e).map (fun i => (i.zero, i.size, i.bytes)) = some (some z, s, b)) : ∃ i, P.info? e = some i ∧ i.zero = some z ∧ i.size = s ∧ i.bytes = b := by
  cases hi : P.info? e with
  | none => rw [hi] at h; simp at h
  | some i => rw [hi] at h; simp at h; exact ⟨i, rfl, h.1, h.2.1, h.2.2⟩
theorem pair_new (w : World) (t v : Int) : Reads (w.alloc (.cells #[.int .i64 t, .int .i64 v] 47)) 47 2 (some ⟨w.heap.size, 0, none⟩) 1 [.int .i64 t, .int .i64 v] := by
  have k := Blk.new w 47 #[.int .i64 t, .int .i64 v]
  refine ⟨rfl, fun _ => ⟨_, rfl, k.typed, ?_⟩⟩
  intro j u hu
  match j, hu with
  | 0, hu => obtain rfl : Value.int .i64 t = u := by simpa using hu
             exact k.two.1
  | 1, hu => obtain rfl : Value.int .i64 v = u := by simpa using hu
             exact k.two.2.1
theorem below2' (w : World) (o1 o2 : Obj) {w1 : World} (hb : Below ((w.alloc o1).alloc o2).heap.size ((w.alloc o1).alloc o2) w1) : Below w.heap.size w w1 :=
  (((Below.refl _ _).alloc (Nat.le_refl _) o1).alloc (by simp) o2).trans (hb.mono (by simp; omega))
theorem below_dn {B : Nat} {w w' : World} (h : Below B w w') (q : Nat) : Below B w (w'.drewN q) := ⟨h.os, h.tape, h.output, h.size, h.block⟩
theorem own_low {W : World} {b b' size n : Nat} {e : TypeId} {v : Value} {xs : List Value} (h : W.ownsRow b e size v n xs) (hb : b' ≤ b) : W.ownsRow b' e size v n xs :=
  ⟨h.1, h.2.imp id fun ⟨g, cap, cur, h1, h2, h3⟩ => ⟨g, cap, cur, h1, Nat.le_trans hb h2, h3⟩⟩
theorem cellsP_at : ∀ (l : List (Int × Int)) (i : Nat), i < l.length → (l.flatMap cellsP)[i * 2]? = some (.int .i64 (l.getD i (0, 0)).1) ∧ (l.flatMap cellsP)[i * 2 + 1]? = some (.int .i64 (l.getD i (0, 0)).2)
  | [], i, h => by simp at h
  | x :: l, 0, _ => by simp [cellsP]
  | x :: l, i + 1, h => by
    have ih := cellsP_at l i (by simpa using h)
    rw [List.flatMap_cons]
    have e1 : (i + 1) * 2 = (cellsP x).length + i * 2 := by simp only [cellsP, List.length_cons, List.length_nil]; omega
    have e2 : (i + 1) * 2 + 1 = (cellsP x).length + (i * 2 + 1) := by simp only [cellsP, List.length_cons, List.length_nil]; omega
    rw [e2, e1, List.getElem?_append_right (by omega), List.getElem?_append_right (by omega), Nat.add_sub_cancel_left, Nat.add_sub_cancel_left]
    simpa using ih
theorem pts_len {w : World} {e : TypeId} {A : Option Addr} {n : Nat} {l : List (Int × Int)} (h : Reads w e 2 A n (l.flatMap cellsP)) : l.length = n := by
  have := h.1; rw [cellsP_len] at this; omega
theorem pts_at {w : World} {e : TypeId} {A : Option Addr} {n : Nat} {l : List (Int × Int)} (h : Reads w e 2 A n (l.flatMap cellsP)) {i : Nat} (hi : i < n) :
    ∃ ad, A = some ad ∧ w.cell? (ad.add (i * 2)) = some (.int .i64 (l.getD i (0, 0)).1) ∧ w.cell? ((ad.add (i * 2)).add 1) = some (.int .i64 (l.getD i (0, 0)).2) := by
  have hl := pts_len h
  obtain ⟨ad, e1, _, hc⟩ := h.2 (by omega)
  obtain ⟨c1, c2⟩ := cellsP_at l i (by omega)
  exact ⟨ad, e1, hc _ _ c1, by rw [add_of_add]; exact hc _ _ c2⟩
theorem take_stepP {xs ys : List (Int × Int)} {k : Nat} (h : xs.take k = ys.take k) (hx : k < xs.length) (hy : k < ys.length) (he : xs.getD k (0, 0) = ys.getD k (0, 0)) : xs.take (k + 1) = ys.take (k + 1) := by
  rw [List.take_succ_eq_append_getElem hx, List.take_succ_eq_append_getElem hy, h]
  rw [List.getD_eq_getElem?_getD, List.getD_eq_getElem?_getD, List.getElem?_eq_getElem hx, List.getElem?_eq_getElem hy] at he
  simp at he
  rw [he]
set_option maxHeartbeats 1000000 in
theorem equal_p {e1 e2 : TypeId} (A B : Option Addr) (n m c d : Nat) (xs ys : List (Int × Int)) (w : World) (hx : Reads w e1 2 A n (xs.flatMap cellsP)) (hy : Reads w e2 2 B m (ys.flatMap cellsP)) (hn : n ≤ 100000000) :
    Calls Try.prog 80 #[.slice A n c, .slice B m d] w fun e w' => e = .returned (.bool (decide (xs = ys))) ∧ ∃ q, w' = w.drewN q := by
  have hxl := pts_len hx
  have hyl := pts_len hy
  by_cases hnm : n = m
  · subst hnm
    have t0 : ((n : Int) != n) = false := by simp
    have HX := Lib.hid hx
    have HY := Lib.hid hy
    have HXL := Lib.hid hxl
    have HYL := Lib.hid hyl
    clear hx hy hxl hyl
    go_enter Try.func80, Try.ntmps80
    go_wp2
    go_loopw [13] (fun v wr => ∃ k : Nat, k ≤ n ∧ v = .int .i64 (k : Nat) ∧ (∃ q, wr = w.drewN q) ∧ xs.take k = ys.take k) (fun v _ => n - (intOf v).toNat)
    case atStart => exact ⟨0, Nat.zero_le _, rfl, ⟨0, rfl⟩, by simp⟩
    case round =>
      obtain ⟨k, hk, rfl, ⟨q, rfl⟩, heq⟩ := hrel
      have HE := Lib.hid heq
      clear heq
      by_cases hlt : k < n
      · obtain ⟨ad, rfl, cx, cx1⟩ := pts_at HX.out hlt
        obtain ⟨bd, rfl, cy, cy1⟩ := pts_at HY.out hlt
        have cx2 : w.cell? ⟨(ad.add (k * 2)).block, (ad.add (k * 2)).off + 1, none⟩ = _ := cx1
        have cy2 : w.cell? ⟨(bd.add (k * 2)).block, (bd.add (k * 2)).off + 1, none⟩ = _ := cy1
        clear cx1 cy1
        have hltI : (k : Int) < (n : Int) := by omega
        have h0I : (0 : Int) ≤ (k : Int) := by omega
        have hst := take_stepP HE.out (by rw [HXL.out]; exact hlt) (by rw [HYL.out]; exact hlt)
        have hne : xs.getD k (0, 0) ≠ ys.getD k (0, 0) → xs ≠ ys := fun h e => h (by rw [e])
        have HST := Lib.hid hst
        have HNE := Lib.hid hne
        clear hst hne
        generalize xs.getD k (0, 0) = x at *
        generalize ys.getD k (0, 0) = y at *
        obtain ⟨x1, x2⟩ := x
        obtain ⟨y1, y2⟩ := y
        by_cases hc1 : x1 = y1
        · by_cases hc2 : x2 = y2
          · have t1 : (x1 != y1) = false := by simp [hc1]
            have t2 : (x2 != y2) = false := by simp [hc2]
            have t3 : (x1 == y1) = true := by simp [hc1]
            have t4 : (x2 == y2) = true := by simp [hc2]
            have t5 : decide (x1 = y1) = true := by simp [hc1]
            have t6 : decide (x2 = y2) = true := by simp [hc2]
            have HC := Lib.hid (show (x1, x2) = (y1, y2) by rw [hc1, hc2])
            clear hc1 hc2
            go_wp2
            go_quiet (fail)
            go_wp2
            go_roundw
            case rel => exact ⟨k + 1, by omega, by go_num, ⟨_, rfl⟩, HST.out HC.out⟩
            case measure => simp [intOf]; omega
          · have t3 : (x1 == y1) = true := by simp [hc1]
            have t4 : (x2 == y2) = false := by simp [hc2]
            have t5 : decide (x1 = y1) = true := by simp [hc1]
            have t6 : decide (x2 = y2) = false := by simp [hc2]
            have HC := Lib.hid (HNE.out (fun e => hc2 (by injection e)))
            clear hc1 hc2
            go_wp2
            go_quiet (fail)
            go_wp2
            go_ret
            exact ⟨ret_b (by rw [eq_comm, decide_eq_false_iff_not]; exact HC.out), _, by rw [World.drewN_drewN]⟩
        · have t3 : (x1 == y1) = false := by simp [hc1]
          have t5 : decide (x1 = y1) = false := by simp [hc1]
          have HC := Lib.hid (HNE.out (fun e => hc1 (by injection e)))
          clear hc1
          go_wp2
          go_quiet (fail)
          go_wp2
          go_ret
          exact ⟨ret_b (by rw [eq_comm, decide_eq_false_iff_not]; exact HC.out), _, by rw [World.drewN_drewN]⟩
      · obtain rfl : k = n := by omega
        clear hlt
        go_wp2
        go_ret
        refine ⟨ret_b ?_, _, rfl⟩
        have h := HE.out
        rw [List.take_of_length_le (by rw [HXL.out]; exact Nat.le_refl _), List.take_of_length_le (by rw [HYL.out]; exact Nat.le_refl _)] at h
        rw [eq_comm, decide_eq_true_iff]
        exact h
  · have t0 : ((n : Int) != m) = true := by simp; omega
    have HN := Lib.hid (show xs ≠ ys from fun e => hnm (by rw [← hxl, ← hyl, e]))
    clear hx hy hxl hyl hnm
    go_enter Try.func80, Try.ntmps80
    go_wp2
    go_ret
    exact ⟨ret_b (by rw [eq_comm, decide_eq_false_iff_not]; exact HN.out), 0, rfl⟩
theorem byte_info : (Try.prog.info? 5).map (fun i => (i.zero, i.size, i.bytes)) = some (some (.int .u8 0), 1, 1) := by kernel_rfl
theorem nil_readsS {w : World} {e : TypeId} {s n : Nat} {xs : List Value} (h : Reads w e s none n xs) : n = 0 ∧ xs = [] := by
  rcases Nat.eq_zero_or_pos n with h0 | h0
  · exact ⟨h0, List.eq_nil_of_length_eq_zero (by rw [h.1, h0, Nat.zero_mul])⟩
  · obtain ⟨ad, h, _⟩ := h.2 h0
    cases h
theorem own_emptyS (w : World) (e : TypeId) (s : Nat) : (w.alloc (.cells #[] e)).ownsRow w.heap.size e s (.slice (some ⟨w.heap.size, 0, none⟩) 0 0) 0 [] :=
  ⟨by simp, .inr ⟨w.heap.size, 0, #[], rfl, Nat.le_refl _, heap_alloc_new w _, Nat.le_refl _, Nat.zero_le _, by simp, by simp⟩⟩
theorem wpList_append_anyS {P : Program} (w : World) {ops : Array Oper} {rest : List Oper} {o : Oper} {a : Act} {Q : Exit → Act → World → Prop} (hgd : o.guard = none) (s x : Operand) (t : TypeId)
    (ho : o.op = .call { callee := .builtin .append, args := #[s, x], argTypes := #[t, t] })
    (base : Nat) (e : TypeId) (i : TypeInfo) (z : Value) (size bytes : Nat) (ht : P.underlying t = some (.slice e)) (hi : P.info? e = some i) (hz : i.zero = some z)
    (hsize : i.size = size) (hby : i.bytes = bytes) (hzs : z.cells.size = size) (hsz : 0 < size)
    (v : Value) (n : Nat) (xs : List Value) (hs : a.eval s = v) (hown : w.ownsRow base e size v n xs)
    (e' : TypeId) (ad : Addr) (m c : Nat) (news : List Value) (hx : a.eval x = .slice (some ad) m c) (hr : Reads w e' size (some ad) m news) (h1 : ∀ u ∈ news, u.oneCell' = true)
    (h63 : n + m ≤ maxLen) (hbytes : (n + m) * bytes ≤ 140737488355328) (hbase : base ≤ w.heap.size)
    (h : ∀ v' w', w'.ownsRow base e size v' (n + m) (xs ++ news) → w.grownBy w' v.ownBlock → wpList P ops Q rest (a.put o.dst v') w') : wpList P ops Q (o :: rest) a w := by
  refine wpList_append_own _ hgd s x t ho base e i z size bytes ht hi hz hsize hby hzs hsz v n xs hs hown ad m c news hx hr.1 ?_ h1 h63 hbytes hbase (fun v' w' h2 h3 _ => h v' w' h2 h3)
  intro j u hu
  rcases Nat.eq_zero_or_pos m with h0 | h0
  · subst h0
    have hn : news = [] := List.eq_nil_of_length_eq_zero (by simpa using hr.1)
    subst hn
    simp at hu
  · obtain ⟨ad', h, _, hc⟩ := hr.2 h0
    injection h with h
    subst h
    exact hc j u hu
theorem cellsP_one (l : List (Int × Int)) : ∀ v ∈ l.flatMap cellsP, v.oneCell' = true := by
  intro v hv
  rw [List.mem_flatMap] at hv
  obtain ⟨q, _, hq⟩ := hv
  simp only [cellsP, List.mem_cons, List.not_mem_nil, or_false] at hq
  rcases hq with rfl | rfl <;> rfl
set_option maxHeartbeats 400000 in
theorem clone_p {e' : TypeId} (A : Option Addr) (n c : Nat) (l : List (Int × Int)) (w : World) (hb : Reads w e' 2 A n (l.flatMap cellsP)) (hn : n ≤ 100000000) :
    Calls Try.prog 37 #[.slice A n c] w fun e w' => ∃ C f, e = .returned (.slice C n f) ∧ w'.ownsRow w.heap.size 47 2 (.slice C n f) n (l.flatMap cellsP) ∧ Below w.heap.size w w' := by
  have q22 : ∀ (w : World) (a : Option Addr) (n c n' c' : Nat), (binOp .eql 40 (.slice a n c) (.slice none n' c')).run Try.prog w = .ok (.bool a.isNone) w := fun w a n c n' c' => Lib.run_eql_slice_nil w _ _ a n c n' c' Try.underlying40
  have HB := Lib.hid hb
  cases A with
  | none =>
    obtain ⟨rfl, h0⟩ := nil_readsS hb
    rw [h0]
    clear hb h0
    go_enter Try.func37, Try.ntmps37
    go_wp2
    go_ret
    exact ⟨none, 0, rfl, World.ownsRow_nil _ _ _ _, Below.refl _ _⟩
  | some ad =>
    clear hb
    obtain ⟨i0, hi0, hz0, hz1, hz2⟩ := info_parts3 point_info
    go_enter Try.func37, Try.ntmps37
    go_wp2_with (at_builtin; refine wpList_append_anyS _ rfl (.tmp 5) (.tmp 6) 40 rfl w.heap.size 47 i0 (.agg #[.int .i64 0, .int .i64 0]) 2 16 Try.underlying40 hi0 hz0 hz1 hz2 rfl (by decide) _ 0 [] rfl (own_emptyS w 47 2) e' ad n c (l.flatMap cellsP) rfl (HB.out.alloc _) (cellsP_one l) (by simp only [maxLen]; omega) (by omega) (by simp) ?_; intro v' w' hown' hg')
    rw [Nat.zero_add] at hown'
    obtain ⟨C, f, rfl, _, _⟩ := own_form hown'
    have hB : Below w.heap.size w w' := ((Below.refl _ w).alloc (Nat.le_refl _) _).grown hg' (by simp) (by intro k hk; cases hk; exact Nat.le_refl _)
    go_wp2
    go_ret
    exact ⟨C, f, rfl, by simpa using hown', hB⟩
theorem min_at {n m k : Nat} (hm : m = min n k) (kz : Int) (hk : kz = k) (w : World) : (Builtin.min_ #[3, 3] 3 #[.int .i64 (n : Int), .int .i64 kz]).run Try.prog w = .ok (.int .i64 (m : Nat)) w := by
  rw [run_min_int2]
  by_cases h : kz < (n : Int)
  · rw [if_pos h, hk, show m = k by omega]
  · rw [if_neg h, show m = n by omega]
theorem take_cells (l : List (Int × Int)) (k : Nat) : (l.flatMap cellsP).take (k * 2) = (l.take k).flatMap cellsP := by
  induction l generalizing k with
  | nil => simp
  | cons x l ih =>
    cases k with
    | zero => simp
    | succ k =>
      rw [List.take_succ_cons, List.flatMap_cons, List.flatMap_cons, ← ih k, show (k + 1) * 2 = (cellsP x).length + k * 2 by simp only [cellsP, List.length_cons, List.length_nil]; omega, List.take_length_add_append]
def RetV0 (w : World) (e : Ending) (w' : World) : Prop := ∃ C f, e = .returned (.slice C 0 f) ∧ w'.ownsRow w.heap.size 5 1 (.slice C 0 f) 0 [] ∧ Below w.heap.size w w'
set_option maxHeartbeats 1000000 in
theorem grow_b (n : Nat) (w : World) (hn : n ≤ 100000000) :
    Calls Try.prog 59 #[.slice none 0 0, .int .i64 n] w (RetV0 w) := by
  obtain ⟨i0, hi0, hz0, hz1, hz2⟩ := info_parts3 byte_info
  have h1 : ¬ ((n : Int) < 0) := by omega
  have h3 : wrap64 (n : Int) = (n : Int) := by unfold wrap64; omega
  rcases Nat.eq_zero_or_pos n with h0 | h0
  · subst h0
    have HF := hid (show RetV0 w (.returned (.slice none 0 0)) w from ⟨none, 0, rfl, World.ownsRow_nil _ _ _ _, Below.refl _ _⟩)
    clear h1 h3 hi0 hz0 hz1 hz2
    go_enter Try.func59, Try.ntmps59
    go_wp2_with fail
    go_ret
    exact HF.out
  · have h4 : (n : Int) > 0 := by omega
    have hold : ∀ w : World, (Builtin.firstCells i0.size 0 (.slice none 0 0)).run Try.prog w.drew = .ok ([] : List Value).toArray w.drew := fun w => run_firstCells_none w.drew i0.size 0 0 0
    obtain ⟨G, hG⟩ : ∃ G, G = grownCap w (0 + n) 0 5 := ⟨_, rfl⟩
    have hGn : 0 + n ≤ grownCap w (0 + n) 0 5 := grownCap_ge w _ _ _
    have hG63 := grownCap_le_maxLen w (0 + n) 0 5 (by unfold maxLen; omega)
    have hrz : ∀ ty, (Builtin.append_ #[31, 3] ty #[.slice none 0 0, .int .i64 (n : Int)]).run Try.prog w =
        .ok (.slice (some ⟨w.heap.size, 0, none⟩) n G) (w.drew.alloc (.cells (([] : List Value).toArray ++ Builtin.zeroCells (Value.int .u8 0).cells n ++ Builtin.zeroCells (Value.int .u8 0).cells (G - n)) 5)) := fun ty => by
      have h := Lib.run_append_grow_zeros w 31 3 ty 5 i0 (.int .u8 0) .i64 .i64 Try.underlying31 Try.underlying3 hi0 hz0 none 0 0 [] (hold w) n h0 (by rw [hz1]; decide) (by omega) (by omega)
        (by rw [hz2]; omega) (by exact growslice_fits (by omega) (by rw [hz2]; omega))
      rw [← hG] at h
      rw [Nat.zero_add] at h
      exact h
    rw [← hG, Nat.zero_add] at hGn
    rw [← hG] at hG63
    have hGI : G ≤ 9223372036854775807 := by unfold maxLen at hG63; omega
    have hsz : (([] : List Value).toArray ++ Builtin.zeroCells (Value.int .u8 0).cells n ++ Builtin.zeroCells (Value.int .u8 0).cells (G - n)).size = G * 1 := by
      simp [Builtin.zeroCells, Value.cells]
      omega
    generalize (([] : List Value).toArray ++ Builtin.zeroCells (Value.int .u8 0).cells n ++ Builtin.zeroCells (Value.int .u8 0).cells (G - n)) = cs at *
    have HF := hid (show RetV0 w (.returned (.slice (some ⟨w.heap.size, 0, none⟩) 0 G)) (w.drew.alloc (.cells cs 5)) from
      ⟨_, G, rfl, ⟨rfl, .inr ⟨w.heap.size, G, cs, rfl, Nat.le_refl _, heap_alloc_new w.drew _, Nat.zero_le _, hG63, hsz, by simp⟩⟩, (Below.refl w.heap.size w).drew.alloc (Nat.le_refl _) _⟩)
    have hG0 : (0 : Int) ≤ (G : Nat) := by omega
    clear hold hG hsz hG63 hi0 hz0 hz1 hz2 h0
    go_enter Try.func59, Try.ntmps59
    go_wp2_with (at_builtin; refine Lib.wpList_append_run _ rfl _ _ _ _ rfl _ _ rfl rfl _ _ (hrz _) ?_)
    all_goals (go_ret; exact HF.out)
/-- one of the slices that are joined -/
structure Part where
  A : Option Addr
  n : Nat
  c : Nat
  bs : List Nat
def cellS (q : Part) : Value := .slice q.A q.n q.c
def joined (L : List Part) : List Nat := L.flatMap Part.bs
theorem joined_succ {L : List Part} {i : Nat} (h : i < L.length) : joined (L.take (i + 1)) = joined (L.take i) ++ (L[i]).bs := by
  unfold joined
  rw [List.take_succ_eq_append_getElem h, List.flatMap_append]
  simp
theorem joined_le {L : List Part} {i : Nat} : (joined (L.take i)).length ≤ (joined L).length := by
  unfold joined
  conv => rhs; rw [← List.take_append_drop i L, List.flatMap_append, List.length_append]
  omega
set_option maxRecDepth 100000 in
set_option maxHeartbeats 2000000 in
theorem concat_b {eS : TypeId} (A : Option Addr) (k c : Nat) (L : List Part) (w : World) (hr : Reads w eS 1 A k (L.map cellS)) (hl : ∀ q ∈ L, Reads w 5 1 q.A q.n (bsV q.bs)) (htot : (joined L).length ≤ 1000000) (hk : k ≤ 1000000) :
    Calls Try.prog 23 #[.slice A k c] w (RetB (joined L) w) := by
  obtain ⟨i0, hi0, hz0, hz1, hz2⟩ := info_parts3 byte_info
  have HI := hid (And.intro hi0 (And.intro hz0 (And.intro hz1 hz2)))
  have hLk : L.length = k := by have := hr.1; simpa using this
  have HR := hid hr
  have HL := hid hl
  have HT := hid htot
  have HLK := hid hLk
  have HG := hid (fun w' => grow_b (joined L).length w' (by omega))
  clear hr hl htot hLk hi0 hz0 hz1 hz2
  go_enter Try.func23, Try.ntmps23
  go_wp2_with fail
  go_loopw [3, 11] (fun u3 u11 wr => ∃ i s : Nat, i ≤ k ∧ u11 = .int .i64 (i : Nat) ∧ u3 = .int .i64 (s : Nat) ∧ Hid (s = (joined (L.take i)).length) ∧ w = wr) (fun _ u11 _ => k - (intOf u11).toNat)
  case atStart => exact ⟨0, 0, Nat.zero_le _, rfl, rfl, hid rfl, rfl⟩
  case round =>
    obtain ⟨i, s, hi, rfl, rfl, hs, rfl⟩ := hrel
    by_cases hlt : i < k
    · obtain ⟨ad, u, rfl, hu, hc⟩ := HR.out.at_ hlt
      have hiL : i < L.length := by have := HLK.out; omega
      rw [List.getElem?_map, List.getElem?_eq_getElem hiL] at hu
      injection hu with hu
      have hq := HL.out _ (List.getElem_mem hiL)
      have hs1 := joined_succ hiL
      have hjl := joined_le (L := L) (i := i + 1)
      have hbl : (L[i]).bs.length = (L[i]).n := by have := hq.1; rw [bsV_len] at this; omega
      generalize L[i] = q at *
      obtain ⟨qa, qn, qc, qb⟩ := q
      subst hu
      have HS := hid (show s + qn = (joined (L.take (i + 1))).length ∧ s + qn ≤ 1000000 by
        have := hs.out
        have := HT.out
        rw [hs1, List.length_append] at hjl ⊢
        simp only at hbl hjl ⊢
        exact ⟨by omega, by omega⟩)
      replace hc : w.cell? (ad.add i) = some (.slice qa qn qc) := hc
      have hw : wrap64 ((s : Int) + (qn : Int)) = ((s + qn : Nat) : Int) := by have := HS.out.2; unfold wrap64; omega
      have hn0 : ¬ (((s + qn : Nat) : Int) < 0) := by omega
      have hsi : (i : Int) < (k : Int) := by omega
      have hsi0 : (0 : Int) ≤ (i : Int) := by omega
      clear hs hq hs1 hjl hbl hiL
      go_wp2_with fail
      go_roundw
      case rel => exact ⟨i + 1, s + qn, by omega, by go_num, by rw [hw], hid HS.out.1, trivial⟩
      case measure => simp [intOf]; omega
    · obtain rfl : i = k := by omega
      have hs' : s = (joined L).length := by have := hs.out; rw [List.take_of_length_le (by have := HLK.out; omega)] at this; exact this
      subst hs'
      clear hs hlt hi
      go_wp2_with fail
      refine (HG.out _).mono ?_
      rintro e w2 ⟨C, f, rfl, hown, hb⟩
      have HOW := hid hown
      have HB := hid hb
      clear hown hb HG
      go_wp2_with fail
      go_loopw [6, 27] (fun u6 u27 wr => ∃ (j : Nat) (acc : List Nat) (C : Option Addr) (f : Nat), j ≤ i ∧ u27 = .int .i64 (j : Nat) ∧ u6 = .slice C acc.length f ∧ Hid (acc = joined (L.take j)) ∧ wr.ownsRow w.heap.size 5 1 (.slice C acc.length f) acc.length (bsV acc) ∧ Below w.heap.size w wr) (fun _ u27 _ => i - (intOf u27).toNat)
      case atStart => exact ⟨0, [], C, f, Nat.zero_le _, rfl, rfl, hid rfl, HOW.out, HB.out⟩
      case round =>
        obtain ⟨j, acc, C, f, hj, rfl, rfl, hacc, hown, hb⟩ := hrel
        by_cases hlt : j < i
        · obtain ⟨ad, u, rfl, hu, hc⟩ := (HR.out.below hb).at_ hlt
          have hiL : j < L.length := by have := HLK.out; omega
          rw [List.getElem?_map, List.getElem?_eq_getElem hiL] at hu
          injection hu with hu
          have hq := (HL.out _ (List.getElem_mem hiL)).below hb
          have hs1 := joined_succ hiL
          have hjl := joined_le (L := L) (i := j + 1)
          have hbl : (L[j]).bs.length = (L[j]).n := by have := hq.1; rw [bsV_len] at this; omega
          generalize L[j] = q at *
          obtain ⟨qa, qn, qc, qb⟩ := q
          subst hu
          simp only at hbl hq
          subst hbl
          have HS := hid (show acc ++ qb = joined (L.take (j + 1)) ∧ acc.length + qb.length ≤ 1000000 by
            have h1 := hacc.out
            have := HT.out
            rw [hs1] at hjl ⊢
            rw [← h1] at hjl ⊢
            rw [List.length_append] at hjl
            simp only at hjl
            exact ⟨rfl, by omega⟩)
          replace hc : wr.cell? (ad.add j) = some (.slice qa qb.length qc) := hc
          have HQ := hid hq
          have HB := hid hb
          have HOWN := hid hown
          have hsi : (j : Int) < (i : Int) := by omega
          have hsi0 : (0 : Int) ≤ (j : Int) := by omega
          clear hq hs1 hjl hiL hacc hb hown
          go_wp2_with (at_builtin; refine wpList_append_any _ rfl (.tmp 31) (.tmp 32) 31 rfl w.heap.size 5 i0 (.int .u8 0) 1 1 Try.underlying31 HI.out.1 HI.out.2.1 HI.out.2.2.1 HI.out.2.2.2 rfl (by decide) (.slice C acc.length f) acc.length (bsV acc) rfl HOWN.out qa qb.length qc (bsV qb) rfl HQ.out (bsV_one _) (by have := HS.out.2; simp only [maxLen]; omega) (by have := HS.out.2; omega) HB.out.size ?_; intro v' w' hown' hg' hv')
          obtain ⟨C3, f3, rfl, _, _⟩ := own_form hown'
          have hb6 := HB.out.grown hg' HB.out.size (fun k hk => (HOWN.out.lt k hk).1)
          rw [← bsV_app, ← List.length_append] at hown'
          rw [← List.length_append]
          have HO2 := hid hown'
          have HB2 := hid hb6
          clear hg' hv' hown' hb6 hc
          go_wp2_with fail
          go_roundw
          case rel => exact ⟨j + 1, acc ++ qb, C3, f3, by omega, by go_num, rfl, hid HS.out.1, HO2.out, HB2.out⟩
          case measure => simp [intOf]; omega
        · obtain rfl : j = i := by omega
          have HF := hid (show RetB (joined L) w (.returned (.slice C acc.length f)) wr by
            have e : acc = joined L := by rw [hacc.out, List.take_of_length_le (by have := HLK.out; omega)]
            rw [e] at hown ⊢
            exact ⟨C, f, rfl, hown, hb⟩)
          clear hlt hown hb hacc
          go_wp2_with fail
          go_ret
          exact HF.out
/-- a text of bytes -/
abbrev strN (l : List Nat) : ByteArray := strOfNums (l.map fun x : Nat => (x : Int))
def nameL (bs : List Nat) : Nat → Nat → List Nat → Except Int (List Nat × Nat)
  | 0, z, acc => .ok (acc, z)
  | k + 1, z, acc => if z < bs.length then (if letB (bs.getD z 0 : Nat) = true then nameL bs k (z + 1) (acc ++ [bs.getD z 0]) else .error 7) else .error 6
def nameS (bs : List Nat) (z : Nat) : Except Int (List Nat × Nat) :=
  if z < bs.length then (if 1 ≤ bs.getD z 0 ∧ bs.getD z 0 ≤ 12 then nameL bs (bs.getD z 0) (z + 1) [] else .error 7) else .error 6
theorem But.then_ {g : Nat} {w wr w' : World} (h : But g w wr) (hb : Below w.heap.size wr w') : But g w w' :=
  ⟨hb.os.trans h.os, hb.tape.trans h.tape, hb.output.trans h.output, Nat.le_trans h.size hb.size, fun i hi hn => (hb.block i hi).trans (h.block i hi hn)⟩
theorem getD_byte {bs : List Nat} (h : ∀ x ∈ bs, x < 256) {z : Nat} (hz : z < bs.length) : bs.getD z 0 < 256 := by
  rw [List.getD_eq_getElem?_getD, List.getElem?_eq_getElem hz]
  exact h _ (List.getElem_mem hz)
end Go.Proofs.Ytgdnpmjmkcccoaa
