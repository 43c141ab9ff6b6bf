/- Contracts of record: letter, time, value, need, one, plain, signed (seat Record). -/
import Derived.Test.YtedojdbihajnbaaVarT
import Derived.Test.YtedojdbihajnbaaVarY
import Derived.Test.YtedojdbihajnbaaBut
import Derived.WalkLawsBesides
import Derived.Deep.RegionHeld3
namespace Go.Proofs.Ytedojdbihajnbaa
open Go.RowKit Go.Shelf VB
open Go.Lib (hid)
set_option linter.unusedVariables false
set_option linter.unusedSimpArgs false
/-- may a name have a byte? -/
def letB (c : Int) : Bool := decide (97 ≤ c) && decide (c ≤ 122) || decide (48 ≤ c) && decide (c ≤ 57)
def timeB (t : Int) : Bool := decide (0 ≤ t) && decide (t ≤ 281474976710656)
def valB (v : Int) : Bool := decide (-2305843009213693952 ≤ v) && decide (v ≤ 2305843009213693952)
set_option maxHeartbeats 400000 in
theorem letter_c (c : Int) (w : World) : Calls Try.prog 38 #[.int .i32 c] w fun e w' => e = .returned (.bool (letB c)) ∧ w = w' := by
  unfold letB
  by_cases h1 : 97 ≤ c <;> by_cases h2 : c ≤ 122 <;> by_cases h3 : 48 ≤ c <;> by_cases h4 : c ≤ 57 <;> simp only [h1, h2, h3, h4, decide_true, decide_false, Bool.and_true, Bool.and_false, Bool.true_and, Bool.false_and, Bool.or_true, Bool.or_false, Bool.true_or, Bool.false_or]
  all_goals
    go_enter Try.func38, Try.ntmps38
    go_wp2
    go_ret
    exact ⟨rfl, rfl⟩
set_option maxHeartbeats 400000 in
theorem time_c (t : Int) (w : World) : Calls Try.prog 33 #[.int .i64 t] w fun e w' => e = .returned (.bool (timeB t)) ∧ w = w' := by
  unfold timeB
  by_cases h1 : 0 ≤ t <;> by_cases h2 : t ≤ 281474976710656 <;> simp only [h1, h2, decide_true, decide_false, Bool.and_true, Bool.and_false]
  all_goals
    go_enter Try.func33, Try.ntmps33
    go_wp2
    go_ret
    exact ⟨rfl, rfl⟩
set_option maxHeartbeats 400000 in
theorem value_c (v : Int) (w : World) : Calls Try.prog 34 #[.int .i64 v] w fun e w' => e = .returned (.bool (valB v)) ∧ w = w' := by
  unfold valB
  by_cases h1 : -2305843009213693952 ≤ v <;> by_cases h2 : v ≤ 2305843009213693952 <;> simp only [h1, h2, decide_true, decide_false, Bool.and_true, Bool.and_false]
  all_goals
    go_enter Try.func34, Try.ntmps34
    go_wp2
    go_ret
    exact ⟨rfl, rfl⟩
/-- how a function leaves with an error -/
abbrev thrown (c : Int) : Ending := .panicked [{ v := .iface 27 (.int .i64 c), recovered := false }]
theorem need_t (c : Int) (w : World) : Calls Try.prog 51 #[.bool true, .int .i64 c] w fun e w' => e = .returned (.tuple #[]) ∧ w = w' := by
  go_enter Try.func51, Try.ntmps51
  go_wp2
  go_end0
  exact ⟨rfl, rfl⟩
theorem need_f (c : Int) (w : World) : Calls Try.prog 51 #[.bool false, .int .i64 c] w fun e w' => e = thrown c ∧ w = w' := by
  go_enter Try.func51, Try.ntmps51
  go_wp2
  exact ⟨rfl, rfl, rfl⟩
/-- the tape's cells -/
abbrev tapeC (k : Int) (nm : ByteArray) (ep fl sc : Int) (P : Value) (B : Option Addr) (n c : Nat) (z : Int) : Array Value := #[.int .i64 k, .string nm, .int .i64 ep, .int .i64 fl, .int .i64 sc, P, .slice B n c, .int .i64 z]
theorem Blk.tape {w : World} {g : Nat} {t : TypeId} {k : Int} {nm : ByteArray} {ep fl sc : Int} {P : Value} {B : Option Addr} {n c : Nat} {z : Int} (h : Blk w g t (tapeC k nm ep fl sc P B n c z)) :
    w.cell? ⟨g, 6, none⟩ = some (.slice B n c) ∧ w.cell? ⟨g, 7, none⟩ = some (.int .i64 z) ∧ w.frozen? ⟨g, 6, none⟩ = false ∧ w.frozen? ⟨g, 7, none⟩ = false ∧ g < w.heap.size :=
  ⟨h.cell 6, h.cell 7, h.frozen 6, h.frozen 7, h.lt⟩
/-- the bytes that are read -/
structure Src (w : World) (B : Option Addr) (n c : Nat) (bs : List Nat) : Prop where
  reads : Reads w 5 1 B n (bsV bs)
  hn : n ≤ 1000000
  hc : n ≤ c
  hcm : c ≤ maxLen
  hbs : ∀ x ∈ bs, x < 256
theorem Src.len {w : World} {B : Option Addr} {n c : Nat} {bs : List Nat} (h : Src w B n c bs) : bs.length = n := by have := h.reads.1; rw [bsV_len] at this; omega
theorem Src.drew {w : World} {B : Option Addr} {n c : Nat} {bs : List Nat} (h : Src w B n c bs) : Src w.drew B n c bs := ⟨h.reads.drew, h.hn, h.hc, h.hcm, h.hbs⟩
theorem Src.alloc {w : World} {B : Option Addr} {n c : Nat} {bs : List Nat} (h : Src w B n c bs) (o : Obj) : Src (w.alloc o) B n c bs := ⟨h.reads.alloc o, h.hn, h.hc, h.hcm, h.hbs⟩
theorem Src.below {w w' : World} {B : Option Addr} {n c : Nat} {bs : List Nat} (h : Src w B n c bs) (hb : Below w.heap.size w w') : Src w' B n c bs := ⟨h.reads.below hb, h.hn, h.hc, h.hcm, h.hbs⟩
theorem Src.but {w w' : World} {B : Option Addr} {n c : Nat} {bs : List Nat} {g : Nat} (h : Src w B n c bs) (hb : But g w w') (ht : Typed w g 64) : Src w' B n c bs := ⟨h.reads.but hb ht (by decide), h.hn, h.hc, h.hcm, h.hbs⟩
/-- what a method of the tape hands back, and leaves -/
def RetV (v : Value) (g : Nat) (cs : Array Value) (w : World) (e : Ending) (w' : World) : Prop := e = .returned v ∧ But g w w' ∧ Blk w' g 64 cs
def RetX (x : Int) (g : Nat) (w : World) (e : Ending) (w' : World) : Prop := e = thrown x ∧ But g w w'
theorem tape_set {w : World} {g : Nat} {k : Int} {nm : ByteArray} {ep fl sc : Int} {P : Value} {B : Option Addr} {n c : Nat} {z : Int} (h : Blk w g 64 (tapeC k nm ep fl sc P B n c z)) (y : Int) : Blk (w.setCell ⟨g, 7, none⟩ (.int .i64 y)) g 64 (tapeC k nm ep fl sc P B n c y) := h.set_ 7 _
section
variable {w : World} {g : Nat} {k : Int} {nm : ByteArray} {ep fl sc : Int} {P : Value} {B : Option Addr} {n c : Nat} {bs : List Nat}
set_option maxHeartbeats 400000 in
theorem one_ok {z : Nat} (kt : Blk w g 64 (tapeC k nm ep fl sc P B n c z)) (hs : Src w B n c bs) (hz : z < n) :
    Calls Try.prog 67 #[.pointer (some ⟨g, 0, none⟩)] w (RetV (.int .u8 (bs.getD z 0 : Nat)) g (tapeC k nm ep fl sc P B n c ((z : Int) + 1)) w) := by
  have hn := hs.hn
  obtain ⟨ad, rfl, hc⟩ := bsV_at hs.reads hz
  have kt2 := tape_set kt ((z : Int) + 1)
  have hs2 := hs.but ((But.refl g w).setg 7 (.int .i64 ((z : Int) + 1))) kt.typed
  have hbut := (But.refl g w).setg 7 (.int .i64 ((z : Int) + 1))
  obtain ⟨c0, c1, f0, f1, hl⟩ := kt.tape
  have hw : IntKind.i64.wrap (z : Int) = (z : Int) := by rw [IntKind.wrap_i64]; omega
  have hzi : (z : Int) < n := by omega
  have hz0 : (0 : Int) ≤ z := by omega
  clear hc hs
  go_enter Try.func67, Try.ntmps67
  go_wp2_with fail
  go_region_held3 (fun w' => w'.cell? ⟨g, 6, none⟩ = some (.slice (some ad) n c) ∧ w'.cell? ⟨g, 7, none⟩ = some (.int .i64 z))
    (exact ⟨c0, c1⟩)
    (first | (go_at_call 51; refine (need_t _ _).mono ?_; rintro e w2 ⟨rfl, rfl⟩))
  go_upto_region 3 with fail
  clear c0 c1 f0 f1 hl
  generalize w.setCell ⟨g, 7, none⟩ (.int .i64 ((z : Int) + 1)) = w2 at *
  obtain ⟨ad', e1, hc⟩ := bsV_at hs2.reads hz
  cases e1
  obtain ⟨c0, c1, f0, f1, hl⟩ := kt2.tape
  have hzc : z < c := Nat.lt_of_lt_of_le hz hs2.hc
  clear hs2
  go_region_held3 (fun w' => w'.cell? ⟨g, 6, none⟩ = some (.slice (some ad) n c) ∧ w'.cell? ⟨g, 7, none⟩ = some (.int .i64 ((z : Int) + 1)) ∧ w'.cell? (ad.add z) = some (.int .u8 (bs.getD z 0 : Nat)))
    (exact ⟨c0, c1, hc⟩)
    (fail)
  go_wp2
  go_ret
  exact ⟨rfl, hbut.drew.drew, kt2⟩
set_option maxHeartbeats 400000 in
theorem one_no {z : Nat} (kt : Blk w g 64 (tapeC k nm ep fl sc P B n c z)) (hz : n ≤ z) :
    Calls Try.prog 67 #[.pointer (some ⟨g, 0, none⟩)] w (RetX 6 g w) := by
  obtain ⟨c0, c1, f0, f1, hl⟩ := kt.tape
  have hd : decide ((z : Int) < (n : Int)) = false := decide_eq_false (by omega)
  have hd2 : decide (z < n) = false := decide_eq_false (by omega)
  have hd3 : ¬ z < n := by omega
  clear kt
  go_enter Try.func67, Try.ntmps67
  go_wp2_with fail
  refine wp_region_held_drew (S := (fun w' => w'.cell? ⟨g, 6, none⟩ = some (.slice B n c) ∧ w'.cell? ⟨g, 7, none⟩ = some (.int .i64 z))) (by kernel_rfl) ⟨c0, c1⟩ (fun hHeld => ?_)
  refine wpAnyH_take (i := 0) (v := ?_) rfl (by kernel_rfl) (by kernel_rfl) (by kernel_rfl) (fun _ _ _ h => h) (Or.inl ⟨by rfl, ?_⟩) (by assumption) ?_
  rotate_left
  · intro W hW
    obtain ⟨y0, y1⟩ := hW
    go_simp
    try rfl
  simp only [List.getElem_toArray, List.getElem_cons_zero, Act.put, List.setIfInBounds_toArray, List.set_cons_zero, List.set_cons_succ]
  refine wpAnyH_take (i := 1) (v := ?_) rfl (by kernel_rfl) (by kernel_rfl) (by kernel_rfl) (fun _ _ _ h => h) (Or.inl ⟨by rfl, ?_⟩) (by assumption) ?_
  rotate_left
  · intro W hW
    obtain ⟨y0, y1⟩ := hW
    go_simp
    try rfl
  simp only [List.getElem_toArray, List.getElem_cons_succ, List.getElem_cons_zero, Act.put, List.setIfInBounds_toArray, List.set_cons_zero, List.set_cons_succ]
  refine wpAnyH_take (i := 2) (v := ?_) rfl (by kernel_rfl) (by kernel_rfl) (by kernel_rfl) (fun _ _ _ h => h) (Or.inl ⟨by rfl, ?_⟩) (by assumption) ?_
  rotate_left
  · intro W hW
    obtain ⟨y0, y1⟩ := hW
    go_simp
    try rfl
  simp only [List.getElem_toArray, List.getElem_cons_succ, List.getElem_cons_zero, Act.put, List.setIfInBounds_toArray, List.set_cons_zero, List.set_cons_succ]
  refine wpAnyH_take (i := 3) (v := ?_) rfl (by kernel_rfl) (by kernel_rfl) (by kernel_rfl) (fun _ _ _ h => h) (Or.inl ⟨by rfl, ?_⟩) (by assumption) ?_
  rotate_left
  · intro W hW
    obtain ⟨y0, y1⟩ := hW
    go_simp
    try rfl
  simp only [List.getElem_toArray, List.getElem_cons_succ, List.getElem_cons_zero, Act.put, List.setIfInBounds_toArray, List.set_cons_zero, List.set_cons_succ]
  refine wpAnyH_take (i := 4) (v := ?_) rfl (by kernel_rfl) (by kernel_rfl) (by kernel_rfl) (fun _ _ _ h => h) (Or.inl ⟨by rfl, ?_⟩) (by assumption) ?_
  rotate_left
  · intro W hW
    obtain ⟨y0, y1⟩ := hW
    go_simp
    try rfl
  simp only [List.getElem_toArray, List.getElem_cons_succ, List.getElem_cons_zero, Act.put, List.setIfInBounds_toArray, List.set_cons_zero, List.set_cons_succ]
  refine wpAnyH_take (i := 5) (v := ?_) rfl (by kernel_rfl) (by kernel_rfl) (by kernel_rfl) (fun _ _ _ h => h) (Or.inl ⟨by rfl, ?_⟩) (by assumption) ?_
  rotate_left
  · intro W hW
    obtain ⟨y0, y1⟩ := hW
    go_simp
    try rfl
  simp only [List.getElem_toArray, List.getElem_cons_succ, List.getElem_cons_zero, Act.put, List.setIfInBounds_toArray, List.set_cons_zero, List.set_cons_succ]
  refine wpAnyH_take (i := 6) (v := ?_) rfl (by kernel_rfl) (by kernel_rfl) (by kernel_rfl) (fun _ _ _ h => h) (Or.inl ⟨by rfl, ?_⟩) (by assumption) ?_
  rotate_left
  · intro W hW
    obtain ⟨y0, y1⟩ := hW
    go_simp
    try rfl
  simp only [List.getElem_toArray, List.getElem_cons_succ, List.getElem_cons_zero, Act.put, List.setIfInBounds_toArray, List.set_cons_zero, List.set_cons_succ]
  refine wpAnyH_take (i := 7) (v := ?_) rfl (by kernel_rfl) (by kernel_rfl) (by kernel_rfl) (fun _ _ _ h => h) (Or.inl ⟨by rfl, ?_⟩) (by assumption) ?_
  rotate_left
  · intro W hW
    obtain ⟨y0, y1⟩ := hW
    go_simp
    try rfl
  simp only [List.getElem_toArray, List.getElem_cons_succ, List.getElem_cons_zero, Act.put, List.setIfInBounds_toArray, List.set_cons_zero, List.set_cons_succ]
  refine wpAnyH_take (i := 8) (v := ?_) rfl (by kernel_rfl) (by kernel_rfl) (by kernel_rfl) (fun _ _ _ h => h) (Or.inl ⟨by rfl, ?_⟩) (by assumption) ?_
  rotate_left
  · intro W hW
    obtain ⟨y0, y1⟩ := hW
    go_simp
    try rfl
  simp only [List.getElem_toArray, List.getElem_cons_succ, List.getElem_cons_zero, Act.put, List.setIfInBounds_toArray, List.set_cons_zero, List.set_cons_succ]
  refine wpAnyH_take (i := 9) (v := ?_) rfl (by kernel_rfl) (by kernel_rfl) (by kernel_rfl) (fun _ _ _ h => h) (Or.inl ⟨by rfl, ?_⟩) (by assumption) ?_
  rotate_left
  · intro W hW
    obtain ⟨y0, y1⟩ := hW
    go_simp
    try rfl
  simp only [List.getElem_toArray, List.getElem_cons_succ, List.getElem_cons_zero, Act.put, List.setIfInBounds_toArray, List.set_cons_zero, List.set_cons_succ]
  refine wpAnyH_ready (rs := [10]) (by kernel_rfl) (by simp) ?_
  refine AllReadyH.cons rfl (fun K hK => ?_) AllReadyH.nil
  go_simp
  refine (need_f _ _).mono ?_
  rintro e w2 ⟨rfl, rfl⟩
  exact ⟨rfl, rfl, (But.refl g w).drew⟩
/-- a number without a sign, at most so great -/
def plainS (bs : List Nat) (most z : Nat) : Except Int (Nat × Nat) :=
  if (gotN bs z).2.2 = 0 then (if (gotN bs z).1 ≤ most then .ok ((gotN bs z).1, (gotN bs z).2.1) else .error 7) else .error (gotN bs z).2.2
/-- a number with a sign -/
def signS (bs : List Nat) (z : Nat) : Except Int (Int × Nat) :=
  if (gotN bs z).2.2 = 0 then .ok (unf (gotN bs z).1, (gotN bs z).2.1) else .error (gotN bs z).2.2
theorem plainS_ok {most z v p : Nat} (h : plainS bs most z = .ok (v, p)) : gotN bs z = (v, p, 0) ∧ v ≤ most := by
  unfold plainS at h
  split at h
  · rename_i h0
    split at h
    · rename_i h1
      injection h with h
      injection h with h2 h3
      refine ⟨?_, h2 ▸ h1⟩
      rw [← h2, ← h3, ← h0]
    · cases h
  · cases h
theorem plainS_er {most z : Nat} {x : Int} (h : plainS bs most z = .error x) : (∃ v p, gotN bs z = (v, p, x) ∧ x ≠ 0) ∨ (∃ v p, gotN bs z = (v, p, 0) ∧ most < v ∧ x = 7) := by
  unfold plainS at h
  split at h
  · rename_i h0
    split at h
    · cases h
    · rename_i h1
      injection h with h
      exact .inr ⟨_, _, by rw [← h0], by omega, h.symm⟩
  · rename_i h0
    injection h with h
    exact .inl ⟨_, _, by rw [← h], by rw [← h]; exact h0⟩
theorem signS_ok {z p : Nat} {v : Int} (h : signS bs z = .ok (v, p)) : ∃ u, gotN bs z = (u, p, 0) ∧ v = unf u := by
  unfold signS at h
  split at h
  · rename_i h0
    injection h with h
    injection h with h2 h3
    exact ⟨_, by rw [← h3, ← h0], h2.symm⟩
  · cases h
theorem signS_er {z : Nat} {x : Int} (h : signS bs z = .error x) : ∃ v p, gotN bs z = (v, p, x) ∧ x ≠ 0 := by
  unfold signS at h
  split at h
  · cases h
  · rename_i h0
    injection h with h
    exact ⟨_, _, by rw [← h], by rw [← h]; exact h0⟩
theorem GetU_s {z : Nat} (hs : Src w B n c bs) {v p : Nat} {x : Int} (h : gotN bs z = (v, p, x)) : Calls Try.prog 50 #[.slice B n c, .int .i64 z] w fun e w' => e = .returned (.tuple #[.int .u64 (v : Nat), .int .i64 (p : Nat), .int .i64 x]) ∧ w = w' := by
  have := GetU_c B n c z bs w hs.reads hs.hn hs.hc hs.hcm hs.hbs
  rw [h] at this; exact this
theorem Get_s {z : Nat} (hs : Src w B n c bs) {v p : Nat} {x : Int} (h : gotN bs z = (v, p, x)) : Calls Try.prog 83 #[.slice B n c, .int .i64 z] w fun e w' => e = .returned (.tuple #[.int .i64 (unf v), .int .i64 (p : Nat), .int .i64 x]) ∧ w = w' := by
  have := Get_c B n c z bs w hs.reads hs.hn hs.hc hs.hcm hs.hbs
  rw [h] at this; exact this
set_option maxHeartbeats 400000 in
theorem plain_ok {most z v p : Nat} (kt : Blk w g 64 (tapeC k nm ep fl sc P B n c z)) (hs : Src w B n c bs) (h : plainS bs most z = .ok (v, p)) (hm : most ≤ 4611686018427387904) :
    Calls Try.prog 77 #[.pointer (some ⟨g, 0, none⟩), .int .u64 (most : Nat)] w (RetV (.int .i64 (v : Nat)) g (tapeC k nm ep fl sc P B n c p) w) := by
  obtain ⟨h1, h2⟩ := plainS_ok h
  have HG := hid (fun w hs => GetU_s (w := w) (B := B) (n := n) (c := c) hs h1)
  have hs1 := hs.drew
  have hv : IntKind.i64.wrap (v : Int) = v := by rw [IntKind.wrap_i64]; omega
  have hle : decide ((v : Int) ≤ (most : Int)) = true := decide_eq_true (by omega)
  obtain ⟨c0, c1, f0, f1, hl⟩ := kt.tape
  have HB := hid ((But.refl g w).drew.setg 7 (.int .i64 (p : Nat)))
  have HK := hid (tape_set (z := z) (w := w.drew) kt (p : Nat))
  clear h h1 hs kt hm
  go_enter Try.func77, Try.ntmps77
  go_wp2_with fail
  go_region_held3 (fun w' => w'.cell? ⟨g, 6, none⟩ = some (.slice B n c) ∧ w'.cell? ⟨g, 7, none⟩ = some (.int .i64 z))
    (exact ⟨c0, c1⟩)
    (first | (go_at_call 50; refine (HG.out _ hs1).mono ?_; rintro e w2 ⟨rfl, rfl⟩))
  go_wp2_with fail
  refine (need_t _ _).mono ?_
  rintro e w2 ⟨rfl, rfl⟩
  go_wp2_with fail
  refine (need_t _ _).mono ?_
  rintro e w2 ⟨rfl, rfl⟩
  go_wp2
  go_ret
  exact ⟨rfl, HB.out, HK.out⟩
set_option maxHeartbeats 400000 in
theorem plain_er {most z : Nat} {x : Int} (kt : Blk w g 64 (tapeC k nm ep fl sc P B n c z)) (hs : Src w B n c bs) (h : plainS bs most z = .error x) :
    Calls Try.prog 77 #[.pointer (some ⟨g, 0, none⟩), .int .u64 (most : Nat)] w (RetX x g w) := by
  have hs1 := hs.drew
  obtain ⟨c0, c1, f0, f1, hl⟩ := kt.tape
  have HB := hid ((But.refl g w).drew)
  rcases plainS_er h with ⟨v, p, h1, hx⟩ | ⟨v, p, h1, h2, rfl⟩
  · have HG := hid (fun w hs => GetU_s (w := w) (B := B) (n := n) (c := c) hs h1)
    have hx1 : (x == 0) = false := beq_eq_false_iff_ne.2 hx
    have hx2 : decide (x = 0) = false := decide_eq_false hx
    clear h h1 hs kt hx
    go_enter Try.func77, Try.ntmps77
    go_wp2_with fail
    go_region_held3 (fun w' => w'.cell? ⟨g, 6, none⟩ = some (.slice B n c) ∧ w'.cell? ⟨g, 7, none⟩ = some (.int .i64 z))
      (exact ⟨c0, c1⟩)
      (first | (go_at_call 50; refine (HG.out _ hs1).mono ?_; rintro e w2 ⟨rfl, rfl⟩))
    go_wp2_with fail
    refine (need_f _ _).mono ?_
    rintro e w2 ⟨rfl, rfl⟩
    exact ⟨rfl, rfl, HB.out⟩
  · have HG := hid (fun w hs => GetU_s (w := w) (B := B) (n := n) (c := c) hs h1)
    have hle : decide ((v : Int) ≤ (most : Int)) = false := decide_eq_false (by omega)
    have hle2 : decide (v ≤ most) = false := decide_eq_false (by omega)
    have hle3 : ¬ v ≤ most := by omega
    clear h h1 hs kt h2
    go_enter Try.func77, Try.ntmps77
    go_wp2_with fail
    go_region_held3 (fun w' => w'.cell? ⟨g, 6, none⟩ = some (.slice B n c) ∧ w'.cell? ⟨g, 7, none⟩ = some (.int .i64 z))
      (exact ⟨c0, c1⟩)
      (first | (go_at_call 50; refine (HG.out _ hs1).mono ?_; rintro e w2 ⟨rfl, rfl⟩))
    go_wp2_with fail
    refine (need_t _ _).mono ?_
    rintro e w2 ⟨rfl, rfl⟩
    go_wp2_with fail
    refine (need_f _ _).mono ?_
    rintro e w2 ⟨rfl, rfl⟩
    exact ⟨rfl, rfl, HB.out⟩
set_option maxHeartbeats 400000 in
theorem signed_ok {z p : Nat} {v : Int} (kt : Blk w g 64 (tapeC k nm ep fl sc P B n c z)) (hs : Src w B n c bs) (h : signS bs z = .ok (v, p)) :
    Calls Try.prog 78 #[.pointer (some ⟨g, 0, none⟩)] w (RetV (.int .i64 v) g (tapeC k nm ep fl sc P B n c p) w) := by
  obtain ⟨u, h1, rfl⟩ := signS_ok h
  have HG := hid (fun w hs => Get_s (w := w) (B := B) (n := n) (c := c) hs h1)
  have hs1 := hs.drew
  obtain ⟨c0, c1, f0, f1, hl⟩ := kt.tape
  have HB := hid ((But.refl g w).drew.setg 7 (.int .i64 (p : Nat)))
  have HK := hid (tape_set (z := z) (w := w.drew) kt (p : Nat))
  clear h h1 hs kt
  generalize unf u = v at *
  go_enter Try.func78, Try.ntmps78
  go_wp2_with fail
  go_region_held3 (fun w' => w'.cell? ⟨g, 6, none⟩ = some (.slice B n c) ∧ w'.cell? ⟨g, 7, none⟩ = some (.int .i64 z))
    (exact ⟨c0, c1⟩)
    (first | (go_at_call 83; refine (HG.out _ hs1).mono ?_; rintro e w2 ⟨rfl, rfl⟩))
  go_wp2_with fail
  refine (need_t _ _).mono ?_
  rintro e w2 ⟨rfl, rfl⟩
  go_wp2
  go_ret
  exact ⟨rfl, HB.out, HK.out⟩
set_option maxHeartbeats 400000 in
theorem signed_er {z : Nat} {x : Int} (kt : Blk w g 64 (tapeC k nm ep fl sc P B n c z)) (hs : Src w B n c bs) (h : signS bs z = .error x) :
    Calls Try.prog 78 #[.pointer (some ⟨g, 0, none⟩)] w (RetX x g w) := by
  have hs1 := hs.drew
  obtain ⟨c0, c1, f0, f1, hl⟩ := kt.tape
  have HB := hid ((But.refl g w).drew)
  obtain ⟨v, p, h1, hx⟩ := signS_er h
  have HG := hid (fun w hs => Get_s (w := w) (B := B) (n := n) (c := c) hs h1)
  have hx1 : (x == 0) = false := beq_eq_false_iff_ne.2 hx
  have hx2 : decide (x = 0) = false := decide_eq_false hx
  clear h h1 hs kt hx
  generalize unf v = u at *
  go_enter Try.func78, Try.ntmps78
  go_wp2_with fail
  go_region_held3 (fun w' => w'.cell? ⟨g, 6, none⟩ = some (.slice B n c) ∧ w'.cell? ⟨g, 7, none⟩ = some (.int .i64 z))
    (exact ⟨c0, c1⟩)
    (first | (go_at_call 83; refine (HG.out _ hs1).mono ?_; rintro e w2 ⟨rfl, rfl⟩))
  go_wp2_with fail
  refine (need_f _ _).mono ?_
  rintro e w2 ⟨rfl, rfl⟩
  exact ⟨rfl, rfl, HB.out⟩
end
end Go.Proofs.Ytedojdbihajnbaa
