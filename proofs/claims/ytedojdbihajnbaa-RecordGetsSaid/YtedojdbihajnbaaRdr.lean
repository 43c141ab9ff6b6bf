/- Contracts of yearbookref18: the reader (need, one, plain, more, points, mutation), Get, Rows (seat Record). -/
import Derived.Test.YtedojdbihajnbaaRefG
import Derived.Test.YtedojdbihajnbaaVarS
import Derived.Test.YtedojdbihajnbaaVarR
namespace Go.Proofs.Ytedojdbihajnbaa
open Go.RowKit Go.Shelf VB
open Go.Lib (hid)
set_option linter.unusedVariables false
set_option linter.unusedSimpArgs false
/-- the reader's cells -/
abbrev rdC (C : Option Addr) (n c : Nat) (z : Nat) (e : Int) : Array Value := #[.slice C n c, .int .i64 (z : Nat), .int .i64 e]
theorem Blk.rd {w : World} {g : Nat} {t : TypeId} {C : Option Addr} {n c z : Nat} {e : Int} (h : Blk w g t (rdC C n c z e)) :
    w.cell? ⟨g, 0, none⟩ = some (.slice C n c) ∧ w.cell? ⟨g, 1, none⟩ = some (.int .i64 (z : Nat)) ∧ w.cell? ⟨g, 2, none⟩ = some (.int .i64 e) ∧ w.frozen? ⟨g, 1, none⟩ = false ∧ w.frozen? ⟨g, 2, none⟩ = false ∧ g < w.heap.size :=
  ⟨h.cell 0, h.cell 1, h.cell 2, h.frozen 1, h.frozen 2, h.lt⟩
def RetS (v : Value) (g : Nat) (cs : Array Value) (w : World) (e : Ending) (w' : World) : Prop := e = .returned v ∧ But g w w' ∧ Blk w' g 79 cs
theorem Src.butS {w w' : World} {B : Option Addr} {n c : Nat} {bs : List Nat} {g : Nat} (h : Src w B n c bs) (hb : But g w w') (ht : Typed w g 79) : Src w' B n c bs := ⟨h.reads.but hb ht (by decide), h.hn, h.hc, h.hcm, h.hbs⟩
theorem rd_set1 {w : World} {g : Nat} {C : Option Addr} {n c z : Nat} {e : Int} (h : Blk w g 79 (rdC C n c z e)) (y : Nat) : Blk (w.setCell ⟨g, 1, none⟩ (.int .i64 (y : Nat))) g 79 (rdC C n c y e) := h.set_ 1 _
theorem rd_set2 {w : World} {g : Nat} {C : Option Addr} {n c z : Nat} {e : Int} (h : Blk w g 79 (rdC C n c z e)) (y : Int) : Blk (w.setCell ⟨g, 2, none⟩ (.int .i64 y)) g 79 (rdC C n c z y) := h.set_ 2 _
section
variable {w : World} {g : Nat} {C : Option Addr} {n c z : Nat} {bs : List Nat} {e : Int}
theorem needd_t (kt : Blk w g 79 (rdC C n c z e)) : Calls Try.prog 53 #[.pointer (some ⟨g, 0, none⟩), .bool true] w fun e w' => e = .returned (.tuple #[]) ∧ w = w' := by
  obtain ⟨c0, c1, c2, f1, f2, hl⟩ := kt.rd
  by_cases h : e = 0
  · have t : (e == 0) = true := by simp [h]
    clear h kt
    go_enter Try.func53, Try.ntmps53
    go_wp2
    go_end0
    exact ⟨rfl, rfl⟩
  · have t : (e == 0) = false := by simp [h]
    clear h kt
    go_enter Try.func53, Try.ntmps53
    go_wp2
    go_end0
    exact ⟨rfl, rfl⟩
theorem needd_e (b : Bool) (he : e ≠ 0) (kt : Blk w g 79 (rdC C n c z e)) : Calls Try.prog 53 #[.pointer (some ⟨g, 0, none⟩), .bool b] w fun e w' => e = .returned (.tuple #[]) ∧ w = w' := by
  obtain ⟨c0, c1, c2, f1, f2, hl⟩ := kt.rd
  have t : (e == 0) = false := by simp [he]
  clear he kt
  go_enter Try.func53, Try.ntmps53
  go_wp2
  go_end0
  exact ⟨rfl, rfl⟩
theorem needd_f (kt : Blk w g 79 (rdC C n c z 0)) : Calls Try.prog 53 #[.pointer (some ⟨g, 0, none⟩), .bool false] w (RetS (.tuple #[]) g (rdC C n c z 7) w) := by
  obtain ⟨c0, c1, c2, f1, f2, hl⟩ := kt.rd
  have HF := hid (show RetS (.tuple #[]) g (rdC C n c z 7) w (.returned (.tuple #[])) (w.setCell ⟨g, 2, none⟩ (.int .i64 7)) from ⟨rfl, (But.refl g w).setg 2 _, rd_set2 kt 7⟩)
  clear kt
  go_enter Try.func53, Try.ntmps53
  go_wp2
  go_end0
  exact HF.out
/-- need, in one -/
theorem needd (b : Bool) (kt : Blk w g 79 (rdC C n c z e)) : Calls Try.prog 53 #[.pointer (some ⟨g, 0, none⟩), .bool b] w (RetS (.tuple #[]) g (rdC C n c z (if e = 0 ∧ b = false then 7 else e)) w) := by
  by_cases he : e = 0
  · subst he
    cases b with
    | true =>
      rw [if_neg (by simp)]
      exact (needd_t kt).mono fun e w' h => ⟨h.1, by rw [← h.2]; exact But.refl _ _, by rw [← h.2]; exact kt⟩
    | false =>
      rw [if_pos ⟨rfl, rfl⟩]
      exact needd_f kt
  · rw [if_neg (by simp [he])]
    exact (needd_e b he kt).mono fun e w' h => ⟨h.1, by rw [← h.2]; exact But.refl _ _, by rw [← h.2]; exact kt⟩
set_option maxHeartbeats 400000 in
theorem oned_ok (kt : Blk w g 79 (rdC C n c z 0)) (hs : Src w C n c bs) (hz : z < n) :
    Calls Try.prog 69 #[.pointer (some ⟨g, 0, none⟩)] w (RetS (.int .u8 (bs.getD z 0 : Nat)) g (rdC C n c (z + 1) 0) w) := by
  have hn := hs.hn
  obtain ⟨ad, rfl, hc⟩ := bsV_at hs.reads hz
  obtain ⟨c0, c1, c2, f1, f2, hl⟩ := kt.rd
  have HF := hid (show ∀ q, RetS (.int .u8 (bs.getD z 0 : Nat)) g (rdC (some ad) n c (z + 1) 0) w (.returned (.int .u8 (bs.getD z 0 : Nat))) ((w.drewN q).setCell ⟨g, 1, none⟩ (.int .i64 ((z + 1 : Nat) : Int))) from fun q => ⟨rfl, (show But g w (w.drewN q) from ⟨rfl, rfl, rfl, Nat.le_refl _, fun _ _ _ => rfl⟩).setg 1 _, rd_set1 (z := z) (kt.drewN q) (z + 1)⟩)
  have hzi : (z : Int) < n := by omega
  have hz0 : (0 : Int) ≤ z := by omega
  have hzn : decide ((n : Int) ≤ (z : Int)) = false := decide_eq_false (by omega)
  have hzc : z < c := Nat.lt_of_lt_of_le hz hs.hc
  clear hs kt
  go_enter Try.func69, Try.ntmps69
  go_wp2_with fail
  go_region_held3 (fun w' => w'.cell? ⟨g, 0, none⟩ = some (.slice (some ad) n c) ∧ w'.cell? ⟨g, 1, none⟩ = some (.int .i64 (z : Nat)) ∧ w'.cell? ⟨g, 2, none⟩ = some (.int .i64 0))
    (exact ⟨c0, c1, c2⟩)
    (fail)
  go_wp2_with fail
  go_region_held3 (fun w' => w'.cell? ⟨g, 0, none⟩ = some (.slice (some ad) n c) ∧ w'.cell? ⟨g, 1, none⟩ = some (.int .i64 (z : Nat)) ∧ w'.cell? (ad.add z) = some (.int .u8 (bs.getD z 0 : Nat)))
    (exact ⟨c0, c1, hc⟩)
    (fail)
  go_wp2_with fail
  go_ret
  exact HF.out 2
set_option maxHeartbeats 400000 in
theorem oned_no (kt : Blk w g 79 (rdC C n c z 0)) (hn : n ≤ 1000000) (hz : n ≤ z) (hz9 : z ≤ 1000000000) :
    Calls Try.prog 69 #[.pointer (some ⟨g, 0, none⟩)] w (RetS (.int .u8 0) g (rdC C n c z 6) w) := by
  obtain ⟨c0, c1, c2, f1, f2, hl⟩ := kt.rd
  have HF := hid (show ∀ q, RetS (.int .u8 0) g (rdC C n c z 6) w (.returned (.int .u8 0)) ((w.drewN q).setCell ⟨g, 2, none⟩ (.int .i64 6)) from fun q => ⟨rfl, (show But g w (w.drewN q) from ⟨rfl, rfl, rfl, Nat.le_refl _, fun _ _ _ => rfl⟩).setg 2 _, rd_set2 (z := z) (kt.drewN q) 6⟩)
  have hzn : decide ((n : Int) ≤ (z : Int)) = true := decide_eq_true (by omega)
  have hz0 : (n : Int) ≤ z := by omega
  clear kt
  go_enter Try.func69, Try.ntmps69
  go_wp2_with fail
  go_region_held3 (fun w' => w'.cell? ⟨g, 0, none⟩ = some (.slice C n c) ∧ w'.cell? ⟨g, 1, none⟩ = some (.int .i64 (z : Nat)) ∧ w'.cell? ⟨g, 2, none⟩ = some (.int .i64 0))
    (exact ⟨c0, c1, c2⟩)
    (fail)
  go_wp2_with fail
  go_ret
  exact HF.out 1
set_option maxHeartbeats 400000 in
theorem oned_er (he : e ≠ 0) (kt : Blk w g 79 (rdC C n c z e)) :
    Calls Try.prog 69 #[.pointer (some ⟨g, 0, none⟩)] w (RetS (.int .u8 0) g (rdC C n c z e) w) := by
  obtain ⟨c0, c1, c2, f1, f2, hl⟩ := kt.rd
  have HF := hid (show ∀ q, RetS (.int .u8 0) g (rdC C n c z e) w (.returned (.int .u8 0)) (w.drewN q) from fun q => ⟨rfl, ⟨rfl, rfl, rfl, Nat.le_refl _, fun _ _ _ => rfl⟩, kt.drewN q⟩)
  have t : (e == 0) = false := by simp [he]
  have t2 : (e != 0) = true := by simp [he]
  have t3 : decide (e = 0) = false := by simp [he]
  clear kt he
  go_enter Try.func69, Try.ntmps69
  go_wp2_with fail
  refine wp_region_held_drew (S := (fun w' => w'.cell? ⟨g, 0, none⟩ = some (.slice C n c) ∧ w'.cell? ⟨g, 1, none⟩ = some (.int .i64 (z : Nat)) ∧ w'.cell? ⟨g, 2, none⟩ = some (.int .i64 e))) (by kernel_rfl) ⟨c0, c1, c2⟩ (fun hHeld => ?_)
  refine wpAnyH_take (i := 0) (v := ?_) rfl (by kernel_rfl) (by kernel_rfl) (by kernel_rfl) (fun _ _ _ h => h) (Or.inl ⟨by rfl, ?_⟩) (by assumption) ?_
  rotate_left
  · intro W hW
    go_simp
    try rfl
  simp only [List.getElem_toArray, List.getElem_cons_zero, Act.put, List.setIfInBounds_toArray, List.set_cons_zero, List.set_cons_succ]
  refine wpAnyH_take (i := 1) (v := ?_) rfl (by kernel_rfl) (by kernel_rfl) (by kernel_rfl) (fun _ _ _ h => h) (Or.inl ⟨by rfl, ?_⟩) (by assumption) ?_
  rotate_left
  · intro W hW
    go_simp
    try rfl
  simp only [List.getElem_toArray, List.getElem_cons_succ, List.getElem_cons_zero, Act.put, List.setIfInBounds_toArray, List.set_cons_zero, List.set_cons_succ]
  refine wpAnyH_take (i := 2) (v := ?_) rfl (by kernel_rfl) (by kernel_rfl) (by kernel_rfl) (fun _ _ _ h => h) (Or.inl ⟨by rfl, ?_⟩) (by assumption) ?_
  rotate_left
  · intro W hW
    go_simp
    try rfl
  simp only [List.getElem_toArray, List.getElem_cons_succ, List.getElem_cons_zero, Act.put, List.setIfInBounds_toArray, List.set_cons_zero, List.set_cons_succ]
  refine wpAnyH_take (i := 3) (v := ?_) rfl (by kernel_rfl) (by kernel_rfl) (by kernel_rfl) (fun _ _ _ h => h) (Or.inl ⟨by rfl, ?_⟩) (by assumption) ?_
  rotate_left
  · intro W hW
    obtain ⟨y0, y1, y2⟩ := hW
    go_simp
    try rfl
  simp only [List.getElem_toArray, List.getElem_cons_succ, List.getElem_cons_zero, Act.put, List.setIfInBounds_toArray, List.set_cons_zero, List.set_cons_succ]
  refine wpAnyH_take (i := 4) (v := ?_) rfl (by kernel_rfl) (by kernel_rfl) (by kernel_rfl) (fun _ _ _ h => h) (Or.inl ⟨by rfl, ?_⟩) (by assumption) ?_
  rotate_left
  · intro W hW
    go_simp
    try rfl
  simp only [List.getElem_toArray, List.getElem_cons_succ, List.getElem_cons_zero, Act.put, List.setIfInBounds_toArray, List.set_cons_zero, List.set_cons_succ]
  refine wpAnyH_take (i := 5) (v := ?_) rfl (by kernel_rfl) (by kernel_rfl) (by kernel_rfl) (fun _ _ _ h => h) (Or.inl ⟨by rfl, ?_⟩) (by assumption) ?_
  rotate_left
  · intro W hW
    go_simp
    try rfl
  simp only [List.getElem_toArray, List.getElem_cons_succ, List.getElem_cons_zero, Act.put, List.setIfInBounds_toArray, List.set_cons_zero, List.set_cons_succ]
  refine wpAnyH_take (i := 6) (v := undef) rfl (by kernel_rfl) (by kernel_rfl) (by kernel_rfl) (fun _ _ _ h => h) (Or.inr ⟨by rfl, rfl⟩) (by assumption) ?_
  simp only [List.getElem_toArray, List.getElem_cons_succ, List.getElem_cons_zero, Act.put, List.setIfInBounds_toArray, List.set_cons_zero, List.set_cons_succ]
  refine wpAnyH_take (i := 7) (v := undef) rfl (by kernel_rfl) (by kernel_rfl) (by kernel_rfl) (fun _ _ _ h => h) (Or.inr ⟨by rfl, rfl⟩) (by assumption) ?_
  simp only [List.getElem_toArray, List.getElem_cons_succ, List.getElem_cons_zero, Act.put, List.setIfInBounds_toArray, List.set_cons_zero, List.set_cons_succ]
  refine wpAnyH_take (i := 8) (v := undef) rfl (by kernel_rfl) (by kernel_rfl) (by kernel_rfl) (fun _ _ _ h => h) (Or.inr ⟨by rfl, rfl⟩) (by assumption) ?_
  simp only [List.getElem_toArray, List.getElem_cons_succ, List.getElem_cons_zero, Act.put, List.setIfInBounds_toArray, List.set_cons_zero, List.set_cons_succ]
  refine wpAnyH_take (i := 9) (v := undef) rfl (by kernel_rfl) (by kernel_rfl) (by kernel_rfl) (fun _ _ _ h => h) (Or.inr ⟨by rfl, rfl⟩) (by assumption) ?_
  simp only [List.getElem_toArray, List.getElem_cons_succ, List.getElem_cons_zero, Act.put, List.setIfInBounds_toArray, List.set_cons_zero, List.set_cons_succ]
  refine wpAnyH_take (i := 10) (v := undef) rfl (by kernel_rfl) (by kernel_rfl) (by kernel_rfl) (fun _ _ _ h => h) (Or.inr ⟨by rfl, rfl⟩) (by assumption) ?_
  simp only [List.getElem_toArray, List.getElem_cons_succ, List.getElem_cons_zero, Act.put, List.setIfInBounds_toArray, List.set_cons_zero, List.set_cons_succ]
  refine wpAnyH_take (i := 11) (v := undef) rfl (by kernel_rfl) (by kernel_rfl) (by kernel_rfl) (fun _ _ _ h => h) (Or.inr ⟨by rfl, rfl⟩) (by assumption) ?_
  simp only [List.getElem_toArray, List.getElem_cons_succ, List.getElem_cons_zero, Act.put, List.setIfInBounds_toArray, List.set_cons_zero, List.set_cons_succ]
  refine wpAnyH_take (i := 12) (v := undef) rfl (by kernel_rfl) (by kernel_rfl) (by kernel_rfl) (fun _ _ _ h => h) (Or.inr ⟨by rfl, rfl⟩) (by assumption) ?_
  simp only [List.getElem_toArray, List.getElem_cons_succ, List.getElem_cons_zero, Act.put, List.setIfInBounds_toArray, List.set_cons_zero, List.set_cons_succ]
  refine wpAnyH_take (i := 13) (v := undef) rfl (by kernel_rfl) (by kernel_rfl) (by kernel_rfl) (fun _ _ _ h => h) (Or.inr ⟨by rfl, rfl⟩) (by assumption) ?_
  simp only [List.getElem_toArray, List.getElem_cons_succ, List.getElem_cons_zero, Act.put, List.setIfInBounds_toArray, List.set_cons_zero, List.set_cons_succ]
  refine wpAnyH_take (i := 14) (v := undef) rfl (by kernel_rfl) (by kernel_rfl) (by kernel_rfl) (fun _ _ _ h => h) (Or.inr ⟨by rfl, rfl⟩) (by assumption) ?_
  simp only [List.getElem_toArray, List.getElem_cons_succ, List.getElem_cons_zero, Act.put, List.setIfInBounds_toArray, List.set_cons_zero, List.set_cons_succ]
  refine wpAnyH_take (i := 15) (v := undef) rfl (by kernel_rfl) (by kernel_rfl) (by kernel_rfl) (fun _ _ _ h => h) (Or.inr ⟨by rfl, rfl⟩) (by assumption) ?_
  simp only [List.getElem_toArray, List.getElem_cons_succ, List.getElem_cons_zero, Act.put, List.setIfInBounds_toArray, List.set_cons_zero, List.set_cons_succ]
  refine wpAnyH_take (i := 16) (v := ?_) rfl (by kernel_rfl) (by kernel_rfl) (by kernel_rfl) (fun _ _ _ h => h) (Or.inl ⟨by rfl, ?_⟩) (by assumption) ?_
  rotate_left
  · intro W hW
    go_simp
    try rfl
  simp only [List.getElem_toArray, List.getElem_cons_succ, List.getElem_cons_zero, Act.put, List.setIfInBounds_toArray, List.set_cons_zero, List.set_cons_succ]
  refine wpAnyH_done (by kernel_rfl) ?_ _
  go_wp2_with fail
  go_ret
  exact HF.out 1
/-- what one comes to -/
def rdOne (bs : List Nat) (z : Nat) (e : Int) : Nat × Nat × Int := if e = 0 then (if z < bs.length then (bs.getD z 0, z + 1, 0) else (0, z, 6)) else (0, z, e)
theorem oned (kt : Blk w g 79 (rdC C n c z e)) (hs : Src w C n c bs) (hz9 : z ≤ 1000000000) :
    Calls Try.prog 69 #[.pointer (some ⟨g, 0, none⟩)] w (RetS (.int .u8 ((rdOne bs z e).1 : Nat)) g (rdC C n c (rdOne bs z e).2.1 (rdOne bs z e).2.2) w) := by
  unfold rdOne
  have hl := hs.len
  by_cases he : e = 0
  · subst he
    rw [if_pos rfl]
    by_cases hz : z < bs.length
    · rw [if_pos hz]
      exact oned_ok kt hs (by omega)
    · rw [if_neg hz]
      exact oned_no (z := z) kt hs.hn (by omega) hz9
  · rw [if_neg he]
    exact oned_er he kt
/-- what plain comes to -/
def rdPlain (bs : List Nat) (most z : Nat) (e : Int) : Nat × Nat × Int := if e = 0 then (match plainS bs most z with | .ok (v, p) => (v, p, 0) | .error x => (0, z, x)) else (0, z, e)
set_option maxHeartbeats 400000 in
theorem plaind_er {most : Nat} (he : e ≠ 0) (kt : Blk w g 79 (rdC C n c z e)) :
    Calls Try.prog 70 #[.pointer (some ⟨g, 0, none⟩), .int .u64 (most : Nat)] w (RetS (.int .i64 0) g (rdC C n c z e) w) := by
  obtain ⟨c0, c1, c2, f1, f2, hl⟩ := kt.rd
  have HF := hid (show RetS (.int .i64 0) g (rdC C n c z e) w (.returned (.int .i64 0)) w from ⟨rfl, But.refl _ _, kt⟩)
  have t : (e == 0) = false := by simp [he]
  have t2 : (e != 0) = true := by simp [he]
  clear kt he
  go_enter Try.func70, Try.ntmps70
  go_wp2_with fail
  go_ret
  exact HF.out
def RetR (r : Nat × Nat × Int) (g : Nat) (C : Option Addr) (n c : Nat) (w : World) (e : Ending) (w' : World) : Prop := RetS (.int .i64 (r.1 : Nat)) g (rdC C n c r.2.1 r.2.2) w e w'
set_option maxHeartbeats 1000000 in
theorem plaind_0 {most v m : Nat} {x : Int} (kt : Blk w g 79 (rdC C n c z 0)) (hs : Src w C n c bs) (hm : most ≤ 4611686018427387904) (hrg : rg bs (z : Nat) = (v, m, x)) (r : Nat × Nat × Int) (hr : r = (if x = 0 then (if v ≤ most then (v, z + m, 0) else (0, z, 7)) else (0, z, x))) :
    Calls Try.prog 70 #[.pointer (some ⟨g, 0, none⟩), .int .u64 (most : Nat)] w (RetR r g C n c w) := by
  have HG := hid (fun W (h : Reads W 5 1 C n (bsV bs)) => refGet_c C n c (z : Nat) bs W h hs.hn hs.hc hs.hcm hs.hbs)
  rw [hrg] at HG
  have hs1 := hs.reads.drew
  have HK1 := hid (show Blk (w.setCell ⟨g, 2, none⟩ (.int .i64 x)).drew g 79 (rdC C n c z x) from (rd_set2 kt x).drew)
  have HB1 := hid (show But g w (w.setCell ⟨g, 2, none⟩ (.int .i64 x)).drew from ((But.refl g w).setg 2 _).drew)
  have hok := rg_ok (bs := bs) (z := (z : Nat))
  rw [hrg] at hok
  have hl := hs.len
  have HN := hid (And.intro hs.hn hl)
  obtain ⟨c0, c1, c2, f1, f2, hlt⟩ := kt.rd
  have HOK := hid hok
  have HRR := hid hr
  clear kt hs hrg hok hl hr
  go_enter Try.func70, Try.ntmps70
  go_wp2_with fail
  go_region_held3 (fun w' => w'.cell? ⟨g, 0, none⟩ = some (.slice C n c) ∧ w'.cell? ⟨g, 1, none⟩ = some (.int .i64 (z : Nat)))
    (exact ⟨c0, c1⟩)
    (first | (go_at_call 52; refine (HG.out _ hs1).mono ?_; rintro e w2 ⟨rfl, rfl⟩))
  go_upto_region 5 with fail
  generalize (w.setCell ⟨g, 2, none⟩ (.int .i64 x)).drew = w1 at *
  obtain ⟨d0, d1, d2, h1, h2, hlt1⟩ := HK1.out.rd
  by_cases hx : x = 0
  · subst hx
    have HO := hid (HOK.out rfl)
    clear HOK c0 c1 c2 f1 f2 hlt
    by_cases hv : v ≤ most
    · have HV := hid (HRR.out.trans (show _ = (v, z + m, (0 : Int)) by rw [if_pos rfl, if_pos hv]))
      have t1 : decide (v ≤ most) = true := decide_eq_true hv
      have HND := hid (needd_t HK1.out)
      have hzm : z + m ≤ 1000000 := by
        have h3 := HO.out.2.2
        rw [Int.toNat_natCast] at h3
        have h4 : z + m ≤ bs.length := h3
        have := HN.out
        omega
      have hw : IntKind.i64.wrap (v : Int) = (v : Int) := by rw [IntKind.wrap_i64]; omega
      have HF := hid (show RetR r g C n c w (.returned (.int .i64 (v : Nat))) (w1.setCell ⟨g, 1, none⟩ (.int .i64 ((z : Int) + (m : Int)))) by rw [HV.out]; exact ⟨rfl, HB1.out.setg 1 _, rd_set1 HK1.out (z + m)⟩)
      clear hv
      go_wp2_with fail
      refine HND.out.mono ?_
      rintro e w2 ⟨rfl, rfl⟩
      go_wp2_with fail
      go_ret
      exact HF.out
    · have HV := hid (HRR.out.trans (show _ = (0, z, (7 : Int)) by rw [if_pos rfl, if_neg hv]))
      have t1 : decide (v ≤ most) = false := decide_eq_false hv
      have HND := hid (needd_f HK1.out)
      clear hv
      go_wp2_with fail
      refine HND.out.mono ?_
      rintro e w2 ⟨rfl, hb2, kt2⟩
      have HF := hid (show RetR r g C n c w (.returned (.int .i64 0)) w2 by rw [HV.out]; exact ⟨rfl, HB1.out.trans hb2, kt2⟩)
      obtain ⟨y0, y1, y2, z1, z2, hlt2⟩ := kt2.rd
      clear hb2 kt2 d0 d1 d2 h1 h2 hlt1
      go_wp2_with fail
      go_ret
      exact HF.out
  · have HX := hid (HRR.out.trans (show _ = (0, z, x) by rw [if_neg hx]))
    have t1 : (x != 0) = true := by simp [hx]
    have t2 : (x == 0) = false := by simp [hx]
    have HND := hid (fun b => needd_e b hx HK1.out)
    have HF := hid (show RetR r g C n c w (.returned (.int .i64 0)) w1 by rw [HX.out]; exact ⟨rfl, HB1.out, HK1.out⟩)
    clear hx c0 c1 c2 f1 f2 hlt
    go_wp2_with fail
    all_goals
      refine (HND.out _).mono ?_
      rintro e w2 ⟨rfl, rfl⟩
      go_wp2_with fail
      go_ret
      exact HF.out
theorem plaind {most : Nat} (kt : Blk w g 79 (rdC C n c z e)) (hs : Src w C n c bs) (hm : most ≤ 4611686018427387904) :
    Calls Try.prog 70 #[.pointer (some ⟨g, 0, none⟩), .int .u64 (most : Nat)] w (RetS (.int .i64 ((rdPlain bs most z e).1 : Nat)) g (rdC C n c (rdPlain bs most z e).2.1 (rdPlain bs most z e).2.2) w) := by
  by_cases he : e = 0
  · subst he
    obtain ⟨v, m, x, hrg⟩ : ∃ v m x, rg bs (z : Nat) = (v, m, x) := ⟨_, _, _, rfl⟩
    obtain ⟨r, hr⟩ : ∃ r, r = (if x = 0 then (if v ≤ most then (v, z + m, (0 : Int)) else (0, z, 7)) else (0, z, x)) := ⟨_, rfl⟩
    refine (plaind_0 kt hs hm hrg r hr).mono ?_
    intro e w' h
    have h2 := rg_got bs (z : Nat)
    rw [hrg] at h2
    have e1 : rdPlain bs most z 0 = r := by
      unfold rdPlain
      rw [if_pos rfl, hr]
      unfold plainS
      rw [h2]
      simp only
      by_cases hx : x = 0
      · rw [if_pos hx, if_pos hx]
        simp only [if_true]
        by_cases hv : v ≤ most
        · rw [if_pos hv, if_pos hv]; rfl
        · rw [if_neg hv, if_neg hv]
      · rw [if_neg hx, if_neg hx]
        simp only
        rw [if_neg hx]
    rw [e1]
    exact h
  · unfold rdPlain
    rw [if_neg he]
    exact plaind_er he kt
/-- what more comes to -/
def rdMore (bs : List Nat) (than least most : Int) (z : Nat) (e : Int) : Int × Nat × Int :=
  if e = 0 then (match signS bs z with | .ok (d, p) => (if least - than ≤ d ∧ d ≤ most - than then (than + d, p, 0) else (0, z, 7)) | .error x => (0, z, x)) else (0, z, e)
def RetM (r : Int × Nat × Int) (g : Nat) (C : Option Addr) (n c : Nat) (w : World) (e : Ending) (w' : World) : Prop := RetS (.int .i64 r.1) g (rdC C n c r.2.1 r.2.2) w e w'
set_option maxHeartbeats 400000 in
theorem mored_er {than least most : Int} (he : e ≠ 0) (kt : Blk w g 79 (rdC C n c z e)) :
    Calls Try.prog 71 #[.pointer (some ⟨g, 0, none⟩), .int .i64 than, .int .i64 least, .int .i64 most] w (RetS (.int .i64 0) g (rdC C n c z e) w) := by
  obtain ⟨c0, c1, c2, f1, f2, hl⟩ := kt.rd
  have HF := hid (show RetS (.int .i64 0) g (rdC C n c z e) w (.returned (.int .i64 0)) w from ⟨rfl, But.refl _ _, kt⟩)
  have t : (e == 0) = false := by simp [he]
  have t2 : (e != 0) = true := by simp [he]
  clear kt he
  go_enter Try.func71, Try.ntmps71
  go_wp2_with fail
  go_ret
  exact HF.out
set_option maxHeartbeats 1000000 in
theorem mored_0 {than least most d : Int} {p : Nat} {x : Int} (kt : Blk w g 79 (rdC C n c z 0)) (hs : Src w C n c bs) (h1 : -2305843009213693952 ≤ than ∧ than ≤ 2305843009213693952) (h2 : -2305843009213693952 ≤ least ∧ least ≤ 2305843009213693952) (h3 : -2305843009213693952 ≤ most ∧ most ≤ 2305843009213693952)
    (hN : ∀ W, Reads W 5 1 C n (bsV bs) → Calls Try.prog 80 #[.slice C n c, .int .i64 (z : Nat)] W fun e w' => e = .returned (.tuple #[.int .i64 d, .int .i64 (p : Nat), .int .i64 x]) ∧ W = w') (r : Int × Nat × Int) (hr : r = (if x = 0 then (if least - than ≤ d ∧ d ≤ most - than then (than + d, p, 0) else (0, z, 7)) else (0, z, x))) :
    Calls Try.prog 71 #[.pointer (some ⟨g, 0, none⟩), .int .i64 than, .int .i64 least, .int .i64 most] w (RetM r g C n c w) := by
  have HG := hid hN
  have hs1 := hs.reads.drew
  have HK1 := hid (show Blk (w.setCell ⟨g, 2, none⟩ (.int .i64 x)).drew g 79 (rdC C n c z x) from (rd_set2 kt x).drew)
  have HB1 := hid (show But g w (w.setCell ⟨g, 2, none⟩ (.int .i64 x)).drew from ((But.refl g w).setg 2 _).drew)
  obtain ⟨c0, c1, c2, f1, f2, hlt⟩ := kt.rd
  have HRR := hid hr
  have w1a : wrap64 (least - than) = least - than := by unfold wrap64; omega
  have w2a : wrap64 (most - than) = most - than := by unfold wrap64; omega
  clear kt hs hr hN
  go_enter Try.func71, Try.ntmps71
  go_wp2_with fail
  go_region_held3 (fun w' => w'.cell? ⟨g, 0, none⟩ = some (.slice C n c) ∧ w'.cell? ⟨g, 1, none⟩ = some (.int .i64 (z : Nat)))
    (exact ⟨c0, c1⟩)
    (first | (go_at_call 80; refine (HG.out _ hs1).mono ?_; rintro e w2 ⟨rfl, rfl⟩))
  go_upto_region 5 with fail
  generalize (w.setCell ⟨g, 2, none⟩ (.int .i64 x)).drew = w1 at *
  obtain ⟨d0, d1, d2, g1, g2, hlt1⟩ := HK1.out.rd
  clear c0 c1 c2 f1 f2 hlt
  by_cases hx : x = 0
  · subst hx
    by_cases hA : least - than ≤ d
    · by_cases hB : d ≤ most - than
      · have HV := hid (HRR.out.trans (show _ = (than + d, p, (0 : Int)) by rw [if_pos rfl, if_pos ⟨hA, hB⟩]))
        have HND := hid (needd_t HK1.out)
        have w3 : wrap64 (than + d) = than + d := by unfold wrap64; omega
        have HF := hid (show RetM r g C n c w (.returned (.int .i64 (than + d))) (w1.setCell ⟨g, 1, none⟩ (.int .i64 (p : Nat))) by rw [HV.out]; exact ⟨rfl, HB1.out.setg 1 _, rd_set1 HK1.out p⟩)
        go_wp2_with fail
        refine HND.out.mono ?_
        rintro e w2 ⟨rfl, rfl⟩
        go_wp2_with fail
        go_ret
        exact HF.out
      · have HV := hid (HRR.out.trans (show _ = (0, z, (7 : Int)) by rw [if_pos rfl, if_neg (fun h => hB h.2)]))
        have HND := hid (needd_f HK1.out)
        go_wp2_with fail
        refine HND.out.mono ?_
        rintro e w2 ⟨rfl, hb2, kt2⟩
        have HF := hid (show RetM r g C n c w (.returned (.int .i64 0)) w2 by rw [HV.out]; exact ⟨rfl, HB1.out.trans hb2, kt2⟩)
        obtain ⟨y0, y1, y2, z1, z2, hlt2⟩ := kt2.rd
        clear hb2 kt2 d0 d1 d2 g1 g2 hlt1
        go_wp2_with fail
        go_ret
        exact HF.out
    · have HV := hid (HRR.out.trans (show _ = (0, z, (7 : Int)) by rw [if_pos rfl, if_neg (fun h => hA h.1)]))
      have HND := hid (needd_f HK1.out)
      go_wp2_with fail
      refine HND.out.mono ?_
      rintro e w2 ⟨rfl, hb2, kt2⟩
      have HF := hid (show RetM r g C n c w (.returned (.int .i64 0)) w2 by rw [HV.out]; exact ⟨rfl, HB1.out.trans hb2, kt2⟩)
      obtain ⟨y0, y1, y2, z1, z2, hlt2⟩ := kt2.rd
      clear hb2 kt2 d0 d1 d2 g1 g2 hlt1
      go_wp2_with fail
      go_ret
      exact HF.out
  · have HX := hid (HRR.out.trans (show _ = (0, z, x) by rw [if_neg hx]))
    have t1 : (x != 0) = true := by simp [hx]
    have t2 : (x == 0) = false := by simp [hx]
    have HND := hid (fun b => needd_e b hx HK1.out)
    have HF := hid (show RetM r g C n c w (.returned (.int .i64 0)) w1 by rw [HX.out]; exact ⟨rfl, HB1.out, HK1.out⟩)
    clear hx
    go_wp2_with fail
    all_goals
      refine (HND.out _).mono ?_
      rintro e w2 ⟨rfl, rfl⟩
      go_wp2_with fail
      go_ret
      exact HF.out
theorem mored {than least most : Int} (kt : Blk w g 79 (rdC C n c z e)) (hs : Src w C n c bs) (h1 : -2305843009213693952 ≤ than ∧ than ≤ 2305843009213693952) (h2 : -2305843009213693952 ≤ least ∧ least ≤ 2305843009213693952) (h3 : -2305843009213693952 ≤ most ∧ most ≤ 2305843009213693952) :
    Calls Try.prog 71 #[.pointer (some ⟨g, 0, none⟩), .int .i64 than, .int .i64 least, .int .i64 most] w (RetM (rdMore bs than least most z e) g C n c w) := by
  by_cases he : e = 0
  · subst he
    obtain ⟨v, p, x, hg⟩ : ∃ v p x, gotN bs (z : Nat) = (v, p, x) := ⟨_, _, _, rfl⟩
    refine mored_0 (d := unf v) (p := p) (x := x) kt hs h1 h2 h3 (fun W hW => ?_) _ ?_
    · have h := number_c C n c (z : Nat) bs W hW hs.hn hs.hc hs.hcm hs.hbs
      rw [hg] at h
      exact h
    · unfold rdMore signS
      rw [if_pos rfl, hg]
      simp only
      by_cases hx : x = 0
      · rw [if_pos hx, if_pos hx]
      · rw [if_neg hx, if_neg hx]
  · unfold rdMore
    rw [if_neg he]
    exact mored_er he kt
end
end Go.Proofs.Ytedojdbihajnbaa
namespace Go.Proofs.Ytedojdbihajnbaa
open Go.RowKit Go.Shelf VB
open Go.Lib (hid)
set_option linter.unusedVariables false
set_option linter.unusedSimpArgs false
theorem rdPlain_0 {bs : List Nat} {most z : Nat} : rdPlain bs most z 0 = (match plainS bs most z with | .ok (v, p) => (v, p, (0 : Int)) | .error x => (0, z, x)) := by
  unfold rdPlain
  rw [if_pos rfl]
  all_goals (cases plainS bs most z <;> rfl)
theorem rdMore_0 {bs : List Nat} {than least most : Int} {z : Nat} : rdMore bs than least most z 0 = (match signS bs z with | .ok (d, p) => (if least - than ≤ d ∧ d ≤ most - than then (than + d, p, (0 : Int)) else (0, z, 7)) | .error x => (0, z, x)) := by
  unfold rdMore
  rw [if_pos rfl]
  all_goals (cases signS bs z <;> rfl)
theorem rdMore_e {bs : List Nat} {than least most : Int} {z : Nat} {e : Int} (h : e ≠ 0) : rdMore bs than least most z e = (0, z, e) := by unfold rdMore; rw [if_neg h]
theorem time_iff {T d : Int} (hT : 0 ≤ T ∧ T ≤ 281474976710656) (hd : -9223372036854775808 ≤ d ∧ d ≤ 9223372036854775807) : (timeB (IntKind.i64.wrap (T + d)) = true ↔ (0 - T ≤ d ∧ d ≤ 281474976710656 - T)) ∧ ((0 - T ≤ d ∧ d ≤ 281474976710656 - T) → IntKind.i64.wrap (T + d) = T + d) := by
  have hw := IntKind.wrap_i64 (T + d)
  constructor
  · unfold timeB
    simp only [Bool.and_eq_true, decide_eq_true_eq]
    rw [hw]
    omega
  · intro h
    rw [hw]
    omega
theorem val_iff {V d : Int} (hV : -2305843009213693952 ≤ V ∧ V ≤ 2305843009213693952) (hd : -9223372036854775808 ≤ d ∧ d ≤ 9223372036854775807) : (valB (IntKind.i64.wrap (V + d)) = true ↔ (-2305843009213693952 - V ≤ d ∧ d ≤ 2305843009213693952 - V)) ∧ ((-2305843009213693952 - V ≤ d ∧ d ≤ 2305843009213693952 - V) → IntKind.i64.wrap (V + d) = V + d) := by
  have hw := IntKind.wrap_i64 (V + d)
  constructor
  · unfold valB
    simp only [Bool.and_eq_true, decide_eq_true_eq]
    rw [hw]
    omega
  · intro h
    rw [hw]
    omega
/-- a point's time, as the document's reader reads it -/
def rdTime (bs : List Nat) (fst : Bool) (T : Int) (z : Nat) : Int × Nat × Int := if fst = true then (((rdPlain bs 281474976710656 z 0).1 : Nat), (rdPlain bs 281474976710656 z 0).2.1, (rdPlain bs 281474976710656 z 0).2.2) else rdMore bs T 0 281474976710656 z 0
theorem time_step {bs : List Nat} {fst : Bool} {T : Int} {z : Nat} (hT : 0 ≤ T ∧ T ≤ 281474976710656) (r : Int × Nat × Int) (hr : r = rdTime bs fst T z) :
    (r.2.2 = 0 ∧ timeS bs fst z T = .ok (r.1, r.2.1) ∧ timeB r.1 = true) ∨ (r.2.2 ≠ 0 ∧ r.1 = 0 ∧ (timeS bs fst z T = .error r.2.2 ∨ ∃ t p, timeS bs fst z T = .ok (t, p) ∧ timeB t = false ∧ r.2.2 = 7)) := by
  unfold rdTime at hr
  unfold timeS
  cases fst with
  | true =>
    rw [if_pos rfl, rdPlain_0] at hr
    rw [if_pos rfl]
    cases hp : plainS bs 281474976710656 z with
    | error x =>
      rw [hp] at hr
      subst hr
      exact .inr ⟨plain_err hp, rfl, .inl rfl⟩
    | ok q =>
      obtain ⟨t, p⟩ := q
      rw [hp] at hr
      subst hr
      have := (plainS_ok hp).2
      exact .inl ⟨rfl, rfl, by unfold timeB; simp only [Bool.and_eq_true, decide_eq_true_eq]; omega⟩
  | false =>
    rw [if_neg (by decide), rdMore_0] at hr
    rw [if_neg (by decide)]
    cases hp : signS bs z with
    | error x =>
      rw [hp] at hr
      subst hr
      exact .inr ⟨sign_err hp, rfl, .inl rfl⟩
    | ok q =>
      obtain ⟨d, p⟩ := q
      rw [hp] at hr
      simp only at hr
      have hi := time_iff hT (sign_bounds hp)
      by_cases hc : 0 - T ≤ d ∧ d ≤ 281474976710656 - T
      · rw [if_pos hc] at hr
        subst hr
        refine .inl ⟨rfl, by simp only; rw [hi.2 hc], ?_⟩
        have := hi.1.2 hc
        rw [hi.2 hc] at this
        exact this
      · rw [if_neg hc] at hr
        subst hr
        exact .inr ⟨by simp, rfl, .inr ⟨_, _, rfl, by rw [← Bool.not_eq_true]; exact fun h => hc (hi.1.1 h), rfl⟩⟩
theorem val_step {bs : List Nat} {V : Int} {z : Nat} (hV : -2305843009213693952 ≤ V ∧ V ≤ 2305843009213693952) (r : Int × Nat × Int) (hr : r = rdMore bs V (-2305843009213693952) 2305843009213693952 z 0) :
    (r.2.2 = 0 ∧ ∃ d, signS bs z = .ok (d, r.2.1) ∧ IntKind.i64.wrap (V + d) = r.1 ∧ valB r.1 = true) ∨ (r.2.2 ≠ 0 ∧ r.1 = 0 ∧ (signS bs z = .error r.2.2 ∨ ∃ d p, signS bs z = .ok (d, p) ∧ valB (IntKind.i64.wrap (V + d)) = false ∧ r.2.2 = 7)) := by
  rw [rdMore_0] at hr
  cases hp : signS bs z with
  | error x =>
    rw [hp] at hr
    subst hr
    exact .inr ⟨sign_err hp, rfl, .inl rfl⟩
  | ok q =>
    obtain ⟨d, p⟩ := q
    rw [hp] at hr
    simp only at hr
    have hi := val_iff hV (sign_bounds hp)
    by_cases hc : -2305843009213693952 - V ≤ d ∧ d ≤ 2305843009213693952 - V
    · rw [if_pos hc] at hr
      subst hr
      refine .inl ⟨rfl, d, rfl, hi.2 hc, ?_⟩
      have := hi.1.2 hc
      rw [hi.2 hc] at this
      exact this
    · rw [if_neg hc] at hr
      subst hr
      exact .inr ⟨by simp, rfl, .inr ⟨_, _, rfl, by rw [← Bool.not_eq_true]; exact fun h => hc (hi.1.1 h), rfl⟩⟩
/-- a point more -/
theorem ptL_step {bs : List Nat} {fst : Bool} {T V : Int} {z k : Nat} {acc : List (Int × Int)} (hT : 0 ≤ T ∧ T ≤ 281474976710656) (hV : -2305843009213693952 ≤ V ∧ V ≤ 2305843009213693952) (r q : Int × Nat × Int) (hr : r = rdTime bs fst T z) (hq : q = rdMore bs V (-2305843009213693952) 2305843009213693952 r.2.1 r.2.2) :
    (q.2.2 = 0 ∧ r.2.2 = 0 ∧ ptL bs (k + 1) fst z T V acc = ptL bs k false q.2.1 r.1 q.1 (acc ++ [(r.1, q.1)]) ∧ (0 ≤ r.1 ∧ r.1 ≤ 281474976710656) ∧ (-2305843009213693952 ≤ q.1 ∧ q.1 ≤ 2305843009213693952)) ∨ (q.2.2 ≠ 0 ∧ ptL bs (k + 1) fst z T V acc = .error q.2.2) := by
  rw [ptL_succ]
  rcases time_step hT r hr with ⟨h0, h1, h2⟩ | ⟨h0, h1, h2⟩
  · rw [h0] at hq
    rw [h1]
    simp only
    rw [if_pos h2]
    rcases val_step hV q hq with ⟨g0, d, g1, g2, g3⟩ | ⟨g0, g1, g2⟩
    · left
      rw [g1]
      simp only
      rw [g2, if_pos g3]
      exact ⟨g0, h0, rfl, timeB_le h2, valB_le g3⟩
    · right
      refine ⟨g0, ?_⟩
      rcases g2 with g2 | ⟨d, p, g2, g3, g4⟩
      · rw [g2]
      · rw [g2]
        simp only
        rw [if_neg (by rw [g3]; decide), g4]
  · right
    rw [rdMore_e h0] at hq
    subst hq
    refine ⟨h0, ?_⟩
    rcases h2 with h2 | ⟨t, p, h2, h3, h4⟩
    · rw [h2]
    · rw [h2]
      simp only
      rw [if_neg (by rw [h3]; decide), h4]
/-- what the document's points hands back -/
def RetPd (r : Except Int (List (Int × Int) × Nat)) (g : Nat) (C : Option Addr) (n c : Nat) (w : World) (e : Ending) (w' : World) : Prop :=
  match r with
  | .ok (l, p) => ∃ A f, e = .returned (.slice A l.length f) ∧ But g w w' ∧ Blk w' g 79 (rdC C n c p 0) ∧ w'.ownsRow w.heap.size 51 2 (.slice A l.length f) l.length (l.flatMap cellsP)
  | .error x => ∃ A k f z', e = .returned (.slice A k f) ∧ But g w w' ∧ Blk w' g 79 (rdC C n c z' x)
/-- where the loop over points stands -/
def PtInv (bs : List Nat) (z m i zi : Nat) (ei : Int) (T V : Int) (acc : List (Int × Int)) : Prop :=
  (ei = 0 → pointsS bs z = ptL bs (m - i) (decide (i = 0)) zi T V acc) ∧ (ei ≠ 0 → pointsS bs z = .error ei) ∧ (ei = 0 → (0 ≤ T ∧ T ≤ 281474976710656) ∧ -2305843009213693952 ≤ V ∧ V ≤ 2305843009213693952) ∧ (i = 0 → T = 0)
section
variable {w : World} {g : Nat} {C : Option Addr} {n c z : Nat} {bs : List Nat} {e : Int}
set_option maxRecDepth 100000 in
set_option maxHeartbeats 4000000 in
theorem points_0 (kt : Blk w g 79 (rdC C n c z 0)) (hs : Src w C n c bs) :
    Calls Try.prog 72 #[.pointer (some ⟨g, 0, none⟩)] w (RetPd (pointsS bs z) g C n c w) := by
  have HP := hid (plaind (most := 16) (bs := bs) kt hs (by decide))
  have HS := hid hs
  have KTY := hid kt.typed
  have hg := kt.lt
  obtain ⟨i0, hi0, hz0, hz1, hz2⟩ := info_parts3 point_info
  have HI := hid (And.intro hi0 (And.intro hz0 (And.intro hz1 hz2)))
  obtain ⟨rs, hrs⟩ : ∃ r, r = pointsS bs z := ⟨_, rfl⟩
  rw [← hrs]
  have HRS := hid hrs
  unfold pointsS at hrs
  rw [rdPlain_0] at HP
  clear kt hs hi0 hz0 hz1 hz2
  cases hp : plainS bs 16 z with
  | error x =>
    rw [hp] at HP hrs
    simp only at hrs
    have hx := plain_err hp
    have HX := hid (And.intro hrs hx)
    clear hp hrs
    go_enter Try.func72, Try.ntmps72
    go_wp2_with fail
    refine HP.out.mono ?_
    rintro e w1 ⟨rfl, hb1, kt1⟩
    have HND := hid (needd_e false hx kt1)
    have HF := hid (show ∀ o, RetPd rs g C n c w (.returned (.slice none 0 0)) (w1.alloc o) from fun o => by rw [HX.out.1]; exact ⟨none, 0, 0, z, rfl, hb1.alloc o, kt1.alloc o⟩)
    clear hb1 kt1 hx
    go_wp2_with fail
    refine HND.out.mono ?_
    rintro e w2 ⟨rfl, rfl⟩
    go_wp2_with fail
    go_loopw [4, 6] (fun u4 u6 wr => u6 = .int .i64 0 ∧ u4 = .slice none 0 0 ∧ Hid (∀ v, v = Value.slice none 0 0 → RetPd rs g C n c w (.returned v) wr)) (fun _ _ _ => 0)
    case atStart => exact ⟨rfl, rfl, hid fun v hv => by rw [hv]; exact HF.out _⟩
    case round =>
      obtain ⟨rfl, rfl, hF⟩ := hrel
      go_wp2_with fail
      go_ret
      exact hF.out _ rfl
  | ok mp =>
    obtain ⟨m, p⟩ := mp
    rw [hp] at HP hrs
    simp only at hrs
    have hm16 := (plainS_ok hp).2
    clear hp
    by_cases hm : 0 < m
    · rw [if_pos hm] at hrs
      have t1 : decide ((0 : Int) < (m : Int)) = true := decide_eq_true (by omega)
      have HRV := hid hrs
      clear hrs
      go_enter Try.func72, Try.ntmps72
      go_wp2_with fail
      refine HP.out.mono ?_
      rintro e w1 ⟨rfl, hb1, kt1⟩
      have HND := hid (needd_t kt1)
      have hmI : (0 : Int) < (m : Int) := by omega
      have HB1 := hid hb1
      have HK1 := hid kt1
      clear hb1 kt1 HP
      go_wp2_with fail
      refine HND.out.mono ?_
      rintro e w2 ⟨rfl, rfl⟩
      go_upto_region 5 with fail
      have hgpw : w.heap.size ≤ w1.heap.size := HB1.out.size
      have KP0 := hid (Blk.new w1 51 #[.int .i64 0, .int .i64 0])
      have KT0 := hid (HK1.out.alloc (.cells #[.int .i64 0, .int .i64 0] 51))
      have HB0 := hid (HB1.out.alloc (.cells #[.int .i64 0, .int .i64 0] 51))
      have KT3 := hid HK1.out.typed
      clear HND HK1 HB1 hmI
      generalize w1.alloc (.cells #[.int .i64 0, .int .i64 0] 51) = w2 at *
      obtain ⟨gp, hgp⟩ : ∃ gp, gp = w1.heap.size := ⟨_, rfl⟩
      rw [← hgp] at hgpw KP0 ⊢
      clear hgp KT3
      have HI0 := hid (show PtInv bs z m 0 p 0 0 0 [] from ⟨fun _ => by rw [← HRS.out, HRV.out]; simp, fun h => absurd rfl h, fun _ => by omega, fun _ => rfl⟩)
      go_wp2_with fail
      go_loopw [4, 6] (fun u4 u6 wr => ∃ (i : Nat) (acc : List (Int × Int)) (A : Option Addr) (f : Nat) (T V : Int) (zi : Nat) (ei : Int), i ≤ m ∧ u6 = .int .i64 (i : Nat) ∧ u4 = .slice A i f ∧ acc.length = i ∧ Hid (PtInv bs z m i zi ei T V acc) ∧ Hid (wr.ownsRow (gp + 1) 51 2 (.slice A i f) i (acc.flatMap cellsP) ∧ Blk wr gp 51 #[.int .i64 T, .int .i64 V] ∧ Blk wr g 79 (rdC C n c zi ei) ∧ But g w wr)) (fun _ u6 _ => m - (intOf u6).toNat)
      case atStart => exact ⟨0, [], none, 0, 0, 0, p, 0, Nat.zero_le _, rfl, rfl, rfl, HI0, hid ⟨World.ownsRow_nil _ _ _ _, KP0.out, KT0.out, HB0.out⟩⟩
      case round =>
        obtain ⟨i, acc, A, f, T, V, zi, ei, hi, rfl, rfl, hla, HINV, HW⟩ := hrel
        obtain ⟨hown, kp, kt, hb⟩ := HW.out
        obtain ⟨r0, r1, r2, r3, r4, r5⟩ := kt.rd
        by_cases hei : ei = 0
        · subst hei
          by_cases hlt : i < m
          · have KT3 := hid kt.typed
            have HTB := hid (HINV.out.2.2.1 rfl).1
            have HVB := hid (HINV.out.2.2.1 rfl).2
            have hltI : (i : Int) < (m : Int) := by omega
            obtain ⟨r, hr⟩ : ∃ r, r = rdTime bs (decide (i = 0)) T zi := ⟨_, rfl⟩
            obtain ⟨q, hq⟩ : ∃ q, q = rdMore bs V (-2305843009213693952) 2305843009213693952 r.2.1 r.2.2 := ⟨_, rfl⟩
            by_cases hi0 : i = 0
            · have z1 : ((i : Int) == 0) = true := by simp [hi0]
              have HPL := hid (plaind (most := 281474976710656) (bs := bs) kt (HS.out.butS hb KTY.out) (by decide))
              have hr1 : (r.1 : Int) = ((rdPlain bs 281474976710656 zi 0).1 : Nat) ∧ r.2 = (rdPlain bs 281474976710656 zi 0).2 := by rw [hr]; unfold rdTime; rw [if_pos (by simp [hi0])]; exact ⟨rfl, rfl⟩
              rw [← hr1.1, ← hr1.2] at HPL
              have HO4 := hid (And.intro hown (And.intro kp hb))
              have HRQ := hid (And.intro hr hq)
              clear hr1 hi0 hown kp kt hb HW hr hq
              go_wp2_with fail
              refine HPL.out.mono ?_
              rintro e w4 ⟨rfl, hb4, kt4⟩
              obtain ⟨hown, kp, hb⟩ := HO4.out
              have hown4 := own_but hown hb4 KT3.out (by decide)
              have hbut4 := hb.trans hb4
              have kp4 := kp.but hb4 (by omega)
              have KT3 := hid kt4.typed
              obtain ⟨y0, y1, y2, y3, y4⟩ := kp4.two
              have kp3 : Blk (w4.setCell ⟨gp, 0, none⟩ (.int .i64 r.1)) gp 51 #[.int .i64 r.1, .int .i64 V] := kp4.set_ 0 (.int .i64 r.1)
              have hown3 := own_far (a := ⟨gp, 0, none⟩) hown4 (by simp) (.int .i64 r.1)
              have kt3 := kt4.far (p := ⟨gp, 0, none⟩) (by simp; omega) (.int .i64 r.1)
              have hb3 := hbut4.setn (p := ⟨gp, 0, none⟩) hgpw (.int .i64 r.1)
              have HX6 := hid (And.intro kp3 (And.intro hown3 (And.intro kt3 hb3)))
              clear kp3 hown3 kt3 hb3 kp4 hown4 kt4 hbut4 hown kp hb hb4 HPL HO4 r0 r1 r2 r3 r4 r5
              go_upto_region 11 with fail
              obtain ⟨kp3, hown3, kt3, hb3⟩ := HX6.out
              obtain ⟨hr, hq⟩ := HRQ.out
              clear y0 y1 y2 y3 y4 HX6 HRQ
              generalize w4.setCell ⟨gp, 0, none⟩ (.int .i64 r.1) = w3 at *
              have KT3 := hid kt3.typed
              have HST := hid (ptL_step (bs := bs) (k := m - (i + 1)) (acc := acc) HTB.out HVB.out r q hr hq)
              have HM2 := hid (mored (bs := bs) (than := V) (least := -2305843009213693952) (most := 2305843009213693952) kt3 (HS.out.butS hb3 KTY.out) HVB.out (by decide) (by decide))
              rw [← hq] at HM2
              have HOW := hid hown3
              have HBU := hid hb3
              have HKP := hid kp3
              obtain ⟨x0, x1, x2, x3, x4⟩ := kp3.two
              clear hown3 hb3 kp3 kt3 hq hr
              go_wp2_with fail
              refine HM2.out.mono ?_
              rintro e w5 ⟨rfl, hb5, kt5⟩
              have hown5 := own_but HOW.out hb5 KT3.out (by decide)
              have hbut5 := HBU.out.trans hb5
              have kp5 := HKP.out.but hb5 (by omega)
              clear HOW HBU HKP x0 x1 x2 x3 x4 HM2 hb5
              obtain ⟨y0, y1, y2, y3, y4⟩ := kp5.two
              have kp6 : Blk (w5.setCell ⟨gp, 1, none⟩ (.int .i64 q.1)) gp 51 #[.int .i64 r.1, .int .i64 q.1] := kp5.set_ 1 (.int .i64 q.1)
              have hown6 := own_far (a := ⟨gp, 1, none⟩) hown5 (by simp) (.int .i64 q.1)
              have kt6 := kt5.far (p := ⟨gp, 1, none⟩) (by simp; omega) (.int .i64 q.1)
              have hb6 := hbut5.setn (p := ⟨gp, 1, none⟩) hgpw (.int .i64 q.1)
              have HX6 := hid (And.intro kp6 (And.intro hown6 (And.intro kt6 hb6)))
              clear kp6 hown6 kt6 hb6 kp5 hown5 kt5 hbut5
              go_upto_region 12 with fail
              obtain ⟨kp6, hown6, kt6, hb6⟩ := HX6.out
              clear y0 y1 y2 y3 y4 HX6
              generalize w5.setCell ⟨gp, 1, none⟩ (.int .i64 q.1) = w6 at *
              obtain ⟨y0, y1, y2, y3, y4⟩ := kp6.two
              have hnew := pair_new w6 r.1 q.1
              have kp7 := kp6.alloc (.cells #[.int .i64 r.1, .int .i64 q.1] 51)
              have kt7 := kt6.alloc (.cells #[.int .i64 r.1, .int .i64 q.1] 51)
              have hown7 := hown6.alloc (.cells #[.int .i64 r.1, .int .i64 q.1] 51)
              have hb7 := hb6.alloc (.cells #[.int .i64 r.1, .int .i64 q.1] 51)
              have hsz : gp + 1 ≤ (w6.alloc (.cells #[.int .i64 r.1, .int .i64 q.1] 51)).heap.size := by have := kp7.lt; omega
              clear hown6 hb6 kt6 kp6
              go_wp2_with (at_builtin; refine wpList_append_any _ rfl (.tmp 40) (.tmp 42) 22 rfl (gp + 1) 51 i0 (.agg #[.int .i64 0, .int .i64 0]) 2 16 Try.underlying22 HI.out.1 HI.out.2.1 HI.out.2.2.1 HI.out.2.2.2 rfl (by decide) _ i (acc.flatMap cellsP) rfl hown7 (some ⟨w6.heap.size, 0, none⟩) 1 1 [.int .i64 r.1, .int .i64 q.1] rfl hnew (by intro u hu; simp only [List.mem_cons, List.not_mem_nil, or_false] at hu; rcases hu with rfl | rfl <;> rfl) (by simp only [maxLen]; omega) (by omega) hsz ?_; intro v' w8 hown' hg' hv')
              obtain ⟨A', f', rfl, _, _⟩ := own_form hown'
              have hbl := (Below.refl (gp + 1) _).grown hg' hsz (fun k hk => (hown7.lt k hk).1)
              have kt8 := kt7.below hbl (by omega)
              have kp8 := kp7.below hbl (by omega)
              have hb8 := hb7.then_ (hbl.mono (by omega))
              rw [← cellsP_snoc acc (r.1, q.1)] at hown'
              have HNX := hid (And.intro hown' (And.intro kp8 (And.intro kt8 hb8)))
              clear hown' hown7 kp7 kt7 hb7 hg' hv' hbl kt8 kp8 hb8 hnew hsz y0 y1 y2 y3 y4
              have HRL := hid (show PtInv bs z m (i + 1) q.2.1 q.2.2 r.1 q.1 (acc ++ [(r.1, q.1)]) by
                have h0 := HINV.out.1 rfl
                rw [show m - i = m - (i + 1) + 1 by omega] at h0
                rcases HST.out with ⟨a1, a2, a3, a4, a5⟩ | ⟨a1, a2⟩
                · exact ⟨fun _ => by rw [h0, a3]; simp, fun h => absurd a1 h, fun _ => ⟨a4, a5⟩, fun h => absurd h (by omega)⟩
                · exact ⟨fun h => absurd h a1, fun _ => by rw [h0, a2], fun h => absurd h a1, fun h => absurd h (by omega)⟩)
              go_wp2_with fail
              go_roundw
              case rel => exact ⟨i + 1, acc ++ [(r.1, q.1)], A', f', r.1, q.1, q.2.1, q.2.2, by omega, by go_num, rfl, by simp [hla], HRL, HNX⟩
              case measure => simp [intOf]; omega
            · have z1 : ((i : Int) == 0) = false := by simp [hi0]
              have HPL := hid (mored (than := T) (least := 0) (most := 281474976710656) (bs := bs) kt (HS.out.butS hb KTY.out) (by have := HTB.out; omega) (by decide) (by decide))
              have hr1 : r = rdMore bs T 0 281474976710656 zi 0 := by rw [hr]; unfold rdTime; rw [if_neg (by simp [hi0])]
              rw [← hr1] at HPL
              have HO4 := hid (And.intro hown (And.intro kp hb))
              have HRQ := hid (And.intro hr hq)
              obtain ⟨x0, x1, x2, x3, x4⟩ := kp.two
              clear hr1 hi0 hown kp kt hb HW hr hq
              go_wp2_with fail
              refine HPL.out.mono ?_
              rintro e w4 ⟨rfl, hb4, kt4⟩
              obtain ⟨hown, kp, hb⟩ := HO4.out
              have hown4 := own_but hown hb4 KT3.out (by decide)
              have hbut4 := hb.trans hb4
              have kp4 := kp.but hb4 (by omega)
              clear x0 x1 x2 x3 x4
              obtain ⟨y0, y1, y2, y3, y4⟩ := kp4.two
              have kp3 : Blk (w4.setCell ⟨gp, 0, none⟩ (.int .i64 r.1)) gp 51 #[.int .i64 r.1, .int .i64 V] := kp4.set_ 0 (.int .i64 r.1)
              have hown3 := own_far (a := ⟨gp, 0, none⟩) hown4 (by simp) (.int .i64 r.1)
              have kt3 := kt4.far (p := ⟨gp, 0, none⟩) (by simp; omega) (.int .i64 r.1)
              have hb3 := hbut4.setn (p := ⟨gp, 0, none⟩) hgpw (.int .i64 r.1)
              have HX6 := hid (And.intro kp3 (And.intro hown3 (And.intro kt3 hb3)))
              clear kp3 hown3 kt3 hb3 kp4 hown4 kt4 hbut4 hown kp hb hb4 HPL HO4 r0 r1 r2 r3 r4 r5
              go_upto_region 11 with fail
              obtain ⟨kp3, hown3, kt3, hb3⟩ := HX6.out
              obtain ⟨hr, hq⟩ := HRQ.out
              clear y0 y1 y2 y3 y4 HX6 HRQ
              generalize w4.setCell ⟨gp, 0, none⟩ (.int .i64 r.1) = w3 at *
              have KT3 := hid kt3.typed
              have HST := hid (ptL_step (bs := bs) (k := m - (i + 1)) (acc := acc) HTB.out HVB.out r q hr hq)
              have HM2 := hid (mored (bs := bs) (than := V) (least := -2305843009213693952) (most := 2305843009213693952) kt3 (HS.out.butS hb3 KTY.out) HVB.out (by decide) (by decide))
              rw [← hq] at HM2
              have HOW := hid hown3
              have HBU := hid hb3
              have HKP := hid kp3
              obtain ⟨x0, x1, x2, x3, x4⟩ := kp3.two
              clear hown3 hb3 kp3 kt3 hq hr
              go_wp2_with fail
              refine HM2.out.mono ?_
              rintro e w5 ⟨rfl, hb5, kt5⟩
              have hown5 := own_but HOW.out hb5 KT3.out (by decide)
              have hbut5 := HBU.out.trans hb5
              have kp5 := HKP.out.but hb5 (by omega)
              clear HOW HBU HKP x0 x1 x2 x3 x4 HM2 hb5
              obtain ⟨y0, y1, y2, y3, y4⟩ := kp5.two
              have kp6 : Blk (w5.setCell ⟨gp, 1, none⟩ (.int .i64 q.1)) gp 51 #[.int .i64 r.1, .int .i64 q.1] := kp5.set_ 1 (.int .i64 q.1)
              have hown6 := own_far (a := ⟨gp, 1, none⟩) hown5 (by simp) (.int .i64 q.1)
              have kt6 := kt5.far (p := ⟨gp, 1, none⟩) (by simp; omega) (.int .i64 q.1)
              have hb6 := hbut5.setn (p := ⟨gp, 1, none⟩) hgpw (.int .i64 q.1)
              have HX6 := hid (And.intro kp6 (And.intro hown6 (And.intro kt6 hb6)))
              clear kp6 hown6 kt6 hb6 kp5 hown5 kt5 hbut5
              go_upto_region 12 with fail
              obtain ⟨kp6, hown6, kt6, hb6⟩ := HX6.out
              clear y0 y1 y2 y3 y4 HX6
              generalize w5.setCell ⟨gp, 1, none⟩ (.int .i64 q.1) = w6 at *
              obtain ⟨y0, y1, y2, y3, y4⟩ := kp6.two
              have hnew := pair_new w6 r.1 q.1
              have kp7 := kp6.alloc (.cells #[.int .i64 r.1, .int .i64 q.1] 51)
              have kt7 := kt6.alloc (.cells #[.int .i64 r.1, .int .i64 q.1] 51)
              have hown7 := hown6.alloc (.cells #[.int .i64 r.1, .int .i64 q.1] 51)
              have hb7 := hb6.alloc (.cells #[.int .i64 r.1, .int .i64 q.1] 51)
              have hsz : gp + 1 ≤ (w6.alloc (.cells #[.int .i64 r.1, .int .i64 q.1] 51)).heap.size := by have := kp7.lt; omega
              clear hown6 hb6 kt6 kp6
              go_wp2_with (at_builtin; refine wpList_append_any _ rfl (.tmp 40) (.tmp 42) 22 rfl (gp + 1) 51 i0 (.agg #[.int .i64 0, .int .i64 0]) 2 16 Try.underlying22 HI.out.1 HI.out.2.1 HI.out.2.2.1 HI.out.2.2.2 rfl (by decide) _ i (acc.flatMap cellsP) rfl hown7 (some ⟨w6.heap.size, 0, none⟩) 1 1 [.int .i64 r.1, .int .i64 q.1] rfl hnew (by intro u hu; simp only [List.mem_cons, List.not_mem_nil, or_false] at hu; rcases hu with rfl | rfl <;> rfl) (by simp only [maxLen]; omega) (by omega) hsz ?_; intro v' w8 hown' hg' hv')
              obtain ⟨A', f', rfl, _, _⟩ := own_form hown'
              have hbl := (Below.refl (gp + 1) _).grown hg' hsz (fun k hk => (hown7.lt k hk).1)
              have kt8 := kt7.below hbl (by omega)
              have kp8 := kp7.below hbl (by omega)
              have hb8 := hb7.then_ (hbl.mono (by omega))
              rw [← cellsP_snoc acc (r.1, q.1)] at hown'
              have HNX := hid (And.intro hown' (And.intro kp8 (And.intro kt8 hb8)))
              clear hown' hown7 kp7 kt7 hb7 hg' hv' hbl kt8 kp8 hb8 hnew hsz y0 y1 y2 y3 y4
              have HRL := hid (show PtInv bs z m (i + 1) q.2.1 q.2.2 r.1 q.1 (acc ++ [(r.1, q.1)]) by
                have h0 := HINV.out.1 rfl
                rw [show m - i = m - (i + 1) + 1 by omega] at h0
                rcases HST.out with ⟨a1, a2, a3, a4, a5⟩ | ⟨a1, a2⟩
                · exact ⟨fun _ => by rw [h0, a3]; simp, fun h => absurd a1 h, fun _ => ⟨a4, a5⟩, fun h => absurd h (by omega)⟩
                · exact ⟨fun h => absurd h a1, fun _ => by rw [h0, a2], fun h => absurd h a1, fun h => absurd h (by omega)⟩)
              go_wp2_with fail
              go_roundw
              case rel => exact ⟨i + 1, acc ++ [(r.1, q.1)], A', f', r.1, q.1, q.2.1, q.2.2, by omega, by go_num, rfl, by simp [hla], HRL, HNX⟩
              case measure => simp [intOf]; omega
          · obtain rfl : i = m := by omega
            have HF := hid (show RetPd rs g C n c w (.returned (.slice A i f)) wr by
              have h := HINV.out.1 rfl
              rw [Nat.sub_self] at h
              have h2 : rs = .ok (acc, zi) := by rw [HRS.out, h]; rfl
              rw [h2]
              refine ⟨A, f, by rw [hla], hb, kt, ?_⟩
              rw [hla]
              exact own_low hown (by omega))
            clear hown kp hb kt hlt hi HW
            go_wp2_with fail
            go_ret
            exact HF.out
        · have t2 : (ei == 0) = false := by simp [hei]
          have HF := hid (show RetPd rs g C n c w (.returned (.slice A i f)) wr by
            rw [HRS.out, HINV.out.2.1 hei]
            exact ⟨A, i, f, zi, rfl, hb, kt⟩)
          clear hei hown kp hb kt HW
          by_cases hlt : (i : Int) < (m : Int)
          · go_wp2_with fail
            go_ret
            exact HF.out
          · go_wp2_with fail
            go_ret
            exact HF.out
    · rw [if_neg hm] at hrs
      obtain rfl : m = 0 := by omega
      have HRV := hid hrs
      clear hrs hm
      go_enter Try.func72, Try.ntmps72
      go_wp2_with fail
      refine HP.out.mono ?_
      rintro e w1 ⟨rfl, hb1, kt1⟩
      have HND := hid (needd_f kt1)
      have HB1 := hid hb1
      clear hb1 kt1 HP
      go_wp2_with fail
      refine HND.out.mono ?_
      rintro e w2 ⟨rfl, hb2, kt2⟩
      have HF := hid (show ∀ o, RetPd rs g C n c w (.returned (.slice none 0 0)) (w2.alloc o) from fun o => by rw [HRV.out]; exact ⟨none, 0, 0, p, rfl, (HB1.out.trans hb2).alloc o, kt2.alloc o⟩)
      clear hb2 kt2 HND
      go_wp2_with fail
      go_loopw [4, 6] (fun u4 u6 wr => u6 = .int .i64 0 ∧ u4 = .slice none 0 0 ∧ Hid (∀ v, v = Value.slice none 0 0 → RetPd rs g C n c w (.returned v) wr)) (fun _ _ _ => 0)
      case atStart => exact ⟨rfl, rfl, hid fun v hv => by rw [hv]; exact HF.out _⟩
      case round =>
        obtain ⟨rfl, rfl, hF⟩ := hrel
        go_wp2_with fail
        go_ret
        exact hF.out _ rfl
end
end Go.Proofs.Ytedojdbihajnbaa
namespace Go.Proofs.Ytedojdbihajnbaa
open Go.RowKit Go.Shelf VB
open Go.Lib (hid)
set_option linter.unusedVariables false
set_option linter.unusedSimpArgs false
theorem strN_snoc (l : List Nat) (x : Nat) : strN l ++ strN [x] = strN (l ++ [x]) := by
  apply ByteArray.ext
  apply Array.ext'
  rw [ByteArray.data_append]
  show ((strOfNums (l.map fun x : Nat => (x : Int))).data ++ (strOfNums ([x].map fun x : Nat => (x : Int))).data).toList = (strOfNums ((l ++ [x]).map fun x : Nat => (x : Int))).data.toList
  rw [Array.toList_append, strOfNums_data, strOfNums_data, strOfNums_data]
  simp
/-- what the document's mutation hands back -/
def RetMd (r : Except Int (Mu × Nat)) (g : Nat) (C : Option Addr) (n c : Nat) (w : World) (e : Ending) (w' : World) : Prop :=
  match r with
  | .ok (m, p) => ∃ A f, e = .returned (vM m A f) ∧ But g w w' ∧ Blk w' g 79 (rdC C n c p 0) ∧ w'.ownsRow w.heap.size 51 2 (.slice A m.pts.length f) m.pts.length (m.pts.flatMap cellsP)
  | .error x => ∃ (m : Mu) (A : Option Addr) (q f z' : Nat), e = .returned (.agg (aM m.kind m.name m.eps m.floor m.scale (.slice A q f))) ∧ But g w w' ∧ Blk w' g 79 (rdC C n c z' x)
section
variable {w : World} {g : Nat} {C : Option Addr} {n c z : Nat} {bs : List Nat} {e : Int}
set_option maxHeartbeats 1000000 in
theorem points_e (he : e ≠ 0) (kt : Blk w g 79 (rdC C n c z e)) :
    Calls Try.prog 72 #[.pointer (some ⟨g, 0, none⟩)] w (RetS (.slice none 0 0) g (rdC C n c z e) w) := by
  have HP := hid (plaind_er (most := 16) he kt)
  have HE := hid he
  clear kt he
  go_enter Try.func72, Try.ntmps72
  go_wp2_with fail
  refine HP.out.mono ?_
  rintro e' w1 ⟨rfl, hb1, kt1⟩
  have HND := hid (needd_e false HE.out kt1)
  have HF := hid (show ∀ o, RetS (.slice none 0 0) g (rdC C n c z e) w (.returned (.slice none 0 0)) (w1.alloc o) from fun o => ⟨rfl, hb1.alloc o, kt1.alloc o⟩)
  clear hb1 kt1
  go_wp2_with fail
  refine HND.out.mono ?_
  rintro e' w2 ⟨rfl, rfl⟩
  go_wp2_with fail
  go_loopw [4, 6] (fun u4 u6 wr => u6 = .int .i64 0 ∧ u4 = .slice none 0 0 ∧ Hid (∀ v, v = Value.slice none 0 0 → RetS (.slice none 0 0) g (rdC C n c z e) w (.returned v) wr)) (fun _ _ _ => 0)
  case atStart => exact ⟨rfl, rfl, hid fun v hv => by rw [hv]; exact HF.out _⟩
  case round =>
    obtain ⟨rfl, rfl, hF⟩ := hrel
    go_wp2_with fail
    go_ret
    exact hF.out _ rfl
/-- what follows a kind and a name -/
def afterN (bs : List Nat) (kd : Nat) : Except Int (List Nat × Nat) → Except Int (Mu × Nat)
  | .error x => .error x
  | .ok (nm, p) => bodyS bs kd nm p
def InvA (bs : List Nat) (z kd z1 : Nat) (e1 : Int) : Prop := (e1 = 0 → mutS bs z = (if 1 ≤ kd ∧ kd ≤ 4 then afterN bs kd (nameS bs z1) else .error 7)) ∧ (e1 ≠ 0 → mutS bs z = .error e1) ∧ kd < 256 ∧ z1 ≤ 1000000
def InvB (bs : List Nat) (z kd z1 : Nat) (e2 : Int) : Prop := (e2 = 0 → (1 ≤ kd ∧ kd ≤ 4) ∧ mutS bs z = afterN bs kd (nameS bs z1)) ∧ (e2 ≠ 0 → mutS bs z = .error e2) ∧ kd < 256 ∧ z1 ≤ 1000000
def InvC (bs : List Nat) (z kd many z2 : Nat) (e3 : Int) : Prop := (e3 = 0 → (1 ≤ kd ∧ kd ≤ 4) ∧ mutS bs z = (if 1 ≤ many ∧ many ≤ 12 then afterN bs kd (nameL bs many z2 []) else .error 7)) ∧ (e3 ≠ 0 → mutS bs z = .error e3) ∧ kd < 256 ∧ many < 256 ∧ z2 ≤ 1000000
def InvD (bs : List Nat) (z kd many i zi : Nat) (ei : Int) (acc : List Nat) (s : ByteArray) : Prop := (ei = 0 → (1 ≤ kd ∧ kd ≤ 4) ∧ s = strN acc ∧ mutS bs z = afterN bs kd (nameL bs (many - i) zi acc)) ∧ (ei ≠ 0 → mutS bs z = .error ei) ∧ kd < 256 ∧ many < 256 ∧ zi ≤ 1000000 ∧ s.size ≤ i
theorem inv_a {hz : z ≤ 1000000} (hl : bs.length ≤ 1000000) (hb : ∀ x ∈ bs, x < 256) : InvA bs z (rdOne bs z 0).1 (rdOne bs z 0).2.1 (rdOne bs z 0).2.2 := by
  unfold rdOne InvA mutS
  rw [if_pos rfl]
  by_cases h : z < bs.length
  · rw [if_pos h, if_pos h]
    refine ⟨fun _ => ?_, fun h => absurd rfl h, getD_byte hb h, by simp only; omega⟩
    by_cases hk : 1 ≤ bs.getD z 0 ∧ bs.getD z 0 ≤ 4
    · rw [if_pos hk, if_pos hk]
      cases nameS bs (z + 1) <;> rfl
    · rw [if_neg hk, if_neg hk]
  · rw [if_neg h, if_neg h]
    exact ⟨fun h => absurd h (by simp), fun _ => rfl, by simp, hz⟩
theorem inv_b {kd z1 : Nat} {e1 e2 : Int} (h : InvA bs z kd z1 e1) (b : Bool) (hb : b = true ↔ (1 ≤ kd ∧ kd ≤ 4)) (he : e2 = if e1 = 0 ∧ b = false then 7 else e1) : InvB bs z kd z1 e2 := by
  obtain ⟨h1, h2, h3, h4⟩ := h
  by_cases h0 : e1 = 0
  · cases b with
    | true =>
      rw [if_neg (by simp)] at he
      have hk := hb.1 rfl
      refine ⟨fun _ => ⟨hk, by rw [h1 h0, if_pos hk]⟩, fun h => absurd (he.trans h0) h, h3, h4⟩
    | false =>
      rw [if_pos ⟨h0, rfl⟩] at he
      subst he
      exact ⟨fun h => absurd h (by simp), fun _ => by rw [h1 h0, if_neg (fun h => by have := hb.2 h; cases this)], h3, h4⟩
  · rw [if_neg (fun h => h0 h.1)] at he
    subst he
    exact ⟨fun h => absurd h h0, h2, h3, h4⟩
theorem inv_c {kd z1 : Nat} {e2 : Int} (h : InvB bs z kd z1 e2) (hl : bs.length ≤ 1000000) (hb : ∀ x ∈ bs, x < 256) : InvC bs z kd (rdOne bs z1 e2).1 (rdOne bs z1 e2).2.1 (rdOne bs z1 e2).2.2 := by
  obtain ⟨h1, h2, h3, h4⟩ := h
  unfold rdOne InvC
  by_cases h0 : e2 = 0
  · rw [if_pos h0]
    obtain ⟨hk, h1⟩ := h1 h0
    unfold nameS at h1
    by_cases h : z1 < bs.length
    · rw [if_pos h] at h1 ⊢
      refine ⟨fun _ => ⟨hk, ?_⟩, fun h => absurd rfl h, h3, getD_byte hb h, by simp only; omega⟩
      rw [h1]
      by_cases hm : 1 ≤ bs.getD z1 0 ∧ bs.getD z1 0 ≤ 12
      · rw [if_pos hm, if_pos hm]
      · rw [if_neg hm, if_neg hm]; rfl
    · rw [if_neg h] at h1 ⊢
      exact ⟨fun h => absurd h (by simp), fun _ => h1, h3, by simp, h4⟩
  · rw [if_neg h0]
    exact ⟨fun h => absurd h h0, h2, h3, by simp, h4⟩
theorem inv_d {kd many z2 : Nat} {e3 e4 : Int} (h : InvC bs z kd many z2 e3) (b : Bool) (hb : b = true ↔ (1 ≤ many ∧ many ≤ 12)) (he : e4 = if e3 = 0 ∧ b = false then 7 else e3) : InvD bs z kd many 0 z2 e4 [] ⟨#[]⟩ := by
  obtain ⟨h1, h2, h3, h4, h5⟩ := h
  by_cases h0 : e3 = 0
  · obtain ⟨hk, h1⟩ := h1 h0
    cases b with
    | true =>
      rw [if_neg (by simp)] at he
      have hm := hb.1 rfl
      refine ⟨fun _ => ⟨hk, rfl, by rw [h1, if_pos hm]; rfl⟩, fun h => absurd (he.trans h0) h, h3, h4, h5, Nat.le_refl _⟩
    | false =>
      rw [if_pos ⟨h0, rfl⟩] at he
      subst he
      exact ⟨fun h => absurd h (by simp), fun _ => by rw [h1, if_neg (fun h => by have := hb.2 h; cases this)], h3, h4, h5, Nat.le_refl _⟩
  · rw [if_neg (fun h => h0 h.1)] at he
    subst he
    exact ⟨fun h => absurd h h0, h2, h3, h4, h5, Nat.le_refl _⟩
theorem inv_e {kd many i zi : Nat} {ei e5 : Int} {acc : List Nat} {s : ByteArray} (h : InvD bs z kd many i zi ei acc s) (hi : i < many) (hl : bs.length ≤ 1000000) (he : e5 = if (rdOne bs zi ei).2.2 = 0 ∧ letB ((rdOne bs zi ei).1 : Nat) = false then 7 else (rdOne bs zi ei).2.2) :
    InvD bs z kd many (i + 1) (rdOne bs zi ei).2.1 e5 (acc ++ [(rdOne bs zi ei).1]) (s ++ strN [(rdOne bs zi ei).1]) := by
  obtain ⟨h1, h2, h3, h4, h5, h6⟩ := h
  have hsz : ∀ x : Nat, (s ++ strN [x]).size ≤ i + 1 := by
    intro x
    rw [ByteArray.size_append]
    have : (strN [x]).size = 1 := by rw [strN_size]; rfl
    omega
  unfold rdOne at he ⊢
  by_cases h0 : ei = 0
  · obtain ⟨hk, hs, h1⟩ := h1 h0
    rw [if_pos h0] at he ⊢
    rw [show many - i = (many - (i + 1)) + 1 by omega] at h1
    unfold nameL at h1
    by_cases hz : zi < bs.length
    · rw [if_pos hz] at h1 he ⊢
      by_cases hlt : letB (bs.getD zi 0 : Nat) = true
      · rw [if_pos hlt] at h1
        rw [if_neg (fun h => by have := h.2; simp only at this; rw [hlt] at this; cases this)] at he
        subst he
        exact ⟨fun _ => ⟨hk, by rw [hs, strN_snoc], h1⟩, fun h => absurd rfl h, h3, h4, by simp only; omega, hsz _⟩
      · rw [if_neg hlt] at h1
        rw [if_pos ⟨rfl, by simpa using hlt⟩] at he
        subst he
        exact ⟨fun h => absurd h (by simp), fun _ => h1, h3, h4, by simp only; omega, hsz _⟩
    · rw [if_neg hz] at h1 he ⊢
      rw [if_neg (by simp)] at he
      subst he
      exact ⟨fun h => absurd h (by simp), fun _ => h1, h3, h4, h5, hsz _⟩
  · rw [if_neg h0] at he ⊢
    rw [if_neg (fun h => h0 h.1)] at he
    subst he
    exact ⟨fun h => absurd h h0, h2, h3, h4, h5, hsz _⟩
end
theorem fin_md {rs : Except Int (Mu × Nat)} {w W : World} {g gr n c q f p : Nat} {C A : Option Addr} {m : Mu} {x : Int} (h0 : x = 0 → rs = .ok (m, p) ∧ q = m.pts.length ∧ ∃ base, w.heap.size < base ∧ W.ownsRow base 51 2 (.slice A q f) q (m.pts.flatMap cellsP)) (h1 : x ≠ 0 → rs = .error x)
    (kt : Blk W g 79 (rdC C n c p x)) (hb : But g w W) (hgr : gr = w.heap.size) (hg : g < w.heap.size) (y0 y1 y2 y3 y4 y5 : Value) :
    RetMd rs g C n c w (.returned (.agg (aM m.kind m.name m.eps m.floor m.scale (.slice A q f)))) (set6 W gr y0 y1 y2 y3 y4 y5) := by
  have hb6 := hb.set6 (q := gr) (.inl (by omega)) y0 y1 y2 y3 y4 y5
  have kt6 := kt.far6 (q := gr) (by omega) y0 y1 y2 y3 y4 y5
  by_cases hx : x = 0
  · obtain ⟨e1, e2, base, e3, e4⟩ := h0 hx
    subst e2
    subst hx
    rw [e1]
    exact ⟨A, f, rfl, hb6, kt6, own_low (own_far6 e4 (by omega) y0 y1 y2 y3 y4 y5) (by omega)⟩
  · rw [h1 hx]
    exact ⟨m, A, q, f, p, rfl, hb6, kt6⟩
theorem own_nilM (W : World) (b : Nat) (m : Mu) (h : m.pts = []) : 0 = m.pts.length ∧ ∃ base, b < base ∧ W.ownsRow base 51 2 (.slice none 0 0) 0 (m.pts.flatMap cellsP) := by
  rw [h]
  exact ⟨rfl, b + 1, by omega, World.ownsRow_nil _ _ _ _⟩
theorem points_err {bs : List Nat} {z : Nat} {x : Int} (h : pointsS bs z = .error x) : x ≠ 0 := by
  unfold pointsS at h
  cases hp : plainS bs 16 z with
  | error y =>
    rw [hp] at h
    simp only at h
    injection h with h
    rw [← h]
    exact plain_err hp
  | ok mp =>
    obtain ⟨m, p⟩ := mp
    rw [hp] at h
    simp only at h
    split at h
    · exact ptL_err bs _ _ _ _ _ _ _ h
    · injection h with h
      omega
section
variable {rs : Except Int (Mu × Nat)} {bs : List Nat} {zi p1 p2 v kd : Nat} {ei x1 x2 d : Int} {s : ByteArray} {acc : List Nat}
theorem fin_1 (hv : (ei = 0 → ((1 ≤ 1 ∧ 1 ≤ 4) ∧ s = strN acc ∧ rs = bodyS bs 1 acc zi)) ∧ (ei ≠ 0 → rs = .error ei)) (h1 : rdPlain bs 1099511627776 zi ei = (v, p1, x1)) (h2 : rdMore bs 0 (-40) 40 p1 x1 = (d, p2, x2)) (W : World) (b : Nat) :
    (x2 = 0 → rs = .ok ((⟨1, s, (v : Nat), 0, d, []⟩ : Mu), p2) ∧ 0 = (⟨1, s, (v : Nat), 0, d, []⟩ : Mu).pts.length ∧ ∃ base, b < base ∧ W.ownsRow base 51 2 (.slice none 0 0) 0 ((⟨1, s, (v : Nat), 0, d, []⟩ : Mu).pts.flatMap cellsP)) ∧ (x2 ≠ 0 → rs = .error x2) := by
  have key : (x2 = 0 → rs = .ok ((⟨1, s, (v : Nat), 0, d, []⟩ : Mu), p2)) ∧ (x2 ≠ 0 → rs = .error x2) := by
    by_cases he : ei = 0
    · subst he
      obtain ⟨_, hs, hr⟩ := hv.1 rfl
      unfold bodyS at hr
      rw [if_pos rfl] at hr
      unfold boundS at hr
      rw [rdPlain_0] at h1
      cases hp : plainS bs 1099511627776 zi with
      | error x =>
        rw [hp] at h1 hr
        simp only [Prod.mk.injEq] at h1
        obtain ⟨rfl, rfl, rfl⟩ := h1
        rw [rdMore_e (plain_err hp)] at h2
        simp only [Prod.mk.injEq] at h2
        obtain ⟨rfl, rfl, rfl⟩ := h2
        exact ⟨fun h => absurd h (plain_err hp), fun _ => hr⟩
      | ok r =>
        obtain ⟨a, q⟩ := r
        rw [hp] at h1 hr
        simp only [Prod.mk.injEq] at h1
        obtain ⟨rfl, rfl, rfl⟩ := h1
        rw [rdMore_0] at h2
        simp only at hr
        cases hsg : signS bs q with
        | error x =>
          rw [hsg] at h2 hr
          simp only [Prod.mk.injEq] at h2
          obtain ⟨rfl, rfl, rfl⟩ := h2
          exact ⟨fun h => absurd h (sign_err hsg), fun _ => hr⟩
        | ok r =>
          obtain ⟨y, q2⟩ := r
          rw [hsg] at h2 hr
          simp only at h2 hr
          by_cases hc : -40 ≤ y ∧ y ≤ 40
          · rw [if_pos (by omega)] at h2
            rw [if_pos hc] at hr
            simp only [Prod.mk.injEq] at h2
            obtain ⟨rfl, rfl, rfl⟩ := h2
            exact ⟨fun _ => by rw [hr, hs]; simp, fun h => absurd rfl h⟩
          · rw [if_neg (by omega)] at h2
            rw [if_neg hc] at hr
            simp only [Prod.mk.injEq] at h2
            obtain ⟨rfl, rfl, rfl⟩ := h2
            exact ⟨fun h => absurd h (by decide), fun _ => hr⟩
    · unfold rdPlain at h1
      rw [if_neg he] at h1
      simp only [Prod.mk.injEq] at h1
      obtain ⟨rfl, rfl, rfl⟩ := h1
      rw [rdMore_e he] at h2
      simp only [Prod.mk.injEq] at h2
      obtain ⟨rfl, rfl, rfl⟩ := h2
      exact ⟨fun h => absurd h he, hv.2⟩
  exact ⟨fun h => ⟨key.1 h, own_nilM W b _ rfl⟩, key.2⟩
theorem fin_4 (hv : (ei = 0 → ((1 ≤ 4 ∧ 4 ≤ 4) ∧ s = strN acc ∧ rs = bodyS bs 4 acc zi)) ∧ (ei ≠ 0 → rs = .error ei)) (h1 : rdPlain bs 281474976710656 zi ei = (v, p1, x1)) (W : World) (b : Nat) :
    (x1 = 0 → rs = .ok ((⟨4, s, 0, (v : Nat), 0, []⟩ : Mu), p1) ∧ 0 = (⟨4, s, 0, (v : Nat), 0, []⟩ : Mu).pts.length ∧ ∃ base, b < base ∧ W.ownsRow base 51 2 (.slice none 0 0) 0 ((⟨4, s, 0, (v : Nat), 0, []⟩ : Mu).pts.flatMap cellsP)) ∧ (x1 ≠ 0 → rs = .error x1) := by
  have key : (x1 = 0 → rs = .ok ((⟨4, s, 0, (v : Nat), 0, []⟩ : Mu), p1)) ∧ (x1 ≠ 0 → rs = .error x1) := by
    by_cases he : ei = 0
    · subst he
      obtain ⟨_, hs, hr⟩ := hv.1 rfl
      unfold bodyS at hr
      rw [if_neg (by decide), if_neg (by decide), if_neg (by decide)] at hr
      rw [rdPlain_0] at h1
      cases hp : plainS bs 281474976710656 zi with
      | error x =>
        rw [hp] at h1 hr
        simp only [Prod.mk.injEq] at h1
        obtain ⟨rfl, rfl, rfl⟩ := h1
        exact ⟨fun h => absurd h (plain_err hp), fun _ => hr⟩
      | ok r =>
        obtain ⟨a, q⟩ := r
        rw [hp] at h1 hr
        simp only [Prod.mk.injEq] at h1
        obtain ⟨rfl, rfl, rfl⟩ := h1
        exact ⟨fun _ => by rw [hr, hs], fun h => absurd rfl h⟩
    · unfold rdPlain at h1
      rw [if_neg he] at h1
      simp only [Prod.mk.injEq] at h1
      obtain ⟨rfl, rfl, rfl⟩ := h1
      exact ⟨fun h => absurd h he, hv.2⟩
  exact ⟨fun h => ⟨key.1 h, own_nilM W b _ rfl⟩, key.2⟩
theorem fin_2 (k1 : kd ≠ 1) (k3 : kd ≠ 3) (k4 : kd ≠ 4) (hv : (ei = 0 → ((1 ≤ kd ∧ kd ≤ 4) ∧ s = strN acc ∧ rs = bodyS bs kd acc zi)) ∧ (ei ≠ 0 → rs = .error ei)) (W : World) (b : Nat) :
    (ei = 0 → rs = .ok ((⟨(kd : Nat), s, 0, 0, 0, []⟩ : Mu), zi) ∧ 0 = (⟨(kd : Nat), s, 0, 0, 0, []⟩ : Mu).pts.length ∧ ∃ base, b < base ∧ W.ownsRow base 51 2 (.slice none 0 0) 0 ((⟨(kd : Nat), s, 0, 0, 0, []⟩ : Mu).pts.flatMap cellsP)) ∧ (ei ≠ 0 → rs = .error ei) := by
  refine ⟨fun h => ⟨?_, own_nilM W b _ rfl⟩, hv.2⟩
  obtain ⟨hk, hs, hr⟩ := hv.1 h
  obtain rfl : kd = 2 := by omega
  unfold bodyS at hr
  rw [if_neg (by decide), if_pos rfl] at hr
  rw [hr, hs]
  rfl
end
/- MUT -/
section
variable {w : World} {g : Nat} {C : Option Addr} {n c z : Nat} {bs : List Nat}
set_option maxRecDepth 100000 in
set_option maxHeartbeats 8000000 in
theorem mutation_0 (kt : Blk w g 79 (rdC C n c z 0)) (hs : Src w C n c bs) (hz : z ≤ 1000000) :
    Calls Try.prog 47 #[.pointer (some ⟨g, 0, none⟩)] w (RetMd (mutS bs z) g C n c w) := by
  have hg := kt.lt
  have hbl : bs.length ≤ 1000000 := by have := hs.len; have := hs.hn; omega
  have HS := hid hs
  have KTY := hid kt.typed
  have HL := hid (And.intro hbl hs.hbs)
  have kt1 := kt.alloc zMu
  have hb1 := (But.refl g w).alloc zMu
  have HO := hid (oned (bs := bs) kt1 (hs.alloc _) (by omega))
  have HIA := hid (inv_a (hz := hz) hbl hs.hbs)
  have KR := hid (Blk.new w 24 zMuC)
  have HB := hid hb1
  have KT1 := hid kt1.typed
  obtain ⟨rs, hrs⟩ : ∃ r, r = mutS bs z := ⟨_, rfl⟩
  rw [← hrs]
  have HRS := hid hrs
  clear kt hs kt1 hb1 hrs hbl hz
  go_enter Try.func47, Try.ntmps47
  go_wp2_with fail
  refine HO.out.mono ?_
  rintro e w1 ⟨rfl, hb1, kt1⟩
  replace HB := hid (HB.out.trans hb1)
  replace KR := hid (KR.out.but hb1 (by omega))
  obtain ⟨kd, z1, e1, ho⟩ : ∃ a b c, rdOne bs z 0 = (a, b, c) := ⟨_, _, _, rfl⟩
  rw [ho] at kt1 HIA ⊢
  simp only at kt1
  have KT := hid (kt1.alloc (.cells (aM (kd : Nat) ⟨#[]⟩ 0 0 0 (.slice none 0 0)) 24))
  replace HB := hid (HB.out.alloc (.cells (aM (kd : Nat) ⟨#[]⟩ 0 0 0 (.slice none 0 0)) 24))
  replace KR := hid (KR.out.alloc (.cells (aM (kd : Nat) ⟨#[]⟩ 0 0 0 (.slice none 0 0)) 24))
  have KM := hid (Blk.new w1 24 (aM (kd : Nat) ⟨#[]⟩ 0 0 0 (.slice none 0 0)))
  have hgm : w.heap.size + 1 ≤ w1.heap.size := KR.out.lt |> fun h => by have := hb1.size; simp at this; omega
  have hk256 := HIA.out.2.2.1
  simp only at hk256
  have hwk : wrap64 (kd : Int) = (kd : Int) := by unfold wrap64; omega
  clear hb1 kt1 ho HO KT1
  go_upto_region 2 with fail
  obtain ⟨gm, hgm'⟩ : ∃ gm, gm = w1.heap.size := ⟨_, rfl⟩
  rw [← hgm'] at hgm KM ⊢
  generalize w1.alloc (.cells (aM (kd : Nat) ⟨#[]⟩ 0 0 0 (.slice none 0 0)) 24) = w2 at *
  clear hgm'
  go_cut [] (fun wx => ∃ e2 : Int, Hid (InvB bs z kd z1 e2 ∧ Blk wx g 79 (rdC C n c z1 e2) ∧ Blk wx w.heap.size 24 zMuC ∧ Blk wx gm 24 (aM (kd : Nat) ⟨#[]⟩ 0 0 0 (.slice none 0 0)) ∧ But g w wx))
  case first =>
    obtain ⟨c0, c1, c2, c3, c4, c5⟩ := KM.out.sixc
    have HND := hid (fun b => needd b KT.out)
    have HKM := hid (show ∀ b e wx, RetS (.tuple #[]) g (rdC C n c z1 (if e1 = 0 ∧ b = false then 7 else e1)) w2 e wx → (b = true ↔ (1 ≤ kd ∧ kd ≤ 4)) → ∃ e2 : Int, Hid (InvB bs z kd z1 e2 ∧ Blk wx g 79 (rdC C n c z1 e2) ∧ Blk wx w.heap.size 24 zMuC ∧ Blk wx gm 24 (aM (kd : Nat) ⟨#[]⟩ 0 0 0 (.slice none 0 0)) ∧ But g w wx) from
      fun b e wx h hb => ⟨_, hid ⟨inv_b HIA.out b hb rfl, h.2.2, KR.out.but h.2.1 (by omega), KM.out.but h.2.1 (by omega), HB.out.trans h.2.1⟩⟩)
    by_cases h1 : (1 : Int) ≤ (kd : Int)
    · by_cases h4 : (kd : Int) ≤ 4
      · skip
        go_wp2_with fail
        refine (HND.out _).mono ?_
        intro e wx hR
        have HR := hid (HKM.out true e wx hR ⟨fun _ => by omega, fun _ => rfl⟩)
        obtain ⟨rfl, _, _⟩ := hR
        go_wp2_with fail
        go_meet
        exact HR.out
      · skip
        go_wp2_with fail
        refine (HND.out _).mono ?_
        intro e wx hR
        have HR := hid (HKM.out false e wx hR ⟨fun h => (by cases h), fun h => by omega⟩)
        obtain ⟨rfl, _, _⟩ := hR
        go_wp2_with fail
        go_meet
        exact HR.out
    · skip
      go_wp2_with fail
      refine (HND.out _).mono ?_
      intro e wx hR
      have HR := hid (HKM.out false e wx hR ⟨fun h => (by cases h), fun h => by omega⟩)
      obtain ⟨rfl, _, _⟩ := hR
      go_wp2_with fail
      go_meet
      exact HR.out
  case rest =>
    obtain ⟨e2, HH⟩ := hcut
    obtain ⟨hib, kt, kr, km, hb⟩ := HH.out
    have HO := hid (oned (bs := bs) kt (HS.out.butS hb KTY.out) (by have := hib.2.2.2; omega))
    have HIC := hid (inv_c hib HL.out.1 HL.out.2)
    replace KR := hid kr
    replace KM := hid km
    replace HB := hid hb
    clear hib kt kr km hb HH HIA KT
    go_wp2_with fail
    refine HO.out.mono ?_
    rintro e w3 ⟨rfl, hb3, kt3⟩
    replace HB := hid (HB.out.trans hb3)
    replace KR := hid (KR.out.but hb3 (by omega))
    replace KM := hid (KM.out.but hb3 (by omega))
    obtain ⟨many, z2, e3, ho⟩ : ∃ a b c, rdOne bs z1 e2 = (a, b, c) := ⟨_, _, _, rfl⟩
    rw [ho] at kt3 HIC ⊢
    simp only at kt3
    have KT := hid kt3
    have hm256 := HIC.out.2.2.2.1
    simp only at hm256
    have hwm : wrap64 (many : Int) = (many : Int) := by unfold wrap64; omega
    clear hb3 kt3 ho HO
    go_upto_region 4 with fail
    go_cut [] (fun wx => ∃ e4 : Int, Hid (InvD bs z kd many 0 z2 e4 [] ⟨#[]⟩ ∧ Blk wx g 79 (rdC C n c z2 e4) ∧ Blk wx w.heap.size 24 zMuC ∧ Blk wx gm 24 (aM (kd : Nat) ⟨#[]⟩ 0 0 0 (.slice none 0 0)) ∧ But g w wx))
    case first =>
      have HND := hid (fun b => needd b KT.out)
      have HKM := hid (show ∀ b e wx, RetS (.tuple #[]) g (rdC C n c z2 (if e3 = 0 ∧ b = false then 7 else e3)) w3 e wx → (b = true ↔ (1 ≤ many ∧ many ≤ 12)) → ∃ e4 : Int, Hid (InvD bs z kd many 0 z2 e4 [] ⟨#[]⟩ ∧ Blk wx g 79 (rdC C n c z2 e4) ∧ Blk wx w.heap.size 24 zMuC ∧ Blk wx gm 24 (aM (kd : Nat) ⟨#[]⟩ 0 0 0 (.slice none 0 0)) ∧ But g w wx) from
        fun b e wx h hb => ⟨_, hid ⟨inv_d HIC.out b hb rfl, h.2.2, KR.out.but h.2.1 (by omega), KM.out.but h.2.1 (by omega), HB.out.trans h.2.1⟩⟩)
      by_cases h1 : (1 : Int) ≤ (many : Int)
      · by_cases h4 : (many : Int) ≤ 12
        · skip
          go_wp2_with fail
          refine (HND.out _).mono ?_
          intro e wx hR
          have HR := hid (HKM.out true e wx hR ⟨fun _ => by omega, fun _ => rfl⟩)
          obtain ⟨rfl, _, _⟩ := hR
          go_wp2_with fail
          go_meet
          exact HR.out
        · skip
          go_wp2_with fail
          refine (HND.out _).mono ?_
          intro e wx hR
          have HR := hid (HKM.out false e wx hR ⟨fun h => (by cases h), fun h => by omega⟩)
          obtain ⟨rfl, _, _⟩ := hR
          go_wp2_with fail
          go_meet
          exact HR.out
      · skip
        go_wp2_with fail
        refine (HND.out _).mono ?_
        intro e wx hR
        have HR := hid (HKM.out false e wx hR ⟨fun h => (by cases h), fun h => by omega⟩)
        obtain ⟨rfl, _, _⟩ := hR
        go_wp2_with fail
        go_meet
        exact HR.out
    case rest =>
      obtain ⟨e4, HH⟩ := hcut
      clear HIC KT KR KM HB
      go_wp2_with fail
      go_loopw [32] (fun u32 wr => ∃ (i zi : Nat) (ei : Int) (acc : List Nat) (s : ByteArray), i ≤ many ∧ u32 = .int .i64 (i : Nat) ∧ Hid (InvD bs z kd many i zi ei acc s ∧ Blk wr g 79 (rdC C n c zi ei) ∧ Blk wr w.heap.size 24 zMuC ∧ Blk wr gm 24 (aM (kd : Nat) s 0 0 0 (.slice none 0 0)) ∧ But g w wr)) (fun u32 _ => many - (intOf u32).toNat)
      case atStart => exact ⟨0, z2, e4, [], ⟨#[]⟩, Nat.zero_le _, rfl, HH⟩
      case round =>
        obtain ⟨i, zi, ei, acc, s, hi, rfl, HI⟩ := hrel
        obtain ⟨hinv, kt, kr, km, hb⟩ := HI.out
        by_cases hlt : i < many
        · have hltI : (i : Int) < (many : Int) := by omega
          have HO := hid (oned (bs := bs) kt (HS.out.butS hb KTY.out) (by have := hinv.2.2.2.2.1; omega))
          have HIE := hid (fun e5 he => inv_e (e5 := e5) hinv hlt HL.out.1 he)
          have hssz := hinv.2.2.2.2.2
          have KR := hid kr
          have KM := hid km
          have HB := hid hb
          clear hinv kt kr km hb HI
          go_wp2_with fail
          refine HO.out.mono ?_
          rintro e w5 ⟨rfl, hb5, kt5⟩
          replace HB := hid (HB.out.trans hb5)
          replace KR := hid (KR.out.but hb5 (by omega))
          replace KM := hid (KM.out.but hb5 (by omega))
          obtain ⟨x, z5, e5, ho⟩ : ∃ a b c, rdOne bs zi ei = (a, b, c) := ⟨_, _, _, rfl⟩
          rw [ho] at kt5 HIE ⊢
          simp only at kt5
          have HND := hid (needd (letB (x : Nat)) kt5)
          have HLT := hid (fun w' => Letter_d x w')
          clear hb5 kt5 ho HO
          go_wp2_with fail
          refine (HLT.out _).mono ?_
          rintro e w6 ⟨rfl, rfl⟩
          go_wp2_with fail
          refine HND.out.mono ?_
          rintro e w7 ⟨rfl, hb7, kt7⟩
          replace HB := hid (HB.out.trans hb7)
          replace KR := hid (KR.out.but hb7 (by omega))
          replace KM := hid (KM.out.but hb7 (by omega))
          have HIF := hid (HIE.out _ rfl)
          generalize (if e5 = 0 ∧ letB (x : Nat) = false then (7 : Int) else e5) = e6 at *
          have hconv : (convert 32 9 (.slice (some ⟨w7.heap.size, 0, none⟩) 1 1)).run Try.prog (w7.alloc (.cells #[.int .u8 (x : Nat)] 5)) = .ok (.string (strN [x])) (w7.alloc (.cells #[.int .u8 (x : Nat)] 5)) := conv_bytes (c := 1) (reads_new_at (g := w7.heap.size) w7 5 (bsV [x]) 1 rfl rfl)
          have km8 := KM.out.alloc (.cells #[.int .u8 (x : Nat)] 5)
          have kr8 := KR.out.alloc (.cells #[.int .u8 (x : Nat)] 5)
          have kt8 := kt7.alloc (.cells #[.int .u8 (x : Nat)] 5)
          have hb8 := HB.out.alloc (.cells #[.int .u8 (x : Nat)] 5)
          obtain ⟨b0, b1, b2, b3, b4, b5⟩ := KM.out.sixc
          have f1 := km8.frozen 1
          have a1 := km8.sixc.2.1
          have l1 := km8.lt
          have hz1 : (strN [x]).size = 1 := by rw [strN_size]; rfl
          have HX := hid (And.intro (show Blk ((w7.alloc (.cells #[.int .u8 (x : Nat)] 5)).setCell ⟨gm, 1, none⟩ (.string (s ++ strN [x]))) gm 24 (aM (kd : Nat) (s ++ strN [x]) 0 0 0 (.slice none 0 0)) from km8.set_ 1 _) (And.intro (kr8.far (p := ⟨gm, 1, none⟩) (by simp; omega) (.string (s ++ strN [x]))) (And.intro (kt8.far (p := ⟨gm, 1, none⟩) (by simp; omega) (.string (s ++ strN [x]))) (hb8.setn (p := ⟨gm, 1, none⟩) (by simp; omega) (.string (s ++ strN [x]))))))
          clear hb7 HND HLT HIE km8 kr8 kt8 hb8 kt7
          go_wp2_with fail
          go_roundw
          case rel => exact ⟨i + 1, z5, e6, acc ++ [x], s ++ strN [x], by omega, by go_num, hid ⟨HIF.out, HX.out.2.2.1, HX.out.2.1, HX.out.1, HX.out.2.2.2⟩⟩
          case measure => simp [intOf]; omega
        · obtain rfl : i = many := by omega
          have HV := hid (show (ei = 0 → ((1 ≤ kd ∧ kd ≤ 4) ∧ s = strN acc ∧ rs = bodyS bs kd acc zi)) ∧ (ei ≠ 0 → rs = .error ei) from ⟨fun h0 => by
            obtain ⟨a1, a2, a3⟩ := hinv.1 h0
            rw [Nat.sub_self] at a3
            exact ⟨a1, a2, by rw [HRS.out, a3]; rfl⟩, fun h0 => by rw [HRS.out]; exact hinv.2.1 h0⟩)
          have KT := hid kt
          have KR := hid kr
          have KM := hid km
          have HB := hid hb
          clear hinv kt kr km hb HI HH hlt hi hwk hwm
          by_cases hk1 : kd = 1
          · subst hk1
            replace KM := hid (show Blk wr gm 24 (aM 1 s 0 0 0 (.slice none 0 0)) from KM.out)
            have HP := hid (plaind (most := 1099511627776) (bs := bs) KT.out (HS.out.butS HB.out KTY.out) (by decide))
            obtain ⟨v, p1, x1, ho⟩ : ∃ a b c, rdPlain bs 1099511627776 zi ei = (a, b, c) := ⟨_, _, _, rfl⟩
            rw [ho] at HP
            have HO1 := hid ho
            clear ho
            obtain ⟨b0, b1, b2, b3, b4, b5⟩ := KM.out.sixc
            go_wp2_with fail
            refine HP.out.mono ?_
            rintro e w8 ⟨rfl, hb8, kt8⟩
            try simp only at kt8
            have km8 := KM.out.but hb8 (by omega)
            have kr8 := KR.out.but hb8 (by omega)
            have hbb := HB.out.trans hb8
            have HX := hid (And.intro (show Blk (w8.setCell ⟨gm, 2, none⟩ (.int .i64 (v : Nat))) gm 24 (aM 1 s (v : Nat) 0 0 (.slice none 0 0)) from km8.set_ 2 _) (And.intro (kr8.far (p := ⟨gm, 2, none⟩) (by simp; omega) (.int .i64 (v : Nat))) (And.intro (kt8.far (p := ⟨gm, 2, none⟩) (by simp; omega) (.int .i64 (v : Nat))) (hbb.setn (p := ⟨gm, 2, none⟩) (by simp; omega) (.int .i64 (v : Nat))))))
            have f2 := km8.frozen 2
            have l2 := km8.lt
            have a2 := km8.sixc.2.2.1
            clear hb8 kt8 km8 kr8 hbb b0 b1 b2 b3 b4 b5
            go_upto_region 14 with fail
            obtain ⟨km9, kr9, kt9, hb9⟩ := HX.out
            clear f2 l2 a2 HX
            generalize w8.setCell ⟨gm, 2, none⟩ (.int .i64 (v : Nat)) = w9 at *
            have HM9 := hid (mored (bs := bs) (than := 0) (least := -40) (most := 40) kt9 (HS.out.butS hb9 KTY.out) (by decide) (by decide) (by decide))
            obtain ⟨d, p2, x2, ho⟩ : ∃ a b c, rdMore bs 0 (-40) 40 p1 x1 = (a, b, c) := ⟨_, _, _, rfl⟩
            rw [ho] at HM9
            have HO2 := hid ho
            replace KM := hid km9
            replace KR := hid kr9
            replace HB := hid hb9
            clear km9 kr9 kt9 hb9 ho HP
            go_wp2_with fail
            refine HM9.out.mono ?_
            rintro e w10 ⟨rfl, hb10, kt10⟩
            try simp only at kt10
            have km8 := KM.out.but hb10 (by omega)
            have kr8 := KR.out.but hb10 (by omega)
            have hbb := HB.out.trans hb10
            have HX := hid (And.intro (show Blk (w10.setCell ⟨gm, 4, none⟩ (.int .i64 d)) gm 24 (aM 1 s (v : Nat) 0 d (.slice none 0 0)) from km8.set_ 4 _) (And.intro (kr8.far (p := ⟨gm, 4, none⟩) (by simp; omega) (.int .i64 d)) (And.intro (kt10.far (p := ⟨gm, 4, none⟩) (by simp; omega) (.int .i64 d)) (hbb.setn (p := ⟨gm, 4, none⟩) (by simp; omega) (.int .i64 d)))))
            have f2 := km8.frozen 4
            have l2 := km8.lt
            have a2 := km8.sixc.2.2.2.2.1
            clear hb10 kt10 km8 kr8 hbb
            go_upto_region 19 with fail
            obtain ⟨km9, kr9, kt9, hb9⟩ := HX.out
            clear f2 l2 a2 HX
            generalize w10.setCell ⟨gm, 4, none⟩ (.int .i64 d) = w11 at *
            have KM9 := hid km9
            have KR9 := hid kr9
            have KT9 := hid kt9
            have HB9 := hid hb9
            have HF0 := hid (fin_1 HV.out HO1.out HO2.out w11 w.heap.size)
            clear km9 kr9 kt9 hb9
            obtain ⟨v0, v1, v2, v3, v4, v5, z0, z1, z2, z3, z4, z5⟩ := KM9.out.six
            obtain ⟨u0, u1, u2, u3, u4, u5, y0, y1, y2, y3, y4, y5⟩ := KR9.out.six
            have hl1 := KM9.out.lt
            have hl2 := KR9.out.lt
            go_wp2_with fail
            refine ret_mu rfl rfl rfl KR9.out.all6 ?_
            exact fin_md (m := ⟨1, s, (v : Nat), 0, d, []⟩) HF0.out.1 HF0.out.2 KT9.out HB9.out rfl hg _ _ _ _ _ _
          · by_cases hk3 : kd = 3
            · subst hk3
              replace KM := hid (show Blk wr gm 24 (aM 3 s 0 0 0 (.slice none 0 0)) from KM.out)
              obtain ⟨b0, b1, b2, b3, b4, b5⟩ := KM.out.sixc
              by_cases he0 : ei = 0
              · subst he0
                have HV2 := hid (HV.out.1 rfl).2
                clear HV
                have hkl := KM.out.lt
                have HP := hid (points_0 (bs := bs) KT.out (HS.out.butS HB.out KTY.out))
                cases hps : pointsS bs zi with
                | error x =>
                  rw [hps] at HP
                  have hxe := points_err hps
                  have HXE := hid hxe
                  have HPS := hid hps
                  clear hps hxe
                  go_wp2_with fail
                  refine HP.out.mono ?_
                  rintro e w8 ⟨A3, k3, f3, z3, rfl, hb8, kt8⟩
                  have km8 := KM.out.but hb8 (by omega)
                  have kr8 := KR.out.but hb8 (by omega)
                  have hbb := HB.out.trans hb8
                  have HX := hid (And.intro (show Blk (w8.setCell ⟨gm, 5, none⟩ (.slice A3 k3 f3)) gm 24 (aM 3 s 0 0 0 (.slice A3 k3 f3)) from km8.set_ 5 _) (And.intro (kr8.far (p := ⟨gm, 5, none⟩) (by simp; omega) (.slice A3 k3 f3)) (And.intro (kt8.far (p := ⟨gm, 5, none⟩) (by simp; omega) (.slice A3 k3 f3)) (hbb.setn (p := ⟨gm, 5, none⟩) (by simp; omega) (.slice A3 k3 f3)))))
                  have f2 := km8.frozen 5
                  have l2 := km8.lt
                  have a2 := km8.sixc.2.2.2.2.2
                  
                  clear hb8 kt8 km8 kr8 hbb b0 b1 b2 b3 b4 b5
                  go_upto_region 19 with fail
                  obtain ⟨km9, kr9, kt9, hb9⟩ := HX.out
                  clear f2 l2 a2 HX
                  generalize w8.setCell ⟨gm, 5, none⟩ (.slice A3 k3 f3) = w11 at *
                  have KM9 := hid km9
                  have KR9 := hid kr9
                  have KT9 := hid kt9
                  have HB9 := hid hb9
                  have HF0 := hid (show (x = 0 → rs = .ok ((⟨3, s, 0, 0, 0, []⟩ : Mu), z3) ∧ k3 = (⟨3, s, 0, 0, 0, []⟩ : Mu).pts.length ∧ ∃ base, w.heap.size < base ∧ w11.ownsRow base 51 2 (.slice A3 k3 f3) k3 ((⟨3, s, 0, 0, 0, []⟩ : Mu).pts.flatMap cellsP)) ∧ (x ≠ 0 → rs = .error x) from ⟨fun h => absurd h HXE.out, fun _ => by rw [HV2.out.2]; unfold bodyS; rw [if_neg (by decide), if_neg (by decide), if_pos rfl, HPS.out]⟩)
                  clear km9 kr9 kt9 hb9
                  obtain ⟨v0, v1, v2, v3, v4, v5, z0, z1, z2, z3, z4, z5⟩ := KM9.out.six
                  obtain ⟨u0, u1, u2, u3, u4, u5, y0, y1, y2, y3, y4, y5⟩ := KR9.out.six
                  have hl1 := KM9.out.lt
                  have hl2 := KR9.out.lt
                  go_wp2_with fail
                  refine ret_mu rfl rfl rfl KR9.out.all6 ?_
                  exact fin_md (m := ⟨3, s, 0, 0, 0, []⟩) HF0.out.1 HF0.out.2 KT9.out HB9.out rfl hg _ _ _ _ _ _
                | ok lp =>
                  obtain ⟨l, p⟩ := lp
                  rw [hps] at HP
                  have HPS := hid hps
                  clear hps
                  go_wp2_with fail
                  refine HP.out.mono ?_
                  rintro e w8 ⟨A3, f3, rfl, hb8, kt8, hown8⟩
                  obtain ⟨k3, hk3⟩ : ∃ k, k = l.length := ⟨_, rfl⟩
                  rw [← hk3] at hown8 ⊢
                  have km8 := KM.out.but hb8 (by omega)
                  have kr8 := KR.out.but hb8 (by omega)
                  have hbb := HB.out.trans hb8
                  have HX := hid (And.intro (show Blk (w8.setCell ⟨gm, 5, none⟩ (.slice A3 k3 f3)) gm 24 (aM 3 s 0 0 0 (.slice A3 k3 f3)) from km8.set_ 5 _) (And.intro (kr8.far (p := ⟨gm, 5, none⟩) (by simp; omega) (.slice A3 k3 f3)) (And.intro (kt8.far (p := ⟨gm, 5, none⟩) (by simp; omega) (.slice A3 k3 f3)) (hbb.setn (p := ⟨gm, 5, none⟩) (by simp; omega) (.slice A3 k3 f3)))))
                  have f2 := km8.frozen 5
                  have l2 := km8.lt
                  have a2 := km8.sixc.2.2.2.2.2
                  have HOW := hid (And.intro hk3 (own_far (a := ⟨gm, 5, none⟩) hown8 (by simp; exact hkl) (.slice A3 k3 f3)))
                  clear hown8 hk3
                  clear hb8 kt8 km8 kr8 hbb b0 b1 b2 b3 b4 b5
                  go_upto_region 19 with fail
                  obtain ⟨km9, kr9, kt9, hb9⟩ := HX.out
                  clear f2 l2 a2 HX
                  generalize w8.setCell ⟨gm, 5, none⟩ (.slice A3 k3 f3) = w11 at *
                  have KM9 := hid km9
                  have KR9 := hid kr9
                  have KT9 := hid kt9
                  have HB9 := hid hb9
                  have HF0 := hid (show ((0 : Int) = 0 → rs = .ok ((⟨3, s, 0, 0, 0, l⟩ : Mu), p) ∧ k3 = (⟨3, s, 0, 0, 0, l⟩ : Mu).pts.length ∧ ∃ base, w.heap.size < base ∧ w11.ownsRow base 51 2 (.slice A3 k3 f3) k3 ((⟨3, s, 0, 0, 0, l⟩ : Mu).pts.flatMap cellsP)) ∧ ((0 : Int) ≠ 0 → rs = .error 0) from ⟨fun _ => ⟨by rw [HV2.out.2, HV2.out.1]; unfold bodyS; rw [if_neg (by decide), if_neg (by decide), if_pos rfl, HPS.out], HOW.out.1, _, by omega, HOW.out.2⟩, fun h => absurd rfl h⟩)
                  clear km9 kr9 kt9 hb9
                  obtain ⟨v0, v1, v2, v3, v4, v5, z0, z1, z2, z3, z4, z5⟩ := KM9.out.six
                  obtain ⟨u0, u1, u2, u3, u4, u5, y0, y1, y2, y3, y4, y5⟩ := KR9.out.six
                  have hl1 := KM9.out.lt
                  have hl2 := KR9.out.lt
                  go_wp2_with fail
                  refine ret_mu rfl rfl rfl KR9.out.all6 ?_
                  exact fin_md (m := ⟨3, s, 0, 0, 0, l⟩) (x := 0) (fun _ => HF0.out.1 trivial) (fun h => absurd rfl h) KT9.out HB9.out rfl hg _ _ _ _ _ _
              · have HP := hid (points_e he0 KT.out)
                have HE0 := hid he0
                clear he0
                go_wp2_with fail
                refine HP.out.mono ?_
                rintro e w8 ⟨rfl, hb8, kt8⟩
                obtain ⟨A3, hA3⟩ : ∃ a : Option Addr, a = none := ⟨_, rfl⟩
                obtain ⟨k3, hk3⟩ : ∃ a : Nat, a = 0 := ⟨_, rfl⟩
                obtain ⟨f3, hf3⟩ : ∃ a : Nat, a = 0 := ⟨_, rfl⟩
                rw [show Value.slice none 0 0 = Value.slice A3 k3 f3 by rw [hA3, hk3, hf3]]
                clear hA3 hk3 hf3
                have km8 := KM.out.but hb8 (by omega)
                have kr8 := KR.out.but hb8 (by omega)
                have hbb := HB.out.trans hb8
                have HX := hid (And.intro (show Blk (w8.setCell ⟨gm, 5, none⟩ (.slice A3 k3 f3)) gm 24 (aM 3 s 0 0 0 (.slice A3 k3 f3)) from km8.set_ 5 _) (And.intro (kr8.far (p := ⟨gm, 5, none⟩) (by simp; omega) (.slice A3 k3 f3)) (And.intro (kt8.far (p := ⟨gm, 5, none⟩) (by simp; omega) (.slice A3 k3 f3)) (hbb.setn (p := ⟨gm, 5, none⟩) (by simp; omega) (.slice A3 k3 f3)))))
                have f2 := km8.frozen 5
                have l2 := km8.lt
                have a2 := km8.sixc.2.2.2.2.2
                
                clear hb8 kt8 km8 kr8 hbb b0 b1 b2 b3 b4 b5
                go_upto_region 19 with fail
                obtain ⟨km9, kr9, kt9, hb9⟩ := HX.out
                clear f2 l2 a2 HX
                generalize w8.setCell ⟨gm, 5, none⟩ (.slice A3 k3 f3) = w11 at *
                have KM9 := hid km9
                have KR9 := hid kr9
                have KT9 := hid kt9
                have HB9 := hid hb9
                have HF0 := hid (show (ei = 0 → rs = .ok ((⟨3, s, 0, 0, 0, []⟩ : Mu), zi) ∧ k3 = (⟨3, s, 0, 0, 0, []⟩ : Mu).pts.length ∧ ∃ base, w.heap.size < base ∧ w11.ownsRow base 51 2 (.slice A3 k3 f3) k3 ((⟨3, s, 0, 0, 0, []⟩ : Mu).pts.flatMap cellsP)) ∧ (ei ≠ 0 → rs = .error ei) from ⟨fun h => absurd h HE0.out, HV.out.2⟩)
                clear km9 kr9 kt9 hb9
                obtain ⟨v0, v1, v2, v3, v4, v5, z0, z1, z2, z3, z4, z5⟩ := KM9.out.six
                obtain ⟨u0, u1, u2, u3, u4, u5, y0, y1, y2, y3, y4, y5⟩ := KR9.out.six
                have hl1 := KM9.out.lt
                have hl2 := KR9.out.lt
                go_wp2_with fail
                refine ret_mu rfl rfl rfl KR9.out.all6 ?_
                exact fin_md (m := ⟨3, s, 0, 0, 0, []⟩) HF0.out.1 HF0.out.2 KT9.out HB9.out rfl hg _ _ _ _ _ _
            · by_cases hk4 : kd = 4
              · subst hk4
                replace KM := hid (show Blk wr gm 24 (aM 4 s 0 0 0 (.slice none 0 0)) from KM.out)
                have HP := hid (plaind (most := 281474976710656) (bs := bs) KT.out (HS.out.butS HB.out KTY.out) (by decide))
                obtain ⟨v, p1, x1, ho⟩ : ∃ a b c, rdPlain bs 281474976710656 zi ei = (a, b, c) := ⟨_, _, _, rfl⟩
                rw [ho] at HP
                have HO1 := hid ho
                clear ho
                obtain ⟨b0, b1, b2, b3, b4, b5⟩ := KM.out.sixc
                go_wp2_with fail
                refine HP.out.mono ?_
                rintro e w8 ⟨rfl, hb8, kt8⟩
                try simp only at kt8
                have km8 := KM.out.but hb8 (by omega)
                have kr8 := KR.out.but hb8 (by omega)
                have hbb := HB.out.trans hb8
                have HX := hid (And.intro (show Blk (w8.setCell ⟨gm, 3, none⟩ (.int .i64 (v : Nat))) gm 24 (aM 4 s 0 (v : Nat) 0 (.slice none 0 0)) from km8.set_ 3 _) (And.intro (kr8.far (p := ⟨gm, 3, none⟩) (by simp; omega) (.int .i64 (v : Nat))) (And.intro (kt8.far (p := ⟨gm, 3, none⟩) (by simp; omega) (.int .i64 (v : Nat))) (hbb.setn (p := ⟨gm, 3, none⟩) (by simp; omega) (.int .i64 (v : Nat))))))
                have f2 := km8.frozen 3
                have l2 := km8.lt
                have a2 := km8.sixc.2.2.2.1
                clear hb8 kt8 km8 kr8 hbb b0 b1 b2 b3 b4 b5
                go_upto_region 19 with fail
                obtain ⟨km9, kr9, kt9, hb9⟩ := HX.out
                clear f2 l2 a2 HX
                generalize w8.setCell ⟨gm, 3, none⟩ (.int .i64 (v : Nat)) = w11 at *
                have KM9 := hid km9
                have KR9 := hid kr9
                have KT9 := hid kt9
                have HB9 := hid hb9
                have HF0 := hid (fin_4 HV.out HO1.out w11 w.heap.size)
                clear km9 kr9 kt9 hb9
                obtain ⟨v0, v1, v2, v3, v4, v5, z0, z1, z2, z3, z4, z5⟩ := KM9.out.six
                obtain ⟨u0, u1, u2, u3, u4, u5, y0, y1, y2, y3, y4, y5⟩ := KR9.out.six
                have hl1 := KM9.out.lt
                have hl2 := KR9.out.lt
                go_wp2_with fail
                refine ret_mu rfl rfl rfl KR9.out.all6 ?_
                exact fin_md (m := ⟨4, s, 0, (v : Nat), 0, []⟩) HF0.out.1 HF0.out.2 KT9.out HB9.out rfl hg _ _ _ _ _ _
              · have t1 : ((kd : Int) == 1) = false := by simp; omega
                have t3 : ((kd : Int) == 3) = false := by simp; omega
                have t4 : ((kd : Int) == 4) = false := by simp; omega
                have KM9 := KM
                have KR9 := KR
                have KT9 := KT
                have HB9 := HB
                have HF0 := hid (fin_2 (by omega) (by omega) (by omega) HV.out wr w.heap.size)
                obtain ⟨v0, v1, v2, v3, v4, v5, z0, z1, z2, z3, z4, z5⟩ := KM9.out.six
                obtain ⟨u0, u1, u2, u3, u4, u5, y0, y1, y2, y3, y4, y5⟩ := KR9.out.six
                have hl1 := KM9.out.lt
                have hl2 := KR9.out.lt
                go_wp2_with fail
                refine ret_mu rfl rfl rfl KR9.out.all6 ?_
                exact fin_md (m := ⟨(kd : Nat), s, 0, 0, 0, []⟩) HF0.out.1 HF0.out.2 KT9.out HB9.out rfl hg _ _ _ _ _ _
end
end Go.Proofs.Ytedojdbihajnbaa
namespace Go.Proofs.Ytedojdbihajnbaa
open Go.RowKit Go.Shelf VB
open Go.Lib (hid)
set_option linter.unusedVariables false
set_option linter.unusedSimpArgs false
theorem Below.set6' {B q : Nat} {w W : World} (h : Below B w W) (hq : B ≤ q) (x0 x1 x2 x3 x4 x5 : Value) : Below B w (set6 W q x0 x1 x2 x3 x4 x5) :=
  (((((h.setCell (p := ⟨q, 0, none⟩) hq x0).setCell (p := ⟨q, 1, none⟩) hq x1).setCell (p := ⟨q, 2, none⟩) hq x2).setCell (p := ⟨q, 3, none⟩) hq x3).setCell (p := ⟨q, 4, none⟩) hq x4).setCell (p := ⟨q, 5, none⟩) hq x5
set_option maxRecDepth 100000 in
set_option maxHeartbeats 4000000 in
theorem Get_d {B : Option Addr} {n c : Nat} {bs : List Nat} {w : World} (z : Int) (hs : Src w B n c bs) :
    Calls Try.prog 26 #[.slice B n c, .int .i64 z] w (RetGet (getM bs z) w) := by
  have hl := hs.len
  have kr := Blk.new w 24 zMuC
  by_cases hz : 0 ≤ z ∧ z ≤ n
  case neg =>
    have e1 : getM bs z = (zMut, 0, 2) := by unfold getM; rw [if_neg (by rw [hl]; exact hz)]
    rw [e1]
    have HB := hid ((Below.refl w.heap.size w).alloc (Nat.le_refl _) zMu)
    have KR := hid kr
    have hc : (z < 0 ∧ decide (z < 0) = true) ∨ (¬ z < 0 ∧ decide (z < 0) = false ∧ (n : Int) < z ∧ decide ((n : Int) < z) = true) := by
      by_cases h : z < 0
      · exact .inl ⟨h, decide_eq_true h⟩
      · exact .inr ⟨h, decide_eq_false h, by omega, decide_eq_true (by omega)⟩
    clear hz e1 hs hl kr
    rcases hc with ⟨h1, h2⟩ | ⟨h1, h2, h3, h4⟩
    all_goals
      go_enter Try.func26, Try.ntmps26
      go_upto_region 1 with fail
      generalize w.alloc zMu = w1 at *
      obtain ⟨v0, v1, v2, v3, v4, v5, y0, y1, y2, y3, y4, y5⟩ := KR.out.six
      have hl2 := KR.out.lt
      go_wp2_with fail
      refine ret_mu3 rfl rfl rfl rfl rfl KR.out.all6 ?_
      exact ⟨none, 0, rfl, World.ownsRow_nil _ _ _ _, Below.set6' HB.out (Nat.le_refl _) _ _ _ _ _ _⟩
  case pos =>
    obtain ⟨k, rfl⟩ := Int.eq_ofNat_of_zero_le hz.1
    have hk : k ≤ 1000000 := by have := hs.hn; omega
    have hz1 : ¬ (k : Int) < 0 := by omega
    have hz2 : ¬ (k : Int) > (n : Int) := by omega
    have e1 : getM bs (k : Nat) = (match mutS bs k with | .ok (m, p) => (m, p, 0) | .error x => (zMut, 0, x)) := by
      unfold getM
      rw [if_pos (by rw [hl]; exact hz), Int.toNat_natCast]
      all_goals (cases mutS bs k <;> rfl)
    rw [e1]
    have kt := Blk.new_at (g := w.heap.size + 1) (w.alloc zMu) 79 (rdC B n c k 0) (by simp)
    have HM := hid (mutation_0 kt ((hs.alloc zMu).alloc (.cells (rdC B n c k 0) 79)) hk)
    have KR := hid (kr.alloc (.cells (rdC B n c k 0) 79))
    have HB := hid (below2' w zMu (.cells (rdC B n c k 0) 79) (Below.refl _ _))
    have hsz : ((w.alloc zMu).alloc (.cells (rdC B n c k 0) 79)).heap.size = w.heap.size + 2 := by simp
    clear hz e1 hs hl kr kt hk
    cases hm : mutS bs k with
    | error x =>
      have hx := mutS_err hm
      have t1 : (x != 0) = true := by simp [hx]
      have t2 : (x == 0) = false := by simp [hx]
      rw [hm] at HM
      show Calls _ _ _ w (RetGet (zMut, 0, x) w)
      clear hm hx
      go_enter Try.func26, Try.ntmps26
      go_wp2_with fail
      refine HM.out.mono ?_
      rintro e w2 ⟨m, A2, q2, f2, z2, rfl, hb2, kt2⟩
      have hB2 := But.below HB.out hb2 (by omega) (by rw [hsz]; omega)
      have kr2 := (KR.out.but hb2 (by omega)).alloc (.cells (aM m.kind m.name m.eps m.floor m.scale (.slice A2 q2 f2)) 24)
      have kt3 := kt2.alloc (.cells (aM m.kind m.name m.eps m.floor m.scale (.slice A2 q2 f2)) 24)
      have hB3 := hB2.alloc hB2.size (.cells (aM m.kind m.name m.eps m.floor m.scale (.slice A2 q2 f2)) 24)
      have KT3 := hid kt3
      have KR3 := hid kr2
      have HB3 := hid hB3
      obtain ⟨d0, d1, d2, g1, g2, hlt⟩ := kt3.rd
      clear hb2 kt2 hB2 kr2 kt3 hB3 HM KR HB
      go_wp2_with fail
      generalize w2.alloc (.cells (aM m.kind m.name m.eps m.floor m.scale (.slice A2 q2 f2)) 24) = w3 at *
      refine wp_region_held_drew (S := (fun W => Blk W (w.heap.size + 1) 79 (rdC B n c z2 x))) (by kernel_rfl) KT3.out.drew (fun hHeld => ?_)
      have KT4 := hid KT3.out.drew
      have KR4 := hid KR3.out.drew
      have hB4 : Below w.heap.size w w3.drew := below_dn HB3.out 1
      have HB4 := hid hB4
      clear KT3 KR3 HB3 hB4 d0 d1 d2 g1 g2 hlt
      generalize w3.drew = w4 at *
      refine wpAnyH_take (i := 0) (v := ?_) rfl (by kernel_rfl) (by kernel_rfl) (by kernel_rfl) (fun _ _ _ h => h) (Or.inl ⟨by rfl, ?_⟩) (by assumption) ?_
      rotate_left
      · intro W hW
        go_simp
        try rfl
      simp only [List.getElem_toArray, List.getElem_cons_zero, Act.put, List.setIfInBounds_toArray, List.set_cons_zero, List.set_cons_succ]
      refine wpAnyH_take (i := 1) (v := ?_) rfl (by kernel_rfl) (by kernel_rfl) (by kernel_rfl) (fun _ _ _ h => h) (Or.inl ⟨by rfl, ?_⟩) (by assumption) ?_
      rotate_left
      · intro W hW
        go_simp
        try rfl
      simp only [List.getElem_toArray, List.getElem_cons_succ, List.getElem_cons_zero, Act.put, List.setIfInBounds_toArray, List.set_cons_zero, List.set_cons_succ]
      refine wpAnyH_take (i := 2) (v := ?_) rfl (by kernel_rfl) (by kernel_rfl) (by kernel_rfl) (fun _ _ _ h => h) (Or.inl ⟨by rfl, ?_⟩) (by assumption) ?_
      rotate_left
      · intro W hW
        go_simp
        try rfl
      simp only [List.getElem_toArray, List.getElem_cons_succ, List.getElem_cons_zero, Act.put, List.setIfInBounds_toArray, List.set_cons_zero, List.set_cons_succ]
      refine wpAnyH_take (i := 3) (v := ?_) rfl (by kernel_rfl) (by kernel_rfl) (by kernel_rfl) (fun _ _ _ h => h) (Or.inl ⟨by rfl, ?_⟩) (by assumption) ?_
      rotate_left
      · intro W hW
        go_simp
        try rfl
      simp only [List.getElem_toArray, List.getElem_cons_succ, List.getElem_cons_zero, Act.put, List.setIfInBounds_toArray, List.set_cons_zero, List.set_cons_succ]
      refine wpAnyH_take (i := 4) (v := ?_) rfl (by kernel_rfl) (by kernel_rfl) (by kernel_rfl) (fun _ _ _ h => h) (Or.inl ⟨by rfl, ?_⟩) (by assumption) ?_
      rotate_left
      · intro W hW
        obtain ⟨x0, x1, x2, x3, x4, x5⟩ := hW.rd
        go_simp
        try rfl
      simp only [List.getElem_toArray, List.getElem_cons_succ, List.getElem_cons_zero, Act.put, List.setIfInBounds_toArray, List.set_cons_zero, List.set_cons_succ]
      refine wpAnyH_ready (rs := [5]) (by kernel_rfl) (by simp) ?_
      refine AllReadyH.cons rfl (fun K hK => ?_) AllReadyH.nil
      obtain ⟨v0, v1, v2, v3, v4, v5, y0, y1, y2, y3, y4, y5⟩ := KR4.out.six
      have hl2 := KR4.out.lt
      go_simp
      clear v0 v1 v2 v3 v4 v5 y0 y1 y2 y3 y4 y5 hl2
      refine hK.out _ _ (KT4.out.far6 (q := w.heap.size) (by omega) _ _ _ _ _ _) (fun hHeld => ?_)
      clear hK K
      try simp only [List.getElem_toArray, List.getElem_cons_succ, List.getElem_cons_zero, Act.put, List.setIfInBounds_toArray, List.set_cons_zero, List.set_cons_succ]
      refine wpAnyH_take (i := 6) (v := ?_) rfl (by kernel_rfl) (by kernel_rfl) (by kernel_rfl) (fun _ _ _ h => h) (Or.inl ⟨by rfl, ?_⟩) (by assumption) ?_
      rotate_left
      · intro W hW
        go_simp
        try rfl
      simp only [List.getElem_toArray, List.getElem_cons_succ, List.getElem_cons_zero, Act.put, List.setIfInBounds_toArray, List.set_cons_zero, List.set_cons_succ]
      refine wpAnyH_take (i := 7) (v := ?_) rfl (by kernel_rfl) (by kernel_rfl) (by kernel_rfl) (fun _ _ _ h => h) (Or.inl ⟨by rfl, ?_⟩) (by assumption) ?_
      rotate_left
      · intro W hW
        go_simp
        try rfl
      simp only [List.getElem_toArray, List.getElem_cons_succ, List.getElem_cons_zero, Act.put, List.setIfInBounds_toArray, List.set_cons_zero, List.set_cons_succ]
      refine wpAnyH_done (by kernel_rfl) ?_ _
      go_wp2_with fail
      refine ret_mu3 rfl rfl rfl rfl rfl KR4.out.all6 ?_
      exact ⟨none, 0, rfl, World.ownsRow_nil _ _ _ _, Below.set6' HB4.out (Nat.le_refl _) _ _ _ _ _ _⟩
    | ok r =>
      obtain ⟨m, p⟩ := r
      rw [hm] at HM
      show Calls _ _ _ w (RetGet (m, p, 0) w)
      clear hm
      go_enter Try.func26, Try.ntmps26
      go_wp2_with fail
      refine HM.out.mono ?_
      rintro e w2 ⟨A2, f2, rfl, hb2, kt2, hown2⟩
      have hB2 := But.below HB.out hb2 (by omega) (by rw [hsz]; omega)
      have kr2 := (KR.out.but hb2 (by omega)).alloc (.cells (aM m.kind m.name m.eps m.floor m.scale (.slice A2 m.pts.length f2)) 24)
      have kt3 := kt2.alloc (.cells (aM m.kind m.name m.eps m.floor m.scale (.slice A2 m.pts.length f2)) 24)
      have hB3 := hB2.alloc hB2.size (.cells (aM m.kind m.name m.eps m.floor m.scale (.slice A2 m.pts.length f2)) 24)
      have hown3 := hown2.alloc (.cells (aM m.kind m.name m.eps m.floor m.scale (.slice A2 m.pts.length f2)) 24)
      rw [hsz] at hown3
      have KM3 := hid (Blk.new w2 24 (aM m.kind m.name m.eps m.floor m.scale (.slice A2 m.pts.length f2)))
      have hg2 : w.heap.size < w2.heap.size := by have := hb2.size; rw [hsz] at this; omega
      have KT3 := hid kt3
      have KR3 := hid kr2
      have HB3 := hid hB3
      have HOW := hid hown3
      obtain ⟨d0, d1, d2, g1, g2, hlt⟩ := kt3.rd
      clear hb2 kt2 hB2 kr2 kt3 hB3 HM KR HB hown2 hown3
      go_wp2_with fail
      obtain ⟨gm, hgm⟩ : ∃ gm, gm = w2.heap.size := ⟨_, rfl⟩
      rw [← hgm] at KM3 hg2 ⊢
      generalize w2.alloc (.cells (aM m.kind m.name m.eps m.floor m.scale (.slice A2 m.pts.length f2)) 24) = w3 at *
      clear hgm
      refine wp_region_held_drew (S := (fun W => Blk W (w.heap.size + 1) 79 (rdC B n c p 0) ∧ Blk W gm 24 (aM m.kind m.name m.eps m.floor m.scale (.slice A2 m.pts.length f2)))) (by kernel_rfl) ⟨KT3.out.drew, KM3.out.drew⟩ (fun hHeld => ?_)
      have KT4 := hid KT3.out.drew
      have KR4 := hid KR3.out.drew
      have KM4 := hid KM3.out.drew
      have HO4 := hid HOW.out.drew
      have hB4 : Below w.heap.size w w3.drew := below_dn HB3.out 1
      have HB4 := hid hB4
      clear KT3 KR3 HB3 hB4 KM3 HOW d0 d1 d2 g1 g2 hlt
      generalize w3.drew = w4 at *
      refine wpAnyH_take (i := 0) (v := ?_) rfl (by kernel_rfl) (by kernel_rfl) (by kernel_rfl) (fun _ _ _ h => h) (Or.inl ⟨by rfl, ?_⟩) (by assumption) ?_
      rotate_left
      · intro W hW
        obtain ⟨x0, x1, x2, x3, x4, x5⟩ := hW.2.sixc
        go_simp
        try rfl
      simp only [List.getElem_toArray, List.getElem_cons_zero, Act.put, List.setIfInBounds_toArray, List.set_cons_zero, List.set_cons_succ]
      refine wpAnyH_take (i := 1) (v := ?_) rfl (by kernel_rfl) (by kernel_rfl) (by kernel_rfl) (fun _ _ _ h => h) (Or.inl ⟨by rfl, ?_⟩) (by assumption) ?_
      rotate_left
      · intro W hW
        go_simp
        try rfl
      simp only [List.getElem_toArray, List.getElem_cons_succ, List.getElem_cons_zero, Act.put, List.setIfInBounds_toArray, List.set_cons_zero, List.set_cons_succ]
      refine wpAnyH_take (i := 2) (v := ?_) rfl (by kernel_rfl) (by kernel_rfl) (by kernel_rfl) (fun _ _ _ h => h) (Or.inl ⟨by rfl, ?_⟩) (by assumption) ?_
      rotate_left
      · intro W hW
        go_simp
        try rfl
      simp only [List.getElem_toArray, List.getElem_cons_succ, List.getElem_cons_zero, Act.put, List.setIfInBounds_toArray, List.set_cons_zero, List.set_cons_succ]
      refine wpAnyH_take (i := 3) (v := ?_) rfl (by kernel_rfl) (by kernel_rfl) (by kernel_rfl) (fun _ _ _ h => h) (Or.inl ⟨by rfl, ?_⟩) (by assumption) ?_
      rotate_left
      · intro W hW
        go_simp
        try rfl
      simp only [List.getElem_toArray, List.getElem_cons_succ, List.getElem_cons_zero, Act.put, List.setIfInBounds_toArray, List.set_cons_zero, List.set_cons_succ]
      refine wpAnyH_take (i := 4) (v := ?_) rfl (by kernel_rfl) (by kernel_rfl) (by kernel_rfl) (fun _ _ _ h => h) (Or.inl ⟨by rfl, ?_⟩) (by assumption) ?_
      rotate_left
      · intro W hW
        obtain ⟨x0, x1, x2, x3, x4, x5⟩ := hW.1.rd
        go_simp
        try rfl
      simp only [List.getElem_toArray, List.getElem_cons_succ, List.getElem_cons_zero, Act.put, List.setIfInBounds_toArray, List.set_cons_zero, List.set_cons_succ]
      refine wpAnyH_ready (rs := [5]) (by kernel_rfl) (by simp) ?_
      refine AllReadyH.cons rfl (fun K hK => ?_) AllReadyH.nil
      obtain ⟨v0, v1, v2, v3, v4, v5, y0, y1, y2, y3, y4, y5⟩ := KR4.out.six
      have hl2 := KR4.out.lt
      go_simp
      clear v0 v1 v2 v3 v4 v5 y0 y1 y2 y3 y4 y5 hl2
      refine hK.out _ _ ⟨KT4.out.far6 (q := w.heap.size) (by omega) _ _ _ _ _ _, KM4.out.far6 (q := w.heap.size) (by omega) _ _ _ _ _ _⟩ (fun hHeld => ?_)
      clear hK K
      try simp only [List.getElem_toArray, List.getElem_cons_succ, List.getElem_cons_zero, Act.put, List.setIfInBounds_toArray, List.set_cons_zero, List.set_cons_succ]
      refine wpAnyH_take (i := 6) (v := ?_) rfl (by kernel_rfl) (by kernel_rfl) (by kernel_rfl) (fun _ _ _ h => h) (Or.inl ⟨by rfl, ?_⟩) (by assumption) ?_
      rotate_left
      · intro W hW
        go_simp
        try rfl
      simp only [List.getElem_toArray, List.getElem_cons_succ, List.getElem_cons_zero, Act.put, List.setIfInBounds_toArray, List.set_cons_zero, List.set_cons_succ]
      refine wpAnyH_take (i := 7) (v := ?_) rfl (by kernel_rfl) (by kernel_rfl) (by kernel_rfl) (fun _ _ _ h => h) (Or.inl ⟨by rfl, ?_⟩) (by assumption) ?_
      rotate_left
      · intro W hW
        go_simp
        try rfl
      simp only [List.getElem_toArray, List.getElem_cons_succ, List.getElem_cons_zero, Act.put, List.setIfInBounds_toArray, List.set_cons_zero, List.set_cons_succ]
      refine wpAnyH_done (by kernel_rfl) ?_ _
      go_wp2_with fail
      refine ret_mu3 rfl rfl rfl rfl rfl KR4.out.all6 ?_
      exact ⟨A2, f2, rfl, own_low (own_far6 HO4.out (by omega) _ _ _ _ _ _) (by omega), Below.set6' HB4.out (Nat.le_refl _) _ _ _ _ _ _⟩
/- ROWS -/
def RowsOwn (w : World) (b : Nat) (ms : List MuA) : Prop := ∀ q ∈ ms, w.ownsRow b 51 2 (.slice q.2.1 q.1.pts.length q.2.2) q.1.pts.length (q.1.pts.flatMap cellsP)
theorem RowsOwn.keep {w w' : World} {b : Nat} {ms : List MuA} (h : RowsOwn w b ms) (hk : ∀ b, Typed w b 51 → w'.heap[b]? = w.heap[b]?) : RowsOwn w' b ms := fun q hq => own_keep (h q hq) hk
theorem RowsOwn.but {w w' : World} {g b : Nat} {t : TypeId} {ms : List MuA} (h : RowsOwn w b ms) (k : But g w w') (ht : Typed w g t) (hne : 51 ≠ t) : RowsOwn w' b ms := fun q hq => own_but (h q hq) k ht hne
theorem RowsOwn.alloc {w : World} {b : Nat} {ms : List MuA} (h : RowsOwn w b ms) (o : Obj) : RowsOwn (w.alloc o) b ms := fun q hq => (h q hq).alloc o
theorem RowsOwn.grown {w w' : World} {base b n : Nat} {v : Value} {xs : List Value} {ms : List MuA} (h : RowsOwn w b ms) (hown : w.ownsRow base 24 6 v n xs) (hg : w.grownBy w' v.ownBlock) : RowsOwn w' b ms := by
  refine h.keep fun b hb => hg.block b hb.lt ?_
  intro e
  obtain ⟨_, h2⟩ := hown
  rcases h2 with ⟨rfl, _⟩ | ⟨q, cap, cs, rfl, _, hh, _⟩
  · cases e
  · injection e with e
    subst e
    obtain ⟨c1, r1, h1⟩ := hb
    rw [h1] at hh
    injection hh with hh
    injection hh with _ h3
    exact absurd h3 (by decide)
theorem RowsOwn.snoc {w : World} {b : Nat} {ms : List MuA} (h : RowsOwn w b ms) {q : MuA} (hq : w.ownsRow b 51 2 (.slice q.2.1 q.1.pts.length q.2.2) q.1.pts.length (q.1.pts.flatMap cellsP)) : RowsOwn w b (ms ++ [q]) := by
  intro x hx
  rcases List.mem_append.1 hx with hx | hx
  · exact h x hx
  · obtain rfl := List.mem_singleton.1 hx
    exact hq
theorem six_any (w : World) (v0 v1 v2 v3 v4 v5 : Value) : Reads (w.alloc (.cells #[v0, v1, v2, v3, v4, v5] 24)) 24 6 (some ⟨w.heap.size, 0, none⟩) 1 [v0, v1, v2, v3, v4, v5] := by
  have k := Blk.new w 24 #[v0, v1, v2, v3, v4, v5]
  refine ⟨rfl, fun _ => ⟨_, rfl, k.typed, ?_⟩⟩
  intro j u hu
  have e1 : (⟨w.heap.size, 0, none⟩ : Addr).add j = ⟨w.heap.size, j, none⟩ := by
    cases j with
    | zero => rfl
    | succ j => simp [Addr.add]
  rw [e1, k.cell j]
  simpa using hu
/-- what the document's Rows hands back -/
def RetRowsD (r : Except Int (List Mu)) (w : World) (e : Ending) (w' : World) : Prop :=
  match r with
  | .ok l => ∃ C f ms, ms.map Prod.fst = l ∧ e = .returned (.tuple #[.slice C l.length f, .int .i64 0]) ∧ w'.ownsRow w.heap.size 24 6 (.slice C l.length f) l.length (ms.flatMap cellsM) ∧ RowsOwn w' w.heap.size ms ∧ Below w.heap.size w w'
  | .error x => e = .returned (.tuple #[.slice none 0 0, .int .i64 x]) ∧ Below w.heap.size w w'
/-- where the loop of Rows stands -/
def RowInv (bs : List Nat) (many i zi : Nat) (ei : Int) (R : Except Int (List Mu × Nat)) (ms : List MuA) (w : World) (b : Nat) (A : Option Addr) (f : Nat) : Prop :=
  (ei = 0 → R = rowsL bs (many - i) zi (ms.map Prod.fst) ∧ ms.length = i ∧ i ≤ zi ∧ zi ≤ bs.length ∧ w.ownsRow b 24 6 (.slice A i f) i (ms.flatMap cellsM) ∧ RowsOwn w b ms) ∧ (ei ≠ 0 → R = .error ei)
theorem But.above' {g b : Nat} {w w' : World} (k : But g w w') (hg : b ≤ g) (hw : w.heap.size = g + 1) (hb : b = g ∨ b ≤ g) : Below b w w' := ⟨k.os, k.tape, k.output, k.size, fun i hi => k.block i (by omega) (by omega)⟩
set_option maxRecDepth 100000 in
set_option maxHeartbeats 4000000 in
theorem Rows_d {B : Option Addr} {n c : Nat} {bs : List Nat} {w : World} (hs : Src w B n c bs) :
    Calls Try.prog 28 #[.slice B n c] w (RetRowsD (rowsS bs) w) := by
  have hl := hs.len
  have hn := hs.hn
  have HG := hid (refGet_c B n c 0 bs w hs.reads hs.hn hs.hc hs.hcm hs.hbs)
  obtain ⟨many, n0, e0, hrg⟩ : ∃ a b c, rg bs 0 = (a, b, c) := ⟨_, _, _, rfl⟩
  have hgn := rg_got bs 0
  have hsm := rg_small bs 0
  have hok := rg_ok (bs := bs) (z := 0)
  rw [hrg] at HG hgn hsm hok
  simp only at hgn hsm hok
  obtain ⟨i0, hi0, hz0, hz1, hz2⟩ := info_parts3 mut_info
  have HI := hid (And.intro hi0 (And.intro hz0 (And.intro hz1 hz2)))
  obtain ⟨rs, hrs⟩ : ∃ r, r = rowsS bs := ⟨_, rfl⟩
  rw [← hrs]
  unfold rowsS at hrs
  rw [hgn] at hrs
  have kt := Blk.new w 79 (rdC B n c n0 0)
  have HS := hid (hs.alloc (.cells (rdC B n c n0 0) 79))
  have KT := hid kt
  have HB := hid ((Below.refl w.heap.size w).alloc (Nat.le_refl _) (.cells (rdC B n c n0 0) 79))
  by_cases he : e0 = 0
  · subst he
    rw [if_pos rfl] at hrs
    simp only [if_true] at hrs
    obtain ⟨R, hR⟩ : ∃ R, R = rowsL bs many (Int.toNat 0 + n0) [] := ⟨_, rfl⟩
    rw [← hR] at hrs
    have hn0 : n0 ≤ bs.length := by have := (hok rfl).2.2; simpa using this
    have HRS := hid (And.intro hrs (And.intro hR (And.intro hn0 hl)))
    clear hrs hR hgn hok hs kt hn0 hrg hl hi0 hz0 hz1 hz2
    go_enter Try.func28, Try.ntmps28
    go_wp2_with fail
    refine HG.out.mono ?_
    rintro e w1 ⟨rfl, rfl⟩
    go_upto_region 5 with fail
    have hw1 : (w.alloc (.cells (rdC B n c n0 0) 79)).heap.size = w.heap.size + 1 := by simp
    generalize w.alloc (.cells (rdC B n c n0 0) 79) = w1 at *
    obtain ⟨g, hg⟩ : ∃ g, g = w.heap.size := ⟨_, rfl⟩
    rw [← hg] at hw1
    have HGS := hid hg
    rw [← hg] at KT ⊢
    clear hg HG
    go_wp2_with fail
    go_loopw [8, 9] (fun u8 u9 wr => ∃ (i : Nat) (ms : List MuA) (A : Option Addr) (f zi : Nat) (ei : Int), i ≤ many ∧ u9 = .int .u64 (i : Nat) ∧ u8 = .slice A i f ∧ Hid (RowInv bs many i zi ei R ms wr (g + 1) A f ∧ Blk wr g 79 (rdC B n c zi ei) ∧ But g w1 wr)) (fun _ u9 _ => many - (intOf u9).toNat)
    case atStart => exact ⟨0, [], none, 0, n0, 0, Nat.zero_le _, rfl, rfl, hid ⟨⟨fun _ => ⟨by rw [HRS.out.2.1]; simp, rfl, Nat.zero_le _, HRS.out.2.2.1, World.ownsRow_nil _ _ _ _, fun q hq => absurd hq (by simp)⟩, fun h => absurd rfl h⟩, KT.out, But.refl _ _⟩⟩
    case round =>
      obtain ⟨i, ms, A, f, zi, ei, hi, rfl, rfl, HW⟩ := hrel
      obtain ⟨hinv, kt, hb⟩ := HW.out
      obtain ⟨r0, r1, r2, r3, r4, r5⟩ := kt.rd
      by_cases hei : ei = 0
      · subst hei
        obtain ⟨hR1, hml, hiz, hzl, hown, hro⟩ := hinv.1 rfl
        by_cases hlt : i < many
        · have hltI : (i : Int) < (many : Int) := by omega
          have hzl6 : zi ≤ 1000000 := by have := HRS.out.2.2.2; omega
          have HMU := hid (mutation_0 kt (HS.out.butS hb KT.out.typed) hzl6)
          have hstep : many - i = (many - (i + 1)) + 1 := by omega
          rw [hstep] at hR1
          unfold rowsL at hR1
          have HO := hid (And.intro hown (And.intro hro (And.intro hb kt.typed)))
          have HML := hid (And.intro hml (And.intro hiz hzl))
          cases hm : mutS bs zi with
          | error x =>
            rw [hm] at HMU hR1
            have hx := mutS_err hm
            have HXR := hid (And.intro hR1 hx)
            have hi6 : i ≤ 1000000 := by omega
            clear hm hR1 hx hown hro hb kt hinv HW hml hiz hzl
            go_wp2_with fail
            refine HMU.out.mono ?_
            rintro e w4 ⟨m, A2, q2, f2, z2, rfl, hb4, kt4⟩
            obtain ⟨hown, hro, hb, hty⟩ := HO.out
            have hown4 := (own_but hown hb4 hty (by decide)).alloc (.cells (aM m.kind m.name m.eps m.floor m.scale (.slice A2 q2 f2)) 24)
            have kt5 := kt4.alloc (.cells (aM m.kind m.name m.eps m.floor m.scale (.slice A2 q2 f2)) 24)
            have hb5 := (hb.trans hb4).alloc (.cells (aM m.kind m.name m.eps m.floor m.scale (.slice A2 q2 f2)) 24)
            have hnew : Reads (w4.alloc (.cells (aM m.kind m.name m.eps m.floor m.scale (.slice A2 q2 f2)) 24)) 24 6 (some ⟨w4.heap.size, 0, none⟩) 1 [.int .i64 m.kind, .string m.name, .int .i64 m.eps, .int .i64 m.floor, .int .i64 m.scale, .slice A2 q2 f2] := six_any w4 _ _ _ _ _ _
            have hsz : g + 1 ≤ (w4.alloc (.cells (aM m.kind m.name m.eps m.floor m.scale (.slice A2 q2 f2)) 24)).heap.size := by have := kt5.lt; omega
            clear hown hro hb hty HO HMU hb4 kt4 r0 r1 r2 r3 r4 r5
            go_wp2_with (at_builtin; refine wpList_append_any _ rfl (.tmp 35) (.tmp 38) 38 rfl (g + 1) 24 i0 (.agg zMuC) 6 72 Try.underlying38 HI.out.1 HI.out.2.1 HI.out.2.2.1 HI.out.2.2.2 rfl (by decide) _ i (ms.flatMap cellsM) rfl hown4 (some ⟨w4.heap.size, 0, none⟩) 1 1 [.int .i64 m.kind, .string m.name, .int .i64 m.eps, .int .i64 m.floor, .int .i64 m.scale, .slice A2 q2 f2] rfl hnew (by intro u hu; simp only [List.mem_cons, List.not_mem_nil, or_false] at hu; rcases hu with rfl | rfl | rfl | rfl | rfl | rfl <;> rfl) (by simp only [maxLen]; omega) (by omega) hsz ?_; intro v' w6 hown' hg' hv')
            obtain ⟨A', f', rfl, _, _⟩ := own_form hown'
            have kt6 := kt5.grown hg' (own_not hown4 kt5 (by decide))
            have hbl := (Below.refl (g + 1) _).grown hg' hsz (fun k hk => (hown4.lt k hk).1)
            have hb6 := hb5.then_ (hbl.mono (by omega))
            clear hbl
            have HNX := hid (And.intro kt6 hb6)
            clear hown4 kt5 hb5 hnew hsz hown' hg' hv' kt6 hb6
            go_wp2_with fail
            go_roundw
            case rel => exact ⟨i + 1, ms, A', f', z2, x, by omega, by go_num, rfl, hid ⟨⟨fun h => absurd h HXR.out.2, fun _ => HXR.out.1⟩, HNX.out.1, HNX.out.2⟩⟩
            case measure => simp [intOf]; omega
          | ok r =>
            obtain ⟨m, p⟩ := r
            rw [hm] at HMU hR1
            have hlt2 := mutS_lt hm
            simp only at hR1
            have HXR := hid (And.intro hR1 hlt2)
            have hi6 : i ≤ 1000000 := by omega
            clear hm hR1 hlt2 hown hro hb kt hinv HW hml hiz hzl
            go_wp2_with fail
            refine HMU.out.mono ?_
            rintro e w4 ⟨A2, f2, rfl, hb4, kt4, hown2⟩
            obtain ⟨hown, hro, hb, hty⟩ := HO.out
            have hown4 := (own_but hown hb4 hty (by decide)).alloc (.cells (aM m.kind m.name m.eps m.floor m.scale (.slice A2 m.pts.length f2)) 24)
            have hro4 := ((hro.but hb4 hty (by decide)).snoc (q := (m, A2, f2)) (own_low hown2 (by have := hb.size; omega))).alloc (.cells (aM m.kind m.name m.eps m.floor m.scale (.slice A2 m.pts.length f2)) 24)
            have kt5 := kt4.alloc (.cells (aM m.kind m.name m.eps m.floor m.scale (.slice A2 m.pts.length f2)) 24)
            have hb5 := (hb.trans hb4).alloc (.cells (aM m.kind m.name m.eps m.floor m.scale (.slice A2 m.pts.length f2)) 24)
            have hnew := six_any w4 (.int .i64 m.kind) (.string m.name) (.int .i64 m.eps) (.int .i64 m.floor) (.int .i64 m.scale) (.slice A2 m.pts.length f2)
            have hsz : g + 1 ≤ (w4.alloc (.cells (aM m.kind m.name m.eps m.floor m.scale (.slice A2 m.pts.length f2)) 24)).heap.size := by have := kt5.lt; omega
            clear hown hro hb hty HO HMU hb4 kt4 hown2 r0 r1 r2 r3 r4 r5
            go_wp2_with (at_builtin; refine wpList_append_any _ rfl (.tmp 35) (.tmp 38) 38 rfl (g + 1) 24 i0 (.agg zMuC) 6 72 Try.underlying38 HI.out.1 HI.out.2.1 HI.out.2.2.1 HI.out.2.2.2 rfl (by decide) _ i (ms.flatMap cellsM) rfl hown4 (some ⟨w4.heap.size, 0, none⟩) 1 1 [.int .i64 m.kind, .string m.name, .int .i64 m.eps, .int .i64 m.floor, .int .i64 m.scale, .slice A2 m.pts.length f2] rfl hnew (by intro u hu; simp only [List.mem_cons, List.not_mem_nil, or_false] at hu; rcases hu with rfl | rfl | rfl | rfl | rfl | rfl <;> rfl) (by simp only [maxLen]; omega) (by omega) hsz ?_; intro v' w6 hown' hg' hv')
            obtain ⟨A', f', rfl, _, _⟩ := own_form hown'
            have kt6 := kt5.grown hg' (own_not hown4 kt5 (by decide))
            have hbl := (Below.refl (g + 1) _).grown hg' hsz (fun k hk => (hown4.lt k hk).1)
            have hb6 := hb5.then_ (hbl.mono (by omega))
            have hro6 := hro4.grown hown4 hg'
            have hown6 : w6.ownsRow (g + 1) 24 6 (.slice A' (i + 1) f') (i + 1) ((ms ++ [(m, A2, f2)]).flatMap cellsM) := by rw [cellsM_snoc]; exact hown'
            have HNX := hid (And.intro kt6 (And.intro hb6 (And.intro hro6 hown6)))
            clear hown4 kt5 hb5 hnew hsz hown' hg' hv' kt6 hb6 hro4 hro6 hown6 hbl
            go_wp2_with fail
            go_roundw
            case rel => exact ⟨i + 1, ms ++ [(m, A2, f2)], A', f', p, 0, by omega, by go_num, rfl, hid ⟨⟨fun _ => ⟨by rw [HXR.out.1, List.map_append]; rfl, by rw [List.length_append, HML.out.1]; rfl, by have := HXR.out.2; have := HML.out; omega, HXR.out.2.2, HNX.out.2.2.2, HNX.out.2.2.1⟩, fun h => absurd rfl h⟩, HNX.out.1, HNX.out.2.1⟩⟩
            case measure => simp [intOf]; omega
        · obtain rfl : i = many := by omega
          rw [Nat.sub_self] at hR1
          have hR2 : R = .ok (ms.map Prod.fst, zi) := by rw [hR1]; rfl
          have hrs2 : rs = (if zi = bs.length then .ok (ms.map Prod.fst) else .error 7) := by rw [HRS.out.1, hR2]; rfl
          have hBB := (HB.out.trans (show Below w.heap.size w1 wr from But.above' hb (by have := HGS.out; omega) hw1 (.inr (by have := HGS.out; omega))))
          by_cases hzn : zi = bs.length
          · rw [if_pos hzn] at hrs2
            have hz' : zi = n := by rw [hzn]; exact HRS.out.2.2.2
            have t1 : ((zi : Int) == (n : Int)) = true := by simp [hz']
            have HND := hid (needd_t kt)
            have HF := hid (show RetRowsD rs w (.returned (.tuple #[.slice A i f, .int .i64 0])) wr by
              rw [hrs2]
              refine ⟨A, f, ms, rfl, by rw [List.length_map, hml], ?_, ?_, hBB⟩
              · rw [List.length_map, hml]
                exact own_low hown (by have := HGS.out; omega)
              · intro q hq
                exact own_low (hro q hq) (by have := HGS.out; omega))
            clear hR1 hR2 hrs2 hBB hzn hz' hown hro hb kt hinv HW hml hiz hzl hlt hi
            go_wp2_with fail
            refine HND.out.mono ?_
            rintro e w5 ⟨rfl, rfl⟩
            go_wp2_with fail
            go_ret2
            exact HF.out
          · rw [if_neg hzn] at hrs2
            have t1 : ((zi : Int) == (n : Int)) = false := by simp; have := HRS.out.2.2.2; omega
            have HND := hid (needd_f kt)
            have HBB := hid hBB
            have HR2 := hid hrs2
            clear hR1 hR2 hrs2 hBB hzn hown hro hb kt hinv HW hml hiz hzl hlt hi
            go_wp2_with fail
            refine HND.out.mono ?_
            rintro e w5 ⟨rfl, hb5, kt5⟩
            have HF := hid (show RetRowsD rs w (.returned (.tuple #[.slice none 0 0, .int .i64 7])) w5.drew by
              rw [HR2.out]
              exact ⟨rfl, below_dn (But.below HBB.out hb5 (by have := HGS.out; omega) HBB.out.size) 1⟩)
            obtain ⟨d0, d1, d2, g1, g2, hlt⟩ := kt5.rd
            clear hb5 kt5 r0 r1 r2 r3 r4 r5
            go_wp2_with fail
            go_region_held3 (fun w' => w'.cell? ⟨g, 2, none⟩ = some (.int .i64 7)) (exact d2) (fail)
            go_wp2_with fail
            go_ret2
            exact HF.out
      · have hR2 := hinv.2 hei
        have t1 : (ei == 0) = false := by simp [hei]
        have t2 : (ei != 0) = true := by simp [hei]
        have hBB := (HB.out.trans (show Below w.heap.size w1 wr from But.above' hb (by have := HGS.out; omega) hw1 (.inr (by have := HGS.out; omega))))
        have HND := hid (fun b => needd_e b hei kt)
        have HF := hid (show RetRowsD rs w (.returned (.tuple #[.slice none 0 0, .int .i64 ei])) wr.drew by
          rw [HRS.out.1, hR2]
          exact ⟨rfl, below_dn hBB 1⟩)
        clear hR2 hBB hb kt hinv HW hei
        by_cases hlt : (i : Int) < (many : Int)
        all_goals
          by_cases hzn : (zi : Int) = (n : Int)
          all_goals
            go_wp2_with fail
            refine (HND.out _).mono ?_
            rintro e w5 ⟨rfl, rfl⟩
            go_wp2_with fail
            go_region_held3 (fun w' => w'.cell? ⟨g, 2, none⟩ = some (.int .i64 ei)) (exact r2) (fail)
            go_wp2_with fail
            go_ret2
            exact HF.out
  · rw [if_neg he] at hrs
    simp only at hrs
    rw [if_neg he] at hrs
    have t2 : (e0 != 0) = true := by simp [he]
    have HF := hid (show RetRowsD rs w (.returned (.tuple #[.slice none 0 0, .int .i64 e0])) w by rw [hrs]; exact ⟨rfl, Below.refl _ _⟩)
    clear hrs he hgn hok hs kt hrg hl hi0 hz0 hz1 hz2
    go_enter Try.func28, Try.ntmps28
    go_wp2_with fail
    refine HG.out.mono ?_
    rintro e w1 ⟨rfl, rfl⟩
    go_wp2_with fail
    go_ret2
    exact HF.out
end Go.Proofs.Ytedojdbihajnbaa
