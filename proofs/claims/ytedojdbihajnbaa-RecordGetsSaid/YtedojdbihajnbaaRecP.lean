/- Contracts: record.putFloor, putBound (seat Record). -/
import Derived.Test.YtedojdbihajnbaaRecO
namespace Go.Proofs.Ytedojdbihajnbaa
open Go.RowKit Go.Shelf VB
open Go.Lib (hid)
set_option linter.unusedVariables false
set_option linter.unusedSimpArgs false
/-- a tape, whatever bytes it has -/
def TapeX (w : World) (g : Nat) (k : Int) (nm : ByteArray) (ep fl sc : Int) (P : Value) (z : Int) : Prop := ∃ B n c, Blk w g 64 (tapeC k nm ep fl sc P B n c z)
theorem TapeX.cells {w : World} {g : Nat} {k : Int} {nm : ByteArray} {ep fl sc : Int} {P : Value} {z : Int} (h : TapeX w g k nm ep fl sc P z) : w.cell? ⟨g, 2, none⟩ = some (.int .i64 ep) ∧ w.cell? ⟨g, 3, none⟩ = some (.int .i64 fl) ∧ w.cell? ⟨g, 4, none⟩ = some (.int .i64 sc) ∧ w.cell? ⟨g, 5, none⟩ = some P := by
  obtain ⟨B, n, c, h⟩ := h
  exact ⟨h.cell 2, h.cell 3, h.cell 4, h.cell 5⟩
/-- what a method that writes leaves -/
def RetPut (l : List Nat) (k : Int) (nm : ByteArray) (ep fl sc : Int) (P : Value) (g : Nat) (z : Int) (w : World) (e : Ending) (w' : World) : Prop :=
  ∃ C f, e = .returned (.tuple #[]) ∧ But g w w' ∧ Blk w' g 64 (tapeC k nm ep fl sc P C l.length f z) ∧ w'.ownsRow w.heap.size 5 1 (.slice C l.length f) l.length (bsV l)
section
variable {w : World} {g : Nat} {k : Int} {nm : ByteArray} {ep fl sc : Int} {P : Value} {B : Option Addr} {c : Nat} {bs : List Nat} {z : Int}
theorem put_end {w1 w2 : World} {C : Option Addr} {f : Nat} {l : List Nat} {c0 : Nat} (kt : Blk w2 g 64 (tapeC k nm ep fl sc P B bs.length c0 z)) (hg : g < w.heap.size) (hb : Below w.heap.size w w2) (hown : w2.ownsRow w.heap.size 5 1 (.slice C l.length f) l.length (bsV l)) :
    RetPut l k nm ep fl sc P g z w (.returned (.tuple #[])) (w2.setCell ⟨g, 6, none⟩ (.slice C l.length f)) :=
  ⟨C, f, rfl, (But.of_below hb).setg 6 _, kt.set_ 6 _, own_far hown hg _⟩
set_option maxRecDepth 100000 in
set_option maxHeartbeats 1000000 in
theorem putFloor_c (kt : Blk w g 64 (tapeC k nm ep fl sc P B bs.length c z)) (hr : Reads w 5 1 B bs.length (bsV bs)) (hn : bs.length ≤ 1000000) (h0 : 0 ≤ fl) (h1 : fl < 9223372036854775808) :
    Calls Try.prog 61 #[.pointer (some ⟨g, 0, none⟩)] w (RetPut (bs ++ vb fl.toNat) k nm ep fl sc P g z w) := by
  obtain ⟨m, hm⟩ := Int.eq_ofNat_of_zero_le h0
  have hw : IntKind.u64.wrap fl = (m : Int) := by rw [IntKind.wrap_u64]; omega
  have HP := hid (fun w (h : Reads w 5 1 B bs.length (bsV bs)) => PutU_c B bs.length c bs m w h hn (by omega))
  have HE := hid (show bs ++ vb fl.toNat = bs ++ vb m by rw [hm]; rfl)
  rw [HE.out]
  obtain ⟨l, hl⟩ : ∃ l, l = bs ++ vb m := ⟨_, rfl⟩
  rw [← hl] at HP ⊢
  have HK := hid kt
  have HR := hid hr
  clear kt hr h0 h1 hl HE hm
  go_enter Try.func61, Try.ntmps61
  go_upto_region 0 with fail
  refine wp_region_held_drew (S := (fun W => TapeX W g k nm ep fl sc P z)) (by kernel_rfl) ⟨_, _, _, HK.out.drew⟩ (fun hHeld => ?_)
  have kt := HK.out.drew
  have hr := HR.out.drew
  have hg0 := kt.lt
  have hb0 := below_dn (Below.refl w.heap.size w) 1
  change Below w.heap.size w w.drew at hb0
  change g < w.heap.size at hg0
  refine wpAnyH_take (i := 0) (v := ?_) rfl (by kernel_rfl) (by kernel_rfl) (by kernel_rfl) (fun _ _ _ h => h) (Or.inl ⟨by rfl, ?_⟩) (by assumption) ?_
  rotate_left
  · intro W hW
    go_simp
    try rfl
  simp only [List.getElem_toArray, List.getElem_cons_zero, Act.put, List.setIfInBounds_toArray, List.set_cons_zero, List.set_cons_succ]
  refine wpAnyH_take (i := 1) (v := ?_) rfl (by kernel_rfl) (by kernel_rfl) (by kernel_rfl) (fun _ _ _ h => h) (Or.inl ⟨by rfl, ?_⟩) (by assumption) ?_
  rotate_left
  · intro W hW
    go_simp
    try rfl
  simp only [List.getElem_toArray, List.getElem_cons_succ, List.getElem_cons_zero, Act.put, List.setIfInBounds_toArray, List.set_cons_zero, List.set_cons_succ]
  refine wpAnyH_take (i := 2) (v := ?_) rfl (by kernel_rfl) (by kernel_rfl) (by kernel_rfl) (fun _ _ _ h => h) (Or.inl ⟨by rfl, ?_⟩) (by assumption) ?_
  rotate_left
  · intro W hW
    go_simp
    try rfl
  simp only [List.getElem_toArray, List.getElem_cons_succ, List.getElem_cons_zero, Act.put, List.setIfInBounds_toArray, List.set_cons_zero, List.set_cons_succ]
  refine wpAnyH_take (i := 3) (v := ?_) rfl (by kernel_rfl) (by kernel_rfl) (by kernel_rfl) (fun _ _ _ h => h) (Or.inl ⟨by rfl, ?_⟩) (by assumption) ?_
  rotate_left
  · intro W hW
    go_simp
    try rfl
  simp only [List.getElem_toArray, List.getElem_cons_succ, List.getElem_cons_zero, Act.put, List.setIfInBounds_toArray, List.set_cons_zero, List.set_cons_succ]
  refine wpAnyH_take (i := 5) (v := ?_) rfl (by kernel_rfl) (by kernel_rfl) (by kernel_rfl) (fun _ _ _ h => h) (Or.inl ⟨by rfl, ?_⟩) (by assumption) ?_
  rotate_left
  · intro W hW
    go_simp
    try rfl
  simp only [List.getElem_toArray, List.getElem_cons_succ, List.getElem_cons_zero, Act.put, List.setIfInBounds_toArray, List.set_cons_zero, List.set_cons_succ]
  refine wpAnyH_take (i := 6) (v := ?_) rfl (by kernel_rfl) (by kernel_rfl) (by kernel_rfl) (fun _ _ _ h => h) (Or.inl ⟨by rfl, ?_⟩) (by assumption) ?_
  rotate_left
  · intro W hW
    go_simp
    try rfl
  simp only [List.getElem_toArray, List.getElem_cons_succ, List.getElem_cons_zero, Act.put, List.setIfInBounds_toArray, List.set_cons_zero, List.set_cons_succ]
  refine wpAnyH_take (i := 7) (v := ?_) rfl (by kernel_rfl) (by kernel_rfl) (by kernel_rfl) (fun _ _ _ h => h) (Or.inl ⟨by rfl, ?_⟩) (by assumption) ?_
  rotate_left
  · intro W hW
    go_simp
    try rfl
  simp only [List.getElem_toArray, List.getElem_cons_succ, List.getElem_cons_zero, Act.put, List.setIfInBounds_toArray, List.set_cons_zero, List.set_cons_succ]
  refine wpAnyH_take (i := 8) (v := ?_) rfl (by kernel_rfl) (by kernel_rfl) (by kernel_rfl) (fun _ _ _ h => h) (Or.inl ⟨by rfl, ?_⟩) (by assumption) ?_
  rotate_left
  · intro W hW
    go_simp
    try rfl
  simp only [List.getElem_toArray, List.getElem_cons_succ, List.getElem_cons_zero, Act.put, List.setIfInBounds_toArray, List.set_cons_zero, List.set_cons_succ]
  refine wpAnyH_take (i := 9) (v := ?_) rfl (by kernel_rfl) (by kernel_rfl) (by kernel_rfl) (fun _ _ _ h => h) (Or.inl ⟨by rfl, ?_⟩) (by assumption) ?_
  rotate_left
  · intro W hW
    obtain ⟨x2, x3, x4, x5⟩ := hW.cells
    go_simp
    try rfl
  simp only [List.getElem_toArray, List.getElem_cons_succ, List.getElem_cons_zero, Act.put, List.setIfInBounds_toArray, List.set_cons_zero, List.set_cons_succ]
  refine wpAnyH_take (i := 10) (v := ?_) rfl (by kernel_rfl) (by kernel_rfl) (by kernel_rfl) (fun _ _ _ h => h) (Or.inl ⟨by rfl, ?_⟩) (by assumption) ?_
  rotate_left
  · intro W hW
    go_simp
    try rfl
  simp only [List.getElem_toArray, List.getElem_cons_succ, List.getElem_cons_zero, Act.put, List.setIfInBounds_toArray, List.set_cons_zero, List.set_cons_succ]
  refine wpAnyH_ready (rs := [4]) (by kernel_rfl) (by simp) ?_
  refine AllReadyH.cons rfl (fun K hK => ?_) AllReadyH.nil
  have x6 := kt.cell 6
  have x6 : w.drew.cell? ⟨g, 6, none⟩ = some (.slice B bs.length c) := x6
  go_simp
  clear x6
  refine hK.out _ _ ⟨_, _, _, kt⟩ (fun hHeld => ?_)
  clear hK K
  try simp only [List.getElem_toArray, List.getElem_cons_succ, List.getElem_cons_zero, Act.put, List.setIfInBounds_toArray, List.set_cons_zero, List.set_cons_succ]
  refine wpAnyH_ready (rs := [11]) (by kernel_rfl) (by simp) ?_
  refine AllReadyH.cons rfl (fun K hK => ?_) AllReadyH.nil
  go_simp
  refine (HP.out _ hr).mono ?_
  rintro e w2 ⟨C, f, rfl, hown, hb2⟩
  have kt := kt.under hb2
  have hb := hb0.trans (hb2.mono (Nat.le_refl _))
  clear hb0 hb2 hr
  refine hK.out _ _ ⟨_, _, _, kt⟩ (fun hHeld => ?_)
  clear hK K
  try simp only [List.getElem_toArray, List.getElem_cons_succ, List.getElem_cons_zero, Act.put, List.setIfInBounds_toArray, List.set_cons_zero, List.set_cons_succ]
  refine wpAnyH_take (i := 12) (v := ?_) rfl (by kernel_rfl) (by kernel_rfl) (by kernel_rfl) (fun _ _ _ h => h) (Or.inl ⟨by rfl, ?_⟩) (by assumption) ?_
  rotate_left
  · intro W hW
    go_simp
    try rfl
  simp only [List.getElem_toArray, List.getElem_cons_succ, List.getElem_cons_zero, Act.put, List.setIfInBounds_toArray, List.set_cons_zero, List.set_cons_succ]
  refine wpAnyH_take (i := 13) (v := ?_) rfl (by kernel_rfl) (by kernel_rfl) (by kernel_rfl) (fun _ _ _ h => h) (Or.inl ⟨by rfl, ?_⟩) (by assumption) ?_
  rotate_left
  · intro W hW
    go_simp
    try rfl
  simp only [List.getElem_toArray, List.getElem_cons_succ, List.getElem_cons_zero, Act.put, List.setIfInBounds_toArray, List.set_cons_zero, List.set_cons_succ]
  refine wpAnyH_ready (rs := [14]) (by kernel_rfl) (by simp) ?_
  refine AllReadyH.cons rfl (fun K hK => ?_) AllReadyH.nil
  have x6 := kt.cell 6
  have x6 : w2.cell? ⟨g, 6, none⟩ = some (.slice B bs.length c) := x6
  have y6 := kt.frozen 6
  have y7 := kt.lt
  go_simp
  refine hK.out _ _ ⟨_, _, _, kt.set_ 6 _⟩ (fun hHeld => ?_)
  clear hK K hHeld x6 y6 y7
  try simp only [List.getElem_toArray, List.getElem_cons_succ, List.getElem_cons_zero, Act.put, List.setIfInBounds_toArray, List.set_cons_zero, List.set_cons_succ]
  refine wpAnyH_done (by kernel_rfl) ?_ _
  have HF := hid (put_end (w1 := w) kt hg0 hb hown)
  clear kt hg0 hb hown
  go_wp2_with fail
  exact bodyPost_ret (results_none rfl _ _ _) rfl HF.out
theorem own_low {W : World} {b b' size n : Nat} {e : TypeId} {v : Value} {xs : List Value} (h : W.ownsRow b e size v n xs) (hb : b' ≤ b) : W.ownsRow b' e size v n xs :=
  ⟨h.1, h.2.imp id fun ⟨g, cap, cur, h1, h2, h3⟩ => ⟨g, cap, cur, h1, Nat.le_trans hb h2, h3⟩⟩
theorem putsz {l bs : List Nat} {m : Nat} (hl : l = bs ++ vb m) (hm : m < 18446744073709551616) : l.length ≤ bs.length + 10 := by
  rw [hl, List.length_append]; have := vb_len10 hm; omega
set_option maxRecDepth 100000 in
set_option maxHeartbeats 1000000 in
theorem putBound_c (kt : Blk w g 64 (tapeC k nm ep fl sc P B bs.length c z)) (hr : Reads w 5 1 B bs.length (bsV bs)) (hn : bs.length ≤ 999000) (h0 : 0 ≤ ep) (h1 : ep < 9223372036854775808) (h2 : -9223372036854775808 ≤ sc) (h3 : sc ≤ 9223372036854775807) :
    Calls Try.prog 56 #[.pointer (some ⟨g, 0, none⟩)] w (RetPut ((bs ++ vb ep.toNat) ++ vb (fold64 sc)) k nm ep fl sc P g z w) := by
  obtain ⟨m, hm⟩ := Int.eq_ofNat_of_zero_le h0
  have hw : IntKind.u64.wrap ep = (m : Int) := by rw [IntKind.wrap_u64]; omega
  have HP := hid (fun w (h : Reads w 5 1 B bs.length (bsV bs)) => PutU_c B bs.length c bs m w h (by omega) (by omega))
  have HE := hid (show bs ++ vb ep.toNat = bs ++ vb m by rw [hm]; rfl)
  rw [HE.out]
  obtain ⟨l, hl⟩ : ∃ l, l = bs ++ vb m := ⟨_, rfl⟩
  rw [← hl] at HP ⊢
  have HQ := hid (fun C f w (h : Reads w 5 1 C l.length (bsV l)) => Put_c C l.length f l sc w h (by have := putsz hl (by omega); omega) h2 h3)
  obtain ⟨l2, hl2⟩ : ∃ l2, l2 = l ++ vb (fold64 sc) := ⟨_, rfl⟩
  rw [← hl2] at HQ ⊢
  have HK := hid kt
  have HR := hid hr
  clear kt hr h0 h1 hl HE hm hl2 h2 h3
  go_enter Try.func56, Try.ntmps56
  go_upto_region 0 with fail
  refine wp_region_held_drew (S := (fun W => TapeX W g k nm ep fl sc P z)) (by kernel_rfl) ⟨_, _, _, HK.out.drew⟩ (fun hHeld => ?_)
  have kt := HK.out.drew
  have hr := HR.out.drew
  have hg0 := kt.lt
  have hb0 := below_dn (Below.refl w.heap.size w) 1
  change Below w.heap.size w w.drew at hb0
  change g < w.heap.size at hg0
  refine wpAnyH_take (i := 0) (v := ?_) rfl (by kernel_rfl) (by kernel_rfl) (by kernel_rfl) (fun _ _ _ h => h) (Or.inl ⟨by rfl, ?_⟩) (by assumption) ?_
  rotate_left
  · intro W hW
    go_simp
    try rfl
  simp only [List.getElem_toArray, List.getElem_cons_zero, Act.put, List.setIfInBounds_toArray, List.set_cons_zero, List.set_cons_succ]
  refine wpAnyH_take (i := 1) (v := ?_) rfl (by kernel_rfl) (by kernel_rfl) (by kernel_rfl) (fun _ _ _ h => h) (Or.inl ⟨by rfl, ?_⟩) (by assumption) ?_
  rotate_left
  · intro W hW
    go_simp
    try rfl
  simp only [List.getElem_toArray, List.getElem_cons_succ, List.getElem_cons_zero, Act.put, List.setIfInBounds_toArray, List.set_cons_zero, List.set_cons_succ]
  refine wpAnyH_take (i := 2) (v := ?_) rfl (by kernel_rfl) (by kernel_rfl) (by kernel_rfl) (fun _ _ _ h => h) (Or.inl ⟨by rfl, ?_⟩) (by assumption) ?_
  rotate_left
  · intro W hW
    go_simp
    try rfl
  simp only [List.getElem_toArray, List.getElem_cons_succ, List.getElem_cons_zero, Act.put, List.setIfInBounds_toArray, List.set_cons_zero, List.set_cons_succ]
  refine wpAnyH_take (i := 3) (v := ?_) rfl (by kernel_rfl) (by kernel_rfl) (by kernel_rfl) (fun _ _ _ h => h) (Or.inl ⟨by rfl, ?_⟩) (by assumption) ?_
  rotate_left
  · intro W hW
    go_simp
    try rfl
  simp only [List.getElem_toArray, List.getElem_cons_succ, List.getElem_cons_zero, Act.put, List.setIfInBounds_toArray, List.set_cons_zero, List.set_cons_succ]
  refine wpAnyH_take (i := 5) (v := ?_) rfl (by kernel_rfl) (by kernel_rfl) (by kernel_rfl) (fun _ _ _ h => h) (Or.inl ⟨by rfl, ?_⟩) (by assumption) ?_
  rotate_left
  · intro W hW
    go_simp
    try rfl
  simp only [List.getElem_toArray, List.getElem_cons_succ, List.getElem_cons_zero, Act.put, List.setIfInBounds_toArray, List.set_cons_zero, List.set_cons_succ]
  refine wpAnyH_take (i := 6) (v := ?_) rfl (by kernel_rfl) (by kernel_rfl) (by kernel_rfl) (fun _ _ _ h => h) (Or.inl ⟨by rfl, ?_⟩) (by assumption) ?_
  rotate_left
  · intro W hW
    go_simp
    try rfl
  simp only [List.getElem_toArray, List.getElem_cons_succ, List.getElem_cons_zero, Act.put, List.setIfInBounds_toArray, List.set_cons_zero, List.set_cons_succ]
  refine wpAnyH_take (i := 7) (v := ?_) rfl (by kernel_rfl) (by kernel_rfl) (by kernel_rfl) (fun _ _ _ h => h) (Or.inl ⟨by rfl, ?_⟩) (by assumption) ?_
  rotate_left
  · intro W hW
    go_simp
    try rfl
  simp only [List.getElem_toArray, List.getElem_cons_succ, List.getElem_cons_zero, Act.put, List.setIfInBounds_toArray, List.set_cons_zero, List.set_cons_succ]
  refine wpAnyH_take (i := 8) (v := ?_) rfl (by kernel_rfl) (by kernel_rfl) (by kernel_rfl) (fun _ _ _ h => h) (Or.inl ⟨by rfl, ?_⟩) (by assumption) ?_
  rotate_left
  · intro W hW
    go_simp
    try rfl
  simp only [List.getElem_toArray, List.getElem_cons_succ, List.getElem_cons_zero, Act.put, List.setIfInBounds_toArray, List.set_cons_zero, List.set_cons_succ]
  refine wpAnyH_take (i := 9) (v := ?_) rfl (by kernel_rfl) (by kernel_rfl) (by kernel_rfl) (fun _ _ _ h => h) (Or.inl ⟨by rfl, ?_⟩) (by assumption) ?_
  rotate_left
  · intro W hW
    obtain ⟨x2, x3, x4, x5⟩ := hW.cells
    go_simp
    try rfl
  simp only [List.getElem_toArray, List.getElem_cons_succ, List.getElem_cons_zero, Act.put, List.setIfInBounds_toArray, List.set_cons_zero, List.set_cons_succ]
  refine wpAnyH_take (i := 10) (v := ?_) rfl (by kernel_rfl) (by kernel_rfl) (by kernel_rfl) (fun _ _ _ h => h) (Or.inl ⟨by rfl, ?_⟩) (by assumption) ?_
  rotate_left
  · intro W hW
    go_simp
    try rfl
  simp only [List.getElem_toArray, List.getElem_cons_succ, List.getElem_cons_zero, Act.put, List.setIfInBounds_toArray, List.set_cons_zero, List.set_cons_succ]
  refine wpAnyH_take (i := 12) (v := ?_) rfl (by kernel_rfl) (by kernel_rfl) (by kernel_rfl) (fun _ _ _ h => h) (Or.inl ⟨by rfl, ?_⟩) (by assumption) ?_
  rotate_left
  · intro W hW
    go_simp
    try rfl
  simp only [List.getElem_toArray, List.getElem_cons_succ, List.getElem_cons_zero, Act.put, List.setIfInBounds_toArray, List.set_cons_zero, List.set_cons_succ]
  refine wpAnyH_take (i := 13) (v := ?_) rfl (by kernel_rfl) (by kernel_rfl) (by kernel_rfl) (fun _ _ _ h => h) (Or.inl ⟨by rfl, ?_⟩) (by assumption) ?_
  rotate_left
  · intro W hW
    go_simp
    try rfl
  simp only [List.getElem_toArray, List.getElem_cons_succ, List.getElem_cons_zero, Act.put, List.setIfInBounds_toArray, List.set_cons_zero, List.set_cons_succ]
  refine wpAnyH_take (i := 14) (v := ?_) rfl (by kernel_rfl) (by kernel_rfl) (by kernel_rfl) (fun _ _ _ h => h) (Or.inl ⟨by rfl, ?_⟩) (by assumption) ?_
  rotate_left
  · intro W hW
    go_simp
    try rfl
  simp only [List.getElem_toArray, List.getElem_cons_succ, List.getElem_cons_zero, Act.put, List.setIfInBounds_toArray, List.set_cons_zero, List.set_cons_succ]
  refine wpAnyH_take (i := 15) (v := ?_) rfl (by kernel_rfl) (by kernel_rfl) (by kernel_rfl) (fun _ _ _ h => h) (Or.inl ⟨by rfl, ?_⟩) (by assumption) ?_
  rotate_left
  · intro W hW
    go_simp
    try rfl
  simp only [List.getElem_toArray, List.getElem_cons_succ, List.getElem_cons_zero, Act.put, List.setIfInBounds_toArray, List.set_cons_zero, List.set_cons_succ]
  refine wpAnyH_take (i := 16) (v := ?_) rfl (by kernel_rfl) (by kernel_rfl) (by kernel_rfl) (fun _ _ _ h => h) (Or.inl ⟨by rfl, ?_⟩) (by assumption) ?_
  rotate_left
  · intro W hW
    obtain ⟨x2, x3, x4, x5⟩ := hW.cells
    go_simp
    try rfl
  simp only [List.getElem_toArray, List.getElem_cons_succ, List.getElem_cons_zero, Act.put, List.setIfInBounds_toArray, List.set_cons_zero, List.set_cons_succ]
  refine wpAnyH_ready (rs := [4]) (by kernel_rfl) (by simp) ?_
  refine AllReadyH.cons rfl (fun K hK => ?_) AllReadyH.nil
  have x6 := kt.cell 6
  have x6 : w.drew.cell? ⟨g, 6, none⟩ = some (.slice B bs.length c) := x6
  go_simp
  clear x6
  refine hK.out _ _ ⟨_, _, _, kt⟩ (fun hHeld => ?_)
  clear hK K
  try simp only [List.getElem_toArray, List.getElem_cons_succ, List.getElem_cons_zero, Act.put, List.setIfInBounds_toArray, List.set_cons_zero, List.set_cons_succ]
  refine wpAnyH_ready (rs := [11]) (by kernel_rfl) (by simp) ?_
  refine AllReadyH.cons rfl (fun K hK => ?_) AllReadyH.nil
  go_simp
  refine (HP.out _ hr).mono ?_
  rintro e w2 ⟨C, f, rfl, hown, hb2⟩
  have kt := kt.under hb2
  have hb := hb0.trans (hb2.mono (Nat.le_refl _))
  have hr := Reads.of_own hown
  clear hb0 hb2 hown
  refine hK.out _ _ ⟨_, _, _, kt⟩ (fun hHeld => ?_)
  clear hK K
  try simp only [List.getElem_toArray, List.getElem_cons_succ, List.getElem_cons_zero, Act.put, List.setIfInBounds_toArray, List.set_cons_zero, List.set_cons_succ]
  refine wpAnyH_ready (rs := [17]) (by kernel_rfl) (by simp) ?_
  refine AllReadyH.cons rfl (fun K hK => ?_) AllReadyH.nil
  go_simp
  refine (HQ.out C f _ hr).mono ?_
  rintro e w3 ⟨C, f, rfl, hown, hb3⟩
  have kt := kt.under hb3
  have hown := own_low hown hb.size
  have hb := hb.trans (hb3.mono hb.size)
  clear hb3 hr
  refine hK.out _ _ ⟨_, _, _, kt⟩ (fun hHeld => ?_)
  clear hK K
  try simp only [List.getElem_toArray, List.getElem_cons_succ, List.getElem_cons_zero, Act.put, List.setIfInBounds_toArray, List.set_cons_zero, List.set_cons_succ]
  refine wpAnyH_take (i := 18) (v := ?_) rfl (by kernel_rfl) (by kernel_rfl) (by kernel_rfl) (fun _ _ _ h => h) (Or.inl ⟨by rfl, ?_⟩) (by assumption) ?_
  rotate_left
  · intro W hW
    go_simp
    try rfl
  simp only [List.getElem_toArray, List.getElem_cons_succ, List.getElem_cons_zero, Act.put, List.setIfInBounds_toArray, List.set_cons_zero, List.set_cons_succ]
  refine wpAnyH_take (i := 19) (v := ?_) rfl (by kernel_rfl) (by kernel_rfl) (by kernel_rfl) (fun _ _ _ h => h) (Or.inl ⟨by rfl, ?_⟩) (by assumption) ?_
  rotate_left
  · intro W hW
    go_simp
    try rfl
  simp only [List.getElem_toArray, List.getElem_cons_succ, List.getElem_cons_zero, Act.put, List.setIfInBounds_toArray, List.set_cons_zero, List.set_cons_succ]
  refine wpAnyH_ready (rs := [20]) (by kernel_rfl) (by simp) ?_
  refine AllReadyH.cons rfl (fun K hK => ?_) AllReadyH.nil
  have x6 := kt.cell 6
  have x6 : w3.cell? ⟨g, 6, none⟩ = some (.slice B bs.length c) := x6
  have y6 := kt.frozen 6
  have y7 := kt.lt
  go_simp
  refine hK.out _ _ ⟨_, _, _, kt.set_ 6 _⟩ (fun hHeld => ?_)
  clear hK K hHeld x6 y6 y7
  try simp only [List.getElem_toArray, List.getElem_cons_succ, List.getElem_cons_zero, Act.put, List.setIfInBounds_toArray, List.set_cons_zero, List.set_cons_succ]
  refine wpAnyH_done (by kernel_rfl) ?_ _
  have HF := hid (put_end (w1 := w) kt hg0 hb hown)
  clear kt hg0 hb hown
  go_wp2_with fail
  exact bodyPost_ret (results_none rfl _ _ _) rfl HF.out
end
end Go.Proofs.Ytedojdbihajnbaa
