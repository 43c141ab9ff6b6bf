/- Contracts: record.Row (seat Record). -/
import Derived.Test.YtedojdbihajnbaaRecS
namespace Go.Proofs.Ytedojdbihajnbaa
open Go.RowKit Go.Shelf VB
open Go.Lib (hid)
set_option linter.unusedVariables false
set_option linter.unusedSimpArgs false
abbrev zMuA : MuA := (zMut, none, 0)
theorem cellsM_at : ∀ (l : List MuA) (i : Nat), i < l.length → ∀ j, j < 6 → (l.flatMap cellsM)[i * 6 + j]? = (cellsM (l.getD i zMuA))[j]?
  | [], i, h, _, _ => by simp at h
  | x :: l, 0, _, j, hj => by
    rw [List.flatMap_cons, List.getElem?_append_left (by simp only [cellsM, List.length_cons, List.length_nil]; omega)]
    simp
  | x :: l, i + 1, h, j, hj => by
    have ih := cellsM_at l i (by simpa using h) j hj
    rw [List.flatMap_cons]
    have e1 : (i + 1) * 6 + j = (cellsM x).length + (i * 6 + j) := by simp only [cellsM, List.length_cons, List.length_nil]; omega
    rw [e1, List.getElem?_append_right (by omega), Nat.add_sub_cancel_left, ih]
    simp
theorem mu_at {w : World} {e : TypeId} {A : Option Addr} {n : Nat} {l : List MuA} (h : Reads w e 6 A n (l.flatMap cellsM)) {i : Nat} (hi : i < n) {k : Int} {nm : ByteArray} {ep fl sc : Int} {pv : Value} (hq : cellsM (l.getD i zMuA) = [.int .i64 k, .string nm, .int .i64 ep, .int .i64 fl, .int .i64 sc, pv]) :
    ∃ ad, A = some ad ∧ w.cell? (ad.add (i * 6)) = some (.int .i64 k) ∧ w.cell? ⟨(ad.add (i * 6)).block, (ad.add (i * 6)).off + 1, none⟩ = some (.string nm) ∧ w.cell? ⟨(ad.add (i * 6)).block, (ad.add (i * 6)).off + 2, none⟩ = some (.int .i64 ep) ∧
      w.cell? ⟨(ad.add (i * 6)).block, (ad.add (i * 6)).off + 3, none⟩ = some (.int .i64 fl) ∧ w.cell? ⟨(ad.add (i * 6)).block, (ad.add (i * 6)).off + 4, none⟩ = some (.int .i64 sc) ∧ w.cell? ⟨(ad.add (i * 6)).block, (ad.add (i * 6)).off + 5, none⟩ = some pv := by
  have hl : l.length = n := by have := h.1; rw [cellsM_len] at this; omega
  obtain ⟨ad, e1, _, hc⟩ := h.2 (by omega)
  have hx := fun j hj => cellsM_at l i (by omega) j hj
  rw [hq] at hx
  have g : ∀ j (v : Value), (([.int .i64 k, .string nm, .int .i64 ep, .int .i64 fl, .int .i64 sc, pv] : List Value)[j]? = some v) → j < 6 → w.cell? ((ad.add (i * 6)).add j) = some v := fun j v hv hj => by
    rw [add_of_add]; exact hc _ _ ((hx j hj).trans hv)
  exact ⟨ad, e1, g 0 _ rfl (by omega), g 1 _ rfl (by omega), g 2 _ rfl (by omega), g 3 _ rfl (by omega), g 4 _ rfl (by omega), g 5 _ rfl (by omega)⟩
theorem ptBy_len {l : List (Int × Int)} (h : ∀ i, i < l.length → ptB (l.getD i (0, 0)) = true) {i : Nat} (hi : i < l.length) : (ptBy l i).length ≤ 20 := by
  have hb := fun i hi => pt_bounds (T := (l.getD i (0, 0)).1) (V := (l.getD i (0, 0)).2) (h i hi)
  unfold ptBy
  split
  · next h0 =>
    obtain ⟨a, b, c, d⟩ := hb 0 (by omega)
    rw [List.length_append]
    have := vb_len10 (n := (l.getD 0 (0, 0)).1.toNat) (by omega)
    have := vb_len10 (fold64_lt (n := (l.getD 0 (0, 0)).2) (by omega) (by omega))
    omega
  · obtain ⟨a, b, c, d⟩ := hb i hi
    obtain ⟨a', b', c', d'⟩ := hb (i - 1) (by omega)
    rw [List.length_append]
    have := vb_len10 (fold64_lt (n := (l.getD i (0, 0)).1 - (l.getD (i - 1) (0, 0)).1) (by omega) (by omega))
    have := vb_len10 (fold64_lt (n := (l.getD i (0, 0)).2 - (l.getD (i - 1) (0, 0)).2) (by omega) (by omega))
    omega
theorem ptsBy_len {l : List (Int × Int)} (h : ∀ i, i < l.length → ptB (l.getD i (0, 0)) = true) : ∀ n, n ≤ l.length → (ptsBy l n).length ≤ 20 * n
  | 0, _ => by simp [ptsBy]
  | n + 1, hn => by
    rw [ptsBy_succ, List.length_append]
    have := ptsBy_len h n (by omega)
    have := ptBy_len h (i := n) (by omega)
    omega
theorem all_at {l : List (Int × Int)} (h : l.all ptB = true) : ∀ i, i < l.length → ptB (l.getD i (0, 0)) = true := fun i hi => by
  rw [List.all_eq_true] at h
  exact h _ (by rw [List.getD_eq_getElem?_getD, List.getElem?_eq_getElem hi]; exact List.getElem_mem _)
theorem mutB_len {m : Mu} (h : Right m) : (mutB m).length ≤ 400 := by
  have hn := nameB_len h.name
  have h1 : ([m.kind.toNat, m.name.size] ++ nmL m.name).length ≤ 14 := by rw [List.length_append, nmL_len]; simp; omega
  have h2 : (bodyB m).length ≤ 360 := by
    unfold bodyB
    split
    · rw [List.length_append]
      have := vb_len10 (n := m.eps.toNat) (by have := h.e1; omega)
      have := vb_len10 (fold64_lt (n := m.scale) (by have := h.s0; omega) (by have := h.s1; omega))
      omega
    · split
      · simp
      · split
        · rw [List.length_append]
          have := h.len16
          have := vb_len10 (n := m.pts.length) (by omega)
          have := ptsBy_len (all_at h.pts) _ (Nat.le_refl _)
          omega
        · have := vb_len10 (n := m.floor.toNat) (by have := h.f1; omega)
          omega
  unfold mutB
  rw [List.length_append]
  omega
/-- a row's bytes -/
def rowMB (ms : List MuA) : List Nat := vb ms.length ++ ms.flatMap fun q => mutB q.1
def RetRow (ms : List MuA) (w : World) (e : Ending) (w' : World) : Prop :=
  (∃ i, i < ms.length ∧ (∀ j, j < i → rightB (ms.getD j zMuA).1 = true) ∧ rightB (ms.getD i zMuA).1 = false ∧ e = .returned (.tuple #[.slice none 0 0, .int .i64 (i : Nat), .int .i64 280]) ∧ Below w.heap.size w w') ∨
  ((∀ j, j < ms.length → rightB (ms.getD j zMuA).1 = true) ∧ ∃ C f, e = .returned (.tuple #[.slice C (rowMB ms).length f, .int .i64 0, .int .i64 0]) ∧ Below w.heap.size w w' ∧ w'.ownsRow w.heap.size 5 1 (.slice C (rowMB ms).length f) (rowMB ms).length (bsV (rowMB ms)))
def PtsIn (w : World) (ms : List MuA) : Prop := ∀ i, i < ms.length → ∃ e, Reads w e 2 (ms.getD i zMuA).2.1 (ms.getD i zMuA).1.pts.length ((ms.getD i zMuA).1.pts.flatMap cellsP) ∧ (ms.getD i zMuA).1.pts.length ≤ 100000000
set_option maxRecDepth 100000 in
set_option maxHeartbeats 2000000 in
theorem Row_c {e1 : TypeId} (ms : List MuA) (A : Option Addr) (n c : Nat) (w : World) (hz : Reads w e1 6 A n (ms.flatMap cellsM)) (hp : PtsIn w ms) (hn : n ≤ 10000) :
    Calls Try.prog 21 #[.slice A n c] w (RetRow ms w) := by
  have hl : ms.length = n := by have := hz.1; rw [cellsM_len] at this; omega
  have hw : IntKind.u64.wrap (n : Int) = (n : Int) := by rw [IntKind.wrap_u64]; omega
  have HP := hid (PutU_c none 0 0 [] n w Reads.none_ (by omega) (by omega))
  obtain ⟨i0, hi0, hz0, hz1, hz2⟩ := info_parts3 byte_info
  have HI := hid (And.intro hi0 (And.intro hz0 (And.intro hz1 hz2)))
  have HZ := hid hz
  have HPT := hid hp
  have HL := hid hl
  have hvl := vb_len10 (n := n) (by omega)
  obtain ⟨l0, hl0⟩ : ∃ l0, l0 = [] ++ vb n := ⟨_, rfl⟩
  rw [← hl0] at HP
  have HL0 := hid (show l0 = vb n ∧ l0.length ≤ 10 by rw [hl0]; exact ⟨rfl, hvl⟩)
  clear hz hp hl hi0 hz0 hz1 hz2 hvl hl0
  go_enter Try.func21, Try.ntmps21
  go_wp2_with fail
  refine HP.out.mono ?_
  rintro e w2 ⟨C0, f0, rfl, hown, hb2⟩
  have HOW := hid hown
  have HB2 := hid hb2
  clear hown hb2 HP
  go_wp2_with fail
  go_loopw [5, 16] (fun u5 u16 wr => ∃ (i : Nat) (acc : List Nat) (C : Option Addr) (f : Nat), i ≤ n ∧ u16 = .int .i64 (i : Nat) ∧ u5 = .slice C acc.length f ∧ Hid (acc = vb n ++ ((ms.take i).flatMap fun q => mutB q.1) ∧ acc.length ≤ 10 + 400 * i ∧ ∀ j, j < i → rightB (ms.getD j zMuA).1 = true) ∧ wr.ownsRow w.heap.size 5 1 (.slice C acc.length f) acc.length (bsV acc) ∧ Below w.heap.size w wr) (fun _ u16 _ => n - (intOf u16).toNat)
  case atStart => exact ⟨0, l0, C0, f0, Nat.zero_le _, rfl, rfl, hid ⟨by simp [HL0.out.1], by have := HL0.out.2; omega, fun j hj => absurd hj (by omega)⟩, HOW.out, HB2.out⟩
  case round =>
    obtain ⟨i, acc, C, f, hi, rfl, rfl, hacc, hown, hb⟩ := hrel
    by_cases hlt : i < n
    · obtain ⟨q, hq⟩ : ∃ q, q = ms.getD i zMuA := ⟨_, rfl⟩
      obtain ⟨ep1, hr1, hr2⟩ := HPT.out i (by have := HL.out; omega)
      rw [← hq] at hr1 hr2
      obtain ⟨m, B, cB⟩ := q
      obtain ⟨ad, rfl, c0, c1, c2, c3, c4, c5⟩ := mu_at (HZ.out.below hb) hlt (k := m.kind) (nm := m.name) (ep := m.eps) (fl := m.floor) (sc := m.scale) (pv := .slice B m.pts.length cB) (by rw [← hq]; rfl)
      have HENC := hid (fun w' (h : Below w.heap.size w w') => Encode_c m B cB w' (hr1.below h) hr2)
      have HQ := hid hq
      have HOWN := hid hown
      have HB := hid hb
      have HLT := hid hlt
      clear hr1 hr2 hq hown hb
      go_wp2_with fail
      have HBA := hid (HB.out.alloc HB.out.size (.cells (aM m.kind m.name m.eps m.floor m.scale (.slice B m.pts.length cB)) 24))
      have HOA := hid (HOWN.out.alloc (.cells (aM m.kind m.name m.eps m.floor m.scale (.slice B m.pts.length cB)) 24))
      refine (HENC.out _ HBA.out).mono ?_
      intro e w4 hE
      unfold RetEnc at hE
      by_cases hr : rightB m = true
      · rw [if_pos hr] at hE
        obtain ⟨C2, f2, rfl, hb4, hown4⟩ := hE
        have hown5 := own_below HOA.out hb4
        have hb5 := HBA.out.trans (hb4.mono HBA.out.size)
        have hml := mutB_len (right_of hr)
        have hal := hacc.out.2.1
        have hilt := HLT.out
        have HACC := hid (show acc ++ mutB m = vb n ++ ((ms.take (i + 1)).flatMap fun q => mutB q.1) ∧ (acc ++ mutB m).length ≤ 10 + 400 * (i + 1) ∧ ∀ j, j < i + 1 → rightB (ms.getD j zMuA).1 = true by
          refine ⟨?_, by rw [List.length_append]; omega, fun j hj => ?_⟩
          · have hi' : i < ms.length := by have := HL.out; omega
            rw [List.take_succ_eq_append_getElem hi', List.flatMap_append, hacc.out.1, List.append_assoc]
            have : ms[i] = (m, B, cB) := by have h := HQ.out; rw [List.getD_eq_getElem?_getD, List.getElem?_eq_getElem hi'] at h; exact h.symm
            rw [this]; simp
          · by_cases hj2 : j < i
            · exact hacc.out.2.2 j hj2
            · obtain rfl : j = i := by omega
              rw [← HQ.out]; exact hr)
        clear hr hacc
        go_wp2_with (at_builtin; refine wpList_append_any _ rfl (.tmp 30) (.tmp 31) 32 rfl w.heap.size 5 i0 (.int .u8 0) 1 1 Try.underlying32 HI.out.1 HI.out.2.1 HI.out.2.2.1 HI.out.2.2.2 rfl (by decide) (.slice C acc.length f) acc.length (bsV acc) rfl hown5 C2 (mutB m).length f2 (bsV (mutB m)) rfl (Reads.of_own hown4) (bsV_one _) (by simp only [maxLen]; omega) (by omega) hb5.size ?_; intro v' w' hown' hg' hv')
        obtain ⟨C3, f3, rfl, _, _⟩ := own_form hown'
        have hb6 := hb5.grown hg' hb5.size (fun k hk => (hown5.lt k hk).1)
        rw [← bsV_app, ← List.length_append] at hown'
        clear hown5 hb5 hown4 hb4 hg' hv'
        rw [← List.length_append]
        go_wp2_with fail
        go_roundw
        case rel => exact ⟨i + 1, acc ++ mutB m, C3, f3, by omega, by go_num, rfl, HACC, hown', hb6⟩
        case measure => simp [intOf]; omega
      · rw [if_neg hr] at hE
        obtain ⟨rfl, hb4⟩ := hE
        have HF := hid (show RetRow ms w (.returned (.tuple #[.slice none 0 0, .int .i64 (i : Nat), .int .i64 280])) w4 from
          .inl ⟨i, by have := HL.out; have := HLT.out; omega, hacc.out.2.2, by rw [← HQ.out]; simpa using hr, rfl, HBA.out.trans (hb4.mono HBA.out.size)⟩)
        clear hr hb4 hacc
        go_wp2_with fail
        go_ret3
        exact HF.out
    · obtain rfl : i = n := by omega
      have HF := hid (show RetRow ms w (.returned (.tuple #[.slice C acc.length f, .int .i64 0, .int .i64 0])) wr by
        have e : acc = rowMB ms := by rw [hacc.out.1]; unfold rowMB; rw [HL.out, List.take_of_length_le (by rw [HL.out]; exact Nat.le_refl _)]
        rw [e] at hown ⊢
        exact .inr ⟨fun j hj => hacc.out.2.2 j (by rw [← HL.out]; exact hj), C, f, rfl, hb, hown⟩)
      clear hlt hown hb hacc
      go_wp2_with fail
      go_ret3
      exact HF.out
end Go.Proofs.Ytedojdbihajnbaa
