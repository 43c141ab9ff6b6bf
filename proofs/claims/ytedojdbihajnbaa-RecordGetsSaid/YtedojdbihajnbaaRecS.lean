/- Contracts: record.Encode (seat Record). -/
import Derived.Test.YtedojdbihajnbaaRecR
import Derived.Lib.AppendStr
namespace Go.Proofs.Ytedojdbihajnbaa
open Go.RowKit Go.Shelf VB
open Go.Lib (hid)
set_option linter.unusedVariables false
set_option linter.unusedSimpArgs false
theorem wp_append_str {P : Program} {w : World} {o : Oper} {a : Act} {K : Act → World → Prop} {Q : Exit → Act → World → Prop} (sl x : Operand) (t u : TypeId)
    (ho : o.op = .call { callee := .builtin .append, args := #[sl, x], argTypes := #[t, u] })
    (base : Nat) (e : TypeId) (i : TypeInfo) (ht : P.underlying t = some (.slice e)) (hu : P.underlying u = some .string) (hi : P.info? e = some i) (hz : i.zero = some (.int .u8 0))
    (hsize : i.size = 1) (hby : i.bytes = 1)
    (v : Value) (n : Nat) (xs : List Value) (hs : a.eval sl = v) (hown : w.ownsRow base e 1 v n xs) (s : ByteArray) (hx : a.eval x = .string s)
    (h63 : n + s.size ≤ maxLen) (hbytes : n + s.size ≤ 140737488355328) (hbase : base ≤ w.heap.size)
    (h : ∀ v' w', w'.ownsRow base e 1 v' (n + s.size) (xs ++ Lib.strCells s) → w.grownBy w' v.ownBlock → K (a.put o.dst v') w') : o.wp P a w K Q := by
  obtain ⟨v', w', hr, h2, h3, h4⟩ := Lib.run_append_own_string (P := P) w base t u o.type e i ht hu hi hz hsize hby v n xs hown s h63 hbytes hbase
  unfold Oper.wp execOp
  simp only [ho, resolve, invoke, builtin, Sem.run_bind, Sem.run_pure, Result.andThen_ok, List.map_toArray, List.map_cons, List.map_nil, hs, hx, hr]
  exact h v' w' h2 h3
theorem byte_info : (Try.prog.info? 5).map (fun i => (i.zero, i.size, i.bytes)) = some (some (.int .u8 0), 1, 1) := by kernel_rfl
theorem strCells_nm (s : ByteArray) : Lib.strCells s = bsV (nmL s) := by
  unfold Lib.strCells bsV nmL
  rw [List.map_map]
  rfl
theorem nmL_len (s : ByteArray) : (nmL s).length = s.size := by unfold nmL; rw [List.length_map, Array.length_toList]; rfl
theorem own_two (w : World) (a b : Nat) : (w.alloc (.cells #[.int .u8 a, .int .u8 b] 5)).ownsRow w.heap.size 5 1 (.slice (some ⟨w.heap.size, 0, none⟩) 2 2) 2 (bsV [a, b]) :=
  ⟨rfl, .inr ⟨w.heap.size, 2, _, rfl, Nat.le_refl _, heap_alloc_new w _, Nat.le_refl _, by simp [maxLen], rfl, rfl⟩⟩
theorem nameB_len {s : ByteArray} (h : nameB s = true) : 1 ≤ s.size ∧ s.size ≤ 12 := by
  unfold nameB at h
  simp only [Bool.and_eq_true, decide_eq_true_eq] at h
  exact h.1
def RetEnc (m : Mu) (w : World) (e : Ending) (w' : World) : Prop :=
  if rightB m = true then ∃ C f, e = .returned (.tuple #[.slice C (mutB m).length f, .int .i64 0]) ∧ Below w.heap.size w w' ∧ w'.ownsRow w.heap.size 5 1 (.slice C (mutB m).length f) (mutB m).length (bsV (mutB m))
  else e = .returned (.tuple #[.slice none 0 0, .int .i64 280]) ∧ Below w.heap.size w w'
set_option maxRecDepth 100000 in
set_option maxHeartbeats 2000000 in
theorem Encode_c {e1 : TypeId} (m : Mu) (A : Option Addr) (c : Nat) (w : World) (hz : Reads w e1 2 A m.pts.length (m.pts.flatMap cellsP)) (hn : m.pts.length ≤ 100000000) :
    Calls Try.prog 17 #[vM m A c] w (RetEnc m w) := by
  have K0 := hid (Blk.new w 24 (aM m.kind m.name m.eps m.floor m.scale (.slice A m.pts.length c)))
  have HB0 := hid ((Below.refl w.heap.size w).alloc (Nat.le_refl _) (.cells (aM m.kind m.name m.eps m.floor m.scale (.slice A m.pts.length c)) 24))
  have HC := hid (Check_c m A c (w.alloc (.cells (aM m.kind m.name m.eps m.floor m.scale (.slice A m.pts.length c)) 24)) (hz.alloc _) hn)
  by_cases hr : rightB m = true
  case neg =>
    have HE := hid (show ∀ e w', (e = Ending.returned (.tuple #[.slice none 0 0, .int .i64 280]) ∧ Below w.heap.size w w') → RetEnc m w e w' from fun e w' h => by unfold RetEnc; rw [if_neg hr]; exact h)
    have HC2 := hid (HC.out.mono (R' := fun e w' => e = .returned (.int .i64 280) ∧ Below (w.heap.size + 1) (w.alloc (.cells (aM m.kind m.name m.eps m.floor m.scale (.slice A m.pts.length c)) 24)) w') (by
      rintro e w' ⟨rfl, hb⟩
      rw [if_neg hr]
      exact ⟨rfl, by simpa using hb⟩))
    clear HC hz hr
    go_enter Try.func17, Try.ntmps17
    go_wp2_with fail
    refine HC2.out.mono ?_
    rintro e w2 ⟨rfl, hb⟩
    go_wp2_with fail
    go_ret2
    exact HE.out _ _ ⟨rfl, HB0.out.trans (hb.mono (by omega))⟩
  have hR := right_of hr
  have hE : ∀ e w', (∃ C f, e = Ending.returned (.tuple #[.slice C (mutB m).length f, .int .i64 0]) ∧ Below w.heap.size w w' ∧ w'.ownsRow w.heap.size 5 1 (.slice C (mutB m).length f) (mutB m).length (bsV (mutB m))) → RetEnc m w e w' := fun e w' h => by unfold RetEnc; rw [if_pos hr]; exact h
  obtain ⟨ka, kb, hlk, hput, hent⟩ := put_any hR
  obtain ⟨i0, hi0, hz0, hz1, hz2⟩ := info_parts3 byte_info
  have hnm := nameB_len hR.name
  have HC2 := hid (HC.out.mono (R' := fun e w' => e = .returned (.int .i64 0) ∧ Below (w.heap.size + 1) (w.alloc (.cells (aM m.kind m.name m.eps m.floor m.scale (.slice A m.pts.length c)) 24)) w') (by
    rintro e w' ⟨rfl, hb⟩
    rw [if_pos hr]
    exact ⟨rfl, by simpa using hb⟩))
  obtain ⟨kd, hkd⟩ := Int.eq_ofNat_of_zero_le (show 0 ≤ m.kind by have := hR.k1; omega)
  have hw1 : IntKind.u8.wrap m.kind = (kd : Int) := by rw [IntKind.wrap_u8]; have := hR.k4; omega
  have hw2 : IntKind.u8.wrap (m.name.size : Int) = (m.name.size : Int) := by rw [IntKind.wrap_u8]; omega
  have HLEN := hid hnm
  have HE := hid hE
  have HLK := hid hlk
  have HPUT := hid hput
  have HI := hid (And.intro hi0 (And.intro hz0 (And.intro hz1 hz2)))
  have HZ := hid hz
  have HMB := hid (show mutB m = ([kd, m.name.size] ++ nmL m.name) ++ bodyB m by unfold mutB; rw [hkd]; rfl)
  have HBL := hid (show True from trivial)
  clear HC hz hr hR hE hlk hput hi0 hz0 hz1 hz2 hnm hkd hn
  obtain ⟨mk, mn, me, mf, ms, mp⟩ := m
  go_enter Try.func17, Try.ntmps17
  go_wp2_with fail
  refine HC2.out.mono ?_
  rintro e w2 ⟨rfl, hb⟩
  have k2 := K0.out.below hb (by omega)
  have hb2 := HB0.out.trans (hb.mono (by omega))
  clear hb K0 HB0 HC2
  go_upto_region 4 with fail
  have k2 := k2.drew
  have hb2 := below_dn hb2 1
  change Below w.heap.size w w2.drew at hb2
  refine wp_region_held_drew (S := fun W => Blk W w.heap.size 24 (aM mk mn me mf ms (.slice A mp.length c))) (by kernel_rfl) k2 (fun hHeld => ?_)
  generalize w2.drew = w3 at *
  refine wpAnyH_take (i := 0) (v := ?_) rfl (by kernel_rfl) (by kernel_rfl) (by kernel_rfl) (fun _ _ _ h => h) (Or.inl ⟨by rfl, ?_⟩) (by assumption) ?_
  rotate_left
  · intro W hW
    obtain ⟨x0, x1, x2, x3, x4, x5⟩ := hW.sixc
    go_simp
    try rfl
  simp only [List.getElem_toArray, List.getElem_cons_zero, Act.put, List.setIfInBounds_toArray, List.set_cons_zero, List.set_cons_succ]
  refine wpAnyH_take (i := 1) (v := ?_) rfl (by kernel_rfl) (by kernel_rfl) (by kernel_rfl) (fun _ _ _ h => h) (Or.inl ⟨by rfl, ?_⟩) (by assumption) ?_
  rotate_left
  · intro W hW
    go_simp
    try rfl
  simp only [List.getElem_toArray, List.getElem_cons_succ, List.getElem_cons_zero, Act.put, List.setIfInBounds_toArray, List.set_cons_zero, List.set_cons_succ]
  refine wpAnyH_take (i := 2) (v := ?_) rfl (by kernel_rfl) (by kernel_rfl) (by kernel_rfl) (fun _ _ _ h => h) (Or.inl ⟨by rfl, ?_⟩) (by assumption) ?_
  rotate_left
  · intro W hW
    obtain ⟨x0, x1, x2, x3, x4, x5⟩ := hW.sixc
    go_simp
    try rfl
  simp only [List.getElem_toArray, List.getElem_cons_succ, List.getElem_cons_zero, Act.put, List.setIfInBounds_toArray, List.set_cons_zero, List.set_cons_succ]
  refine wpAnyH_take (i := 3) (v := ?_) rfl (by kernel_rfl) (by kernel_rfl) (by kernel_rfl) (fun _ _ _ h => h) (Or.inl ⟨by rfl, ?_⟩) (by assumption) ?_
  rotate_left
  · intro W hW
    go_simp
    try rfl
  simp only [List.getElem_toArray, List.getElem_cons_succ, List.getElem_cons_zero, Act.put, List.setIfInBounds_toArray, List.set_cons_zero, List.set_cons_succ]
  refine wpAnyH_take (i := 4) (v := ?_) rfl (by kernel_rfl) (by kernel_rfl) (by kernel_rfl) (fun _ _ _ h => h) (Or.inl ⟨by rfl, ?_⟩) (by assumption) ?_
  rotate_left
  · intro W hW
    go_simp
    try rfl
  simp only [List.getElem_toArray, List.getElem_cons_succ, List.getElem_cons_zero, Act.put, List.setIfInBounds_toArray, List.set_cons_zero, List.set_cons_succ]
  refine wpAnyH_take (i := 5) (v := ?_) rfl (by kernel_rfl) (by kernel_rfl) (by kernel_rfl) (fun _ _ _ h => h) (Or.inl ⟨by rfl, ?_⟩) (by assumption) ?_
  rotate_left
  · intro W hW
    obtain ⟨x0, x1, x2, x3, x4, x5⟩ := hW.sixc
    go_simp
    try rfl
  simp only [List.getElem_toArray, List.getElem_cons_succ, List.getElem_cons_zero, Act.put, List.setIfInBounds_toArray, List.set_cons_zero, List.set_cons_succ]
  refine wpAnyH_take (i := 6) (v := ?_) rfl (by kernel_rfl) (by kernel_rfl) (by kernel_rfl) (fun _ _ _ h => h) (Or.inl ⟨by rfl, ?_⟩) (by assumption) ?_
  rotate_left
  · intro W hW
    go_simp
    try rfl
  simp only [List.getElem_toArray, List.getElem_cons_succ, List.getElem_cons_zero, Act.put, List.setIfInBounds_toArray, List.set_cons_zero, List.set_cons_succ]
  refine wpAnyH_take (i := 7) (v := ?_) rfl (by kernel_rfl) (by kernel_rfl) (by kernel_rfl) (fun _ _ _ h => h) (Or.inl ⟨by rfl, ?_⟩) (by assumption) ?_
  rotate_left
  · intro W hW
    go_simp
    try rfl
  simp only [List.getElem_toArray, List.getElem_cons_succ, List.getElem_cons_zero, Act.put, List.setIfInBounds_toArray, List.set_cons_zero, List.set_cons_succ]
  refine wpAnyH_take (i := 9) (v := ?_) rfl (by kernel_rfl) (by kernel_rfl) (by kernel_rfl) (fun _ _ _ h => h) (Or.inl ⟨by rfl, ?_⟩) (by assumption) ?_
  rotate_left
  · intro W hW
    go_simp
    try rfl
  simp only [List.getElem_toArray, List.getElem_cons_succ, List.getElem_cons_zero, Act.put, List.setIfInBounds_toArray, List.set_cons_zero, List.set_cons_succ]
  refine wpAnyH_take (i := 10) (v := ?_) rfl (by kernel_rfl) (by kernel_rfl) (by kernel_rfl) (fun _ _ _ h => h) (Or.inl ⟨by rfl, ?_⟩) (by assumption) ?_
  rotate_left
  · intro W hW
    obtain ⟨x0, x1, x2, x3, x4, x5⟩ := hW.sixc
    go_simp
    try rfl
  simp only [List.getElem_toArray, List.getElem_cons_succ, List.getElem_cons_zero, Act.put, List.setIfInBounds_toArray, List.set_cons_zero, List.set_cons_succ]
  refine wpAnyH_ready (rs := [8]) (by kernel_rfl) (by simp) ?_
  refine AllReadyH.cons rfl (fun K hK => ?_) AllReadyH.nil
  go_simp
  have hown := own_two w3 kd mn.size
  have k2 := k2.alloc (.cells #[.int .u8 (kd : Nat), .int .u8 (mn.size : Nat)] 5)
  have hb2 := hb2.alloc hb2.size (.cells #[.int .u8 (kd : Nat), .int .u8 (mn.size : Nat)] 5)
  have hgm : w.heap.size < w3.heap.size := by have := k2.lt; have := hb2.size; have h5 := hHeld.lt; omega
  clear hHeld
  generalize w3.alloc (.cells #[.int .u8 (kd : Nat), .int .u8 (mn.size : Nat)] 5) = w4 at *
  generalize w3.heap.size = gb at *
  refine hK.out _ _ k2 (fun hHeld => ?_)
  clear hK K
  try simp only [List.getElem_toArray, List.getElem_cons_succ, List.getElem_cons_zero, Act.put, List.setIfInBounds_toArray, List.set_cons_zero, List.set_cons_succ]
  refine wpAnyH_ready (rs := [11]) (by kernel_rfl) (by simp) ?_
  refine AllReadyH.cons rfl (fun K hK => ?_) AllReadyH.nil
  rw [if_pos (by rfl)]
  have hgb : gb ≤ w4.heap.size := by rcases hown.2 with ⟨h, _⟩ | ⟨q, _, _, h, _, hq, _⟩; cases h; have hq2 := (Array.getElem?_eq_some_iff.1 hq).1; injection h with h; injection h with h; injection h with h; omega
  refine wp_append_str (.tmp 19) (.tmp 21) 32 9 rfl gb 5 i0 Try.underlying32 Try.underlying9 HI.out.1 HI.out.2.1 HI.out.2.2.1 HI.out.2.2.2 _ 2 (bsV [kd, mn.size]) rfl hown mn rfl (by have := HLEN.out.2; simp only [maxLen]; omega) (by have := HLEN.out.2; omega) hgb ?_
  intro v' w5 hown' hg'
  obtain ⟨C0, f0, rfl, _, _⟩ := own_form hown'
  have hbl := (Below.refl gb _).grown hg' hgb (fun k hk => (hown.lt k hk).1)
  have k2 := k2.below hbl hgm
  have hb2 := hb2.trans (hbl.mono (by omega))
  have hl0 : ([kd, mn.size] ++ nmL mn).length = 2 + mn.size := by simp [nmL_len]; omega
  rw [strCells_nm, show bsV [kd, mn.size] ++ bsV (nmL mn) = bsV ([kd, mn.size] ++ nmL mn) by simp [bsV], ← hl0] at hown'
  rw [← hl0]
  have hlz : ([kd, mn.size] ++ nmL mn).length ≤ 14 := by have := HLEN.out.2; omega
  have hown := own_low hown' (show w.heap.size ≤ gb by omega)
  clear hg' hbl hown' hgb hl0 hgm
  generalize ([kd, mn.size] ++ nmL mn) = l0 at *
  refine hK.out _ _ k2 (fun hHeld => ?_)
  clear hK K
  try simp only [List.getElem_toArray, List.getElem_cons_succ, List.getElem_cons_zero, Act.put, List.setIfInBounds_toArray, List.set_cons_zero, List.set_cons_succ]
  refine wpAnyH_take (i := 12) (v := ?_) rfl (by kernel_rfl) (by kernel_rfl) (by kernel_rfl) (fun _ _ _ h => h) (Or.inl ⟨by rfl, ?_⟩) (by assumption) ?_
  rotate_left
  · intro W hW
    go_simp
    try rfl
  simp only [List.getElem_toArray, List.getElem_cons_succ, List.getElem_cons_zero, Act.put, List.setIfInBounds_toArray, List.set_cons_zero, List.set_cons_succ]
  refine wpAnyH_ready (rs := [13]) (by kernel_rfl) (by simp) ?_
  refine AllReadyH.cons rfl (fun K hK => ?_) AllReadyH.nil
  go_simp
  have kt := Blk.new w5 64 (tapeC mk mn me mf ms (.slice A mp.length c) C0 l0.length f0 0)
  have k2 := k2.alloc (.cells (tapeC mk mn me mf ms (.slice A mp.length c) C0 l0.length f0 0) 64)
  have hown := hown.alloc (.cells (tapeC mk mn me mf ms (.slice A mp.length c) C0 l0.length f0 0) 64)
  have hgt : w.heap.size ≤ w5.heap.size := hb2.size
  have hb2 := hb2.alloc hb2.size (.cells (tapeC mk mn me mf ms (.slice A mp.length c) C0 l0.length f0 0) 64)
  clear hHeld
  generalize w5.alloc (.cells (tapeC mk mn me mf ms (.slice A mp.length c) C0 l0.length f0 0) 64) = w6 at *
  generalize w5.heap.size = g at *
  refine hK.out _ _ k2 (fun hHeld => ?_)
  clear hK K
  try simp only [List.getElem_toArray, List.getElem_cons_succ, List.getElem_cons_zero, Act.put, List.setIfInBounds_toArray, List.set_cons_zero, List.set_cons_succ]
  refine wpAnyH_take (i := 14) (v := ?_) rfl (by kernel_rfl) (by kernel_rfl) (by kernel_rfl) (fun _ _ _ h => h) (Or.inl ⟨by rfl, ?_⟩) (by assumption) ?_
  rotate_left
  · intro W hW
    go_simp
    try rfl
  simp only [List.getElem_toArray, List.getElem_cons_succ, List.getElem_cons_zero, Act.put, List.setIfInBounds_toArray, List.set_cons_zero, List.set_cons_succ]
  refine wpAnyH_done (by kernel_rfl) ?_ _
  have hne : w.heap.size ≠ g := ne_typed k2.typed kt.typed (by decide)
  have hA : Hid (∀ ad, A = some ad → 0 < mp.length → ad.block ≠ g) := hid fun ad h1 h2 => by
    obtain ⟨ad', e', ht, _⟩ := HZ.out.2 h2
    have h3 : ad = ad' := by rw [h1] at e'; injection e'
    have := ht.lt
    rw [← h3] at this
    omega
  clear hHeld
  go_upto_region 5 with fail
  have k2 := k2.drew
  have kt := kt.drew
  have hown := own_drew hown
  have hb2 := below_dn hb2 1
  change Below w.heap.size w w6.drew at hb2
  refine wp_region_held_drew (S := fun W => Blk W w.heap.size 24 (aM mk mn me mf ms (.slice A mp.length c))) (by kernel_rfl) k2 (fun hHeld => ?_)
  generalize w6.drew = w7 at *
  refine wpAnyH_take (i := 1) (v := ?_) rfl (by kernel_rfl) (by kernel_rfl) (by kernel_rfl) (fun _ _ _ h => h) (Or.inl ⟨by rfl, ?_⟩) (by assumption) ?_
  rotate_left
  · intro W hW
    go_simp
    try rfl
  simp only [List.getElem_toArray, List.getElem_cons_succ, List.getElem_cons_zero, Act.put, List.setIfInBounds_toArray, List.set_cons_zero, List.set_cons_succ]
  refine wpAnyH_take (i := 2) (v := ?_) rfl (by kernel_rfl) (by kernel_rfl) (by kernel_rfl) (fun _ _ _ h => h) (Or.inl ⟨by rfl, ?_⟩) (by assumption) ?_
  rotate_left
  · intro W hW
    obtain ⟨x0, x1, x2, x3, x4, x5⟩ := hW.sixc
    go_simp
    try rfl
  simp only [List.getElem_toArray, List.getElem_cons_succ, List.getElem_cons_zero, Act.put, List.setIfInBounds_toArray, List.set_cons_zero, List.set_cons_succ]
  refine wpAnyH_take (i := 5) (v := ?_) rfl (by kernel_rfl) (by kernel_rfl) (by kernel_rfl) (fun _ _ _ h => h) (Or.inl ⟨by rfl, ?_⟩) (by assumption) ?_
  rotate_left
  · intro W hW
    go_simp
    try rfl
  simp only [List.getElem_toArray, List.getElem_cons_succ, List.getElem_cons_zero, Act.put, List.setIfInBounds_toArray, List.set_cons_zero, List.set_cons_succ]
  refine wpAnyH_ready (rs := [0]) (by kernel_rfl) (by simp) ?_
  refine AllReadyH.cons rfl (fun K hK => ?_) AllReadyH.nil
  go_simp
  refine (kinds_c _).mono ?_
  rintro e w8 ⟨rfl, hmap, hbk⟩
  have k2 := k2.under hbk
  have kt := kt.under hbk
  have hown := own_below hown hbk
  have hb2 := hb2.trans (hbk.mono hb2.size)
  clear hHeld hbk
  generalize w7.heap.size = gm at *
  refine hK.out _ _ k2 (fun hHeld => ?_)
  clear hK K
  try simp only [List.getElem_toArray, List.getElem_cons_succ, List.getElem_cons_zero, Act.put, List.setIfInBounds_toArray, List.set_cons_zero, List.set_cons_succ]
  refine wpAnyH_ready (rs := [3]) (by kernel_rfl) (by simp) ?_
  refine AllReadyH.cons rfl (fun K hK => ?_) AllReadyH.nil
  go_simp
  have hlk := HLK.out w8 gm hmap
  go_simp
  clear hlk hHeld
  refine hK.out _ _ k2 (fun hHeld => ?_)
  clear hK K
  try simp only [List.getElem_toArray, List.getElem_cons_succ, List.getElem_cons_zero, Act.put, List.setIfInBounds_toArray, List.set_cons_zero, List.set_cons_succ]
  refine wpAnyH_take (i := 4) (v := ?_) rfl (by kernel_rfl) (by kernel_rfl) (by kernel_rfl) (fun _ _ _ h => h) (Or.inl ⟨by rfl, ?_⟩) (by assumption) ?_
  rotate_left
  · intro W hW
    go_simp
    try rfl
  simp only [List.getElem_toArray, List.getElem_cons_succ, List.getElem_cons_zero, Act.put, List.setIfInBounds_toArray, List.set_cons_zero, List.set_cons_succ]
  refine wpAnyH_ready (rs := [6]) (by kernel_rfl) (by simp) ?_
  refine AllReadyH.cons rfl (fun K hK => ?_) AllReadyH.nil
  go_simp
  rw [hent]
  show Calls _ ka _ w8 _
  refine (HPUT.out w.heap.size w8 g A C0 c f0 e1 l0 kt hown hb2.size (HZ.out.below hb2) hA.out (by omega)).mono ?_
  rintro e w9 ⟨C, f, rfl, hbut, kt9, hown9⟩
  have k9 := k2.but hbut hne
  have hb9 := But.below hb2 hbut hgt hb2.size
  clear hHeld k2 kt hown hb2 hbut
  refine hK.out _ _ k9 (fun hHeld => ?_)
  clear hK K
  try simp only [List.getElem_toArray, List.getElem_cons_succ, List.getElem_cons_zero, Act.put, List.setIfInBounds_toArray, List.set_cons_zero, List.set_cons_succ]
  refine wpAnyH_done (by kernel_rfl) ?_ _
  rw [← HMB.out] at hown9 kt9
  have x6 := kt9.cell 6
  generalize mutB ⟨mk, mn, me, mf, ms, mp⟩ = l9 at *
  have x6 : w9.cell? ⟨g, 6, none⟩ = some (.slice C l9.length f) := x6
  have HF := hid (HE.out _ _ ⟨C, f, rfl, hb9, hown9⟩)
  clear kt9 hown9 hb9 k9 hHeld hmap
  go_wp2_with fail
  go_ret2
  exact HF.out
end Go.Proofs.Ytedojdbihajnbaa
