/- Contracts: record.putPoints (seat Record). -/
import Derived.Test.YtedojdbihajnbaaRecP
namespace Go.Proofs.Ytedojdbihajnbaa
open Go.RowKit Go.Shelf VB
open Go.Lib (hid)
set_option linter.unusedVariables false
set_option linter.unusedSimpArgs false
/-- a point's bytes -/
def ptBy (l : List (Int × Int)) (i : Nat) : List Nat :=
  if i = 0 then vb (l.getD 0 (0, 0)).1.toNat ++ vb (fold64 (l.getD 0 (0, 0)).2) else vb (fold64 ((l.getD i (0, 0)).1 - (l.getD (i - 1) (0, 0)).1)) ++ vb (fold64 ((l.getD i (0, 0)).2 - (l.getD (i - 1) (0, 0)).2))
def ptsBy (l : List (Int × Int)) (n : Nat) : List Nat := (List.range n).flatMap (ptBy l)
theorem ptsBy_succ (l : List (Int × Int)) (n : Nat) : ptsBy l (n + 1) = ptsBy l n ++ ptBy l n := by
  unfold ptsBy; rw [List.range_succ, List.flatMap_append]; simp
theorem Reads.butne {w w' : World} {g : Nat} {e : TypeId} {size n : Nat} {A : Option Addr} {xs : List Value} (h : Reads w e size A n xs) (k : But g w w') (hne : ∀ ad, A = some ad → ad.block ≠ g) : Reads w' e size A n xs :=
  ⟨h.1, fun hn => by
    obtain ⟨ad, e1, ht, hc⟩ := h.2 hn
    have hb := k.block _ ht.lt (hne _ e1)
    refine ⟨ad, e1, by unfold Typed; rw [hb]; exact ht, fun j u hu => (World.cell?_of_block (w := w) ?_).trans (hc j u hu)⟩
    rw [block_of_add]; exact hb⟩
theorem pt_bounds {T V : Int} (h : ptB (T, V) = true) : 0 ≤ T ∧ T ≤ 281474976710656 ∧ -2305843009213693952 ≤ V ∧ V ≤ 2305843009213693952 := by
  unfold ptB timeB valB at h
  simp at h
  omega
section
variable {w : World} {g : Nat} {k : Int} {nm : ByteArray} {ep fl sc : Int} {B A : Option Addr} {c f0 : Nat} {bs : List Nat} {z : Int} {l : List (Int × Int)}
set_option maxRecDepth 100000 in
set_option maxHeartbeats 2000000 in
theorem putPoints_c {e1 : TypeId} (kt : Blk w g 64 (tapeC k nm ep fl sc (.slice A l.length f0) B bs.length c z)) (hr : Reads w 5 1 B bs.length (bsV bs)) (hn : bs.length ≤ 900000)
    (hp : Reads w e1 2 A l.length (l.flatMap cellsP)) (hA : ∀ ad, A = some ad → ad.block ≠ g) (hl : l.length ≤ 1000) (hall : l.all ptB = true) :
    Calls Try.prog 59 #[.pointer (some ⟨g, 0, none⟩)] w (RetPut ((bs ++ vb l.length) ++ ptsBy l l.length) k nm ep fl sc (.slice A l.length f0) g z w) := by
  obtain ⟨n, hnl⟩ : ∃ n, n = l.length := ⟨_, rfl⟩
  rw [← hnl] at hp hl kt ⊢
  have hw : IntKind.u64.wrap (n : Int) = (n : Int) := by rw [IntKind.wrap_u64]; omega
  have HP := hid (fun w (h : Reads w 5 1 B bs.length (bsV bs)) => PutU_c B bs.length c bs n w h (by omega) (by omega))
  obtain ⟨l0, hl0⟩ : ∃ l0, l0 = bs ++ vb n := ⟨_, rfl⟩
  rw [← hl0] at HP ⊢
  have HL0 := hid (show l0.length ≤ 900010 by have := putsz hl0 (by omega); omega)
  have HK := hid kt
  have HR := hid hr
  have HPT := hid hp
  have HA := hid hA
  have HALL := hid (show ∀ i, i < n → ptB (l.getD i (0, 0)) = true from fun i hi => by
    rw [List.all_eq_true] at hall
    exact hall _ (by rw [List.getD_eq_getElem?_getD, List.getElem?_eq_getElem (by omega)]; exact List.getElem_mem _))
  have HNL := hid hnl
  clear kt hr hn hl0 hp hA hall hnl
  go_enter Try.func59, Try.ntmps59
  go_upto_region 0 with fail
  refine wp_region_held_drew (S := (fun W => TapeX W g k nm ep fl sc (.slice A n f0) z)) (by kernel_rfl) ⟨_, _, _, HK.out.drew⟩ (fun hHeld => ?_)
  have kt := HK.out.drew
  have hr := HR.out.drew
  have hg0 := kt.lt
  have hb0 := below_dn (Below.refl w.heap.size w) 1
  change Below w.heap.size w w.drew at hb0
  change g < w.heap.size at hg0
  refine wpAnyH_take (i := 0) (v := ?_) rfl (by kernel_rfl) (by kernel_rfl) (by kernel_rfl) (fun _ _ _ h => h) (Or.inl ⟨by rfl, ?_⟩) (by assumption) ?_
  rotate_left
  · intro W hW
    go_simp
    try rfl
  simp only [List.getElem_toArray, List.getElem_cons_zero, Act.put, List.setIfInBounds_toArray, List.set_cons_zero, List.set_cons_succ]
  refine wpAnyH_take (i := 1) (v := ?_) rfl (by kernel_rfl) (by kernel_rfl) (by kernel_rfl) (fun _ _ _ h => h) (Or.inl ⟨by rfl, ?_⟩) (by assumption) ?_
  rotate_left
  · intro W hW
    go_simp
    try rfl
  simp only [List.getElem_toArray, List.getElem_cons_succ, List.getElem_cons_zero, Act.put, List.setIfInBounds_toArray, List.set_cons_zero, List.set_cons_succ]
  refine wpAnyH_take (i := 2) (v := ?_) rfl (by kernel_rfl) (by kernel_rfl) (by kernel_rfl) (fun _ _ _ h => h) (Or.inl ⟨by rfl, ?_⟩) (by assumption) ?_
  rotate_left
  · intro W hW
    go_simp
    try rfl
  simp only [List.getElem_toArray, List.getElem_cons_succ, List.getElem_cons_zero, Act.put, List.setIfInBounds_toArray, List.set_cons_zero, List.set_cons_succ]
  refine wpAnyH_take (i := 3) (v := ?_) rfl (by kernel_rfl) (by kernel_rfl) (by kernel_rfl) (fun _ _ _ h => h) (Or.inl ⟨by rfl, ?_⟩) (by assumption) ?_
  rotate_left
  · intro W hW
    go_simp
    try rfl
  simp only [List.getElem_toArray, List.getElem_cons_succ, List.getElem_cons_zero, Act.put, List.setIfInBounds_toArray, List.set_cons_zero, List.set_cons_succ]
  refine wpAnyH_take (i := 5) (v := ?_) rfl (by kernel_rfl) (by kernel_rfl) (by kernel_rfl) (fun _ _ _ h => h) (Or.inl ⟨by rfl, ?_⟩) (by assumption) ?_
  rotate_left
  · intro W hW
    go_simp
    try rfl
  simp only [List.getElem_toArray, List.getElem_cons_succ, List.getElem_cons_zero, Act.put, List.setIfInBounds_toArray, List.set_cons_zero, List.set_cons_succ]
  refine wpAnyH_take (i := 6) (v := ?_) rfl (by kernel_rfl) (by kernel_rfl) (by kernel_rfl) (fun _ _ _ h => h) (Or.inl ⟨by rfl, ?_⟩) (by assumption) ?_
  rotate_left
  · intro W hW
    go_simp
    try rfl
  simp only [List.getElem_toArray, List.getElem_cons_succ, List.getElem_cons_zero, Act.put, List.setIfInBounds_toArray, List.set_cons_zero, List.set_cons_succ]
  refine wpAnyH_take (i := 7) (v := ?_) rfl (by kernel_rfl) (by kernel_rfl) (by kernel_rfl) (fun _ _ _ h => h) (Or.inl ⟨by rfl, ?_⟩) (by assumption) ?_
  rotate_left
  · intro W hW
    go_simp
    try rfl
  simp only [List.getElem_toArray, List.getElem_cons_succ, List.getElem_cons_zero, Act.put, List.setIfInBounds_toArray, List.set_cons_zero, List.set_cons_succ]
  refine wpAnyH_take (i := 8) (v := ?_) rfl (by kernel_rfl) (by kernel_rfl) (by kernel_rfl) (fun _ _ _ h => h) (Or.inl ⟨by rfl, ?_⟩) (by assumption) ?_
  rotate_left
  · intro W hW
    go_simp
    try rfl
  simp only [List.getElem_toArray, List.getElem_cons_succ, List.getElem_cons_zero, Act.put, List.setIfInBounds_toArray, List.set_cons_zero, List.set_cons_succ]
  refine wpAnyH_take (i := 9) (v := ?_) rfl (by kernel_rfl) (by kernel_rfl) (by kernel_rfl) (fun _ _ _ h => h) (Or.inl ⟨by rfl, ?_⟩) (by assumption) ?_
  rotate_left
  · intro W hW
    obtain ⟨x2, x3, x4, x5⟩ := hW.cells
    go_simp
    try rfl
  simp only [List.getElem_toArray, List.getElem_cons_succ, List.getElem_cons_zero, Act.put, List.setIfInBounds_toArray, List.set_cons_zero, List.set_cons_succ]
  refine wpAnyH_take (i := 10) (v := ?_) rfl (by kernel_rfl) (by kernel_rfl) (by kernel_rfl) (fun _ _ _ h => h) (Or.inl ⟨by rfl, ?_⟩) (by assumption) ?_
  rotate_left
  · intro W hW
    go_simp
    try rfl
  simp only [List.getElem_toArray, List.getElem_cons_succ, List.getElem_cons_zero, Act.put, List.setIfInBounds_toArray, List.set_cons_zero, List.set_cons_succ]
  refine wpAnyH_take (i := 11) (v := ?_) rfl (by kernel_rfl) (by kernel_rfl) (by kernel_rfl) (fun _ _ _ h => h) (Or.inl ⟨by rfl, ?_⟩) (by assumption) ?_
  rotate_left
  · intro W hW
    go_simp
    try rfl
  simp only [List.getElem_toArray, List.getElem_cons_succ, List.getElem_cons_zero, Act.put, List.setIfInBounds_toArray, List.set_cons_zero, List.set_cons_succ]
  refine wpAnyH_ready (rs := [4]) (by kernel_rfl) (by simp) ?_
  refine AllReadyH.cons rfl (fun K hK => ?_) AllReadyH.nil
  have x6 := kt.cell 6
  have x6 : w.drew.cell? ⟨g, 6, none⟩ = some (.slice B bs.length c) := x6
  go_simp
  clear x6
  refine hK.out _ _ ⟨_, _, _, kt⟩ (fun hHeld => ?_)
  clear hK K
  try simp only [List.getElem_toArray, List.getElem_cons_succ, List.getElem_cons_zero, Act.put, List.setIfInBounds_toArray, List.set_cons_zero, List.set_cons_succ]
  refine wpAnyH_ready (rs := [12]) (by kernel_rfl) (by simp) ?_
  refine AllReadyH.cons rfl (fun K hK => ?_) AllReadyH.nil
  go_simp
  refine (HP.out _ hr).mono ?_
  rintro e w2 ⟨C0, f1, rfl, hown, hb2⟩
  have kt := kt.under hb2
  have hb := hb0.trans (hb2.mono (Nat.le_refl _))
  clear hb0 hb2 hr
  refine hK.out _ _ ⟨_, _, _, kt⟩ (fun hHeld => ?_)
  clear hK K
  try simp only [List.getElem_toArray, List.getElem_cons_succ, List.getElem_cons_zero, Act.put, List.setIfInBounds_toArray, List.set_cons_zero, List.set_cons_succ]
  refine wpAnyH_take (i := 13) (v := ?_) rfl (by kernel_rfl) (by kernel_rfl) (by kernel_rfl) (fun _ _ _ h => h) (Or.inl ⟨by rfl, ?_⟩) (by assumption) ?_
  rotate_left
  · intro W hW
    go_simp
    try rfl
  simp only [List.getElem_toArray, List.getElem_cons_succ, List.getElem_cons_zero, Act.put, List.setIfInBounds_toArray, List.set_cons_zero, List.set_cons_succ]
  refine wpAnyH_take (i := 14) (v := ?_) rfl (by kernel_rfl) (by kernel_rfl) (by kernel_rfl) (fun _ _ _ h => h) (Or.inl ⟨by rfl, ?_⟩) (by assumption) ?_
  rotate_left
  · intro W hW
    go_simp
    try rfl
  simp only [List.getElem_toArray, List.getElem_cons_succ, List.getElem_cons_zero, Act.put, List.setIfInBounds_toArray, List.set_cons_zero, List.set_cons_succ]
  refine wpAnyH_ready (rs := [15]) (by kernel_rfl) (by simp) ?_
  refine AllReadyH.cons rfl (fun K hK => ?_) AllReadyH.nil
  have x6 := kt.cell 6
  have x6 : w2.cell? ⟨g, 6, none⟩ = some (.slice B bs.length c) := x6
  have y6 := kt.frozen 6
  have y7 := kt.lt
  go_simp
  refine hK.out _ _ ⟨_, _, _, kt.set_ 6 _⟩ (fun hHeld => ?_)
  clear hK K hHeld x6 y6 y7
  try simp only [List.getElem_toArray, List.getElem_cons_succ, List.getElem_cons_zero, Act.put, List.setIfInBounds_toArray, List.set_cons_zero, List.set_cons_succ]
  refine wpAnyH_done (by kernel_rfl) ?_ _
  have kt3 : Blk (w2.setCell ⟨g, 6, none⟩ (.slice C0 l0.length f1)) g 64 (tapeC k nm ep fl sc (.slice A n f0) C0 l0.length f1 z) := kt.set_ 6 _
  have hown3 := own_far (a := ⟨g, 6, none⟩) hown hg0 (.slice C0 l0.length f1)
  have hb3 := (But.of_below (g := g) hb).setg 6 (.slice C0 l0.length f1)
  clear kt hown hb HK HR HP
  generalize w2.setCell ⟨g, 6, none⟩ (.slice C0 l0.length f1) = w3 at *
  have HKT3 := hid kt3
  have x5 := kt3.cell 5
  have x5 : w3.cell? ⟨g, 5, none⟩ = some (.slice A n f0) := x5
  clear kt3
  go_wp2_with fail
  clear x5
  go_loopw [26] (fun u26 wr => ∃ (i : Nat) (acc : List Nat) (C : Option Addr) (f : Nat), i ≤ n ∧ u26 = .int .i64 (i : Nat) ∧ Hid (acc = l0 ++ ptsBy l i ∧ acc.length ≤ 900010 + 20 * i) ∧ Blk wr g 64 (tapeC k nm ep fl sc (.slice A n f0) C acc.length f z) ∧ wr.ownsRow w.heap.size 5 1 (.slice C acc.length f) acc.length (bsV acc) ∧ But g w wr) (fun u26 _ => n - (intOf u26).toNat)
  case atStart => exact ⟨0, l0, C0, f1, Nat.zero_le _, rfl, hid ⟨by simp [ptsBy], by have := HL0.out; omega⟩, HKT3.out, hown3, hb3⟩
  case round =>
    obtain ⟨i, acc, C, f, hi, rfl, hacc, kt, hown, hb⟩ := hrel
    by_cases hlt : i < n
    · have hpw := HPT.out.butne hb HA.out
      obtain ⟨ad, rfl, c0, c1⟩ := pts_at hpw hlt
      have c2 : wr.cell? ⟨(ad.add (i * 2)).block, (ad.add (i * 2)).off + 1, none⟩ = _ := c1
      have hpt := HALL.out i hlt
      obtain ⟨T, V, hTV⟩ : ∃ T V, l.getD i (0, 0) = (T, V) := ⟨_, _, rfl⟩
      rw [hTV] at c0 c2 hpt
      obtain ⟨q0, q1, q2, q3⟩ := pt_bounds hpt
      have HTV := hid hTV
      clear c1 hpt hTV
      have hgl := kt.lt
      by_cases hi0 : i = 0
      · subst hi0
        obtain ⟨m, hm⟩ := Int.eq_ofNat_of_zero_le q0
        have hwT : IntKind.u64.wrap T = (m : Int) := by rw [IntKind.wrap_u64]; omega
        have hal := hacc.out.2
        obtain ⟨a1, ha1⟩ : ∃ a1, a1 = acc ++ vb m := ⟨_, rfl⟩
        obtain ⟨a2, ha2⟩ : ∃ a2, a2 = a1 ++ vb (fold64 V) := ⟨_, rfl⟩
        have hsz1 := putsz ha1 (by omega)
        have hsz2 := putsz ha2 (fold64_lt (by omega) (by omega))
        have HP := hid (fun w (h : Reads w 5 1 C acc.length (bsV acc)) => by have h' := PutU_c C acc.length f acc m w h (by omega) (by omega); rw [← ha1] at h'; exact h')
        have HQ := hid (fun C f w (h : Reads w 5 1 C a1.length (bsV a1)) => by have h' := Put_c C a1.length f a1 V w h (by omega) (by omega) (by omega); rw [← ha2] at h'; exact h')
        have HACC := hid (show a2 = l0 ++ ptsBy l (0 + 1) ∧ a2.length ≤ 900010 + 20 * (0 + 1) by
          refine ⟨?_, by omega⟩
          rw [ha2, ha1, hacc.out.1, ptsBy_succ]
          have : ptBy l 0 = vb T.toNat ++ vb (fold64 V) := by unfold ptBy; rw [if_pos rfl, HTV.out]
          rw [this, show T.toNat = m by omega]
          simp [List.append_assoc])
        clear hal ha1 ha2 hsz1 hsz2 hacc q0 q1 q2 q3 hm hpw
        have d0 : wr.cell? ad = some (.int .i64 T) := c0
        have d2 : wr.cell? ⟨ad.block, ad.off + 1, none⟩ = some (.int .i64 V) := c2
        go_upto_region 5 with fail
        have kt := kt.alloc (.cells #[.int .i64 T, .int .i64 V] 51)
        have kp := Blk.new wr 51 #[.int .i64 T, .int .i64 V]
        have hown := hown.alloc (.cells #[.int .i64 T, .int .i64 V] 51)
        have hb := hb.alloc (.cells #[.int .i64 T, .int .i64 V] 51)
        have hgp : g ≠ wr.heap.size := by omega
        clear c0 c2 d0 d2
        generalize wr.alloc (.cells #[.int .i64 T, .int .i64 V] 51) = w5 at *
        generalize wr.heap.size = gp at *
        have kt := kt.drew
        have kp := kp.drew
        have hr := (Reads.of_own hown).drew
        have hb := hb.drew
        clear hown
        refine wp_region_held_drew (S := (fun W => TapeX W g k nm ep fl sc (.slice (some ad) n f0) z ∧ Blk W gp 51 #[.int .i64 T, .int .i64 V])) (by kernel_rfl) ⟨⟨_, _, _, kt⟩, kp⟩ (fun hHeld => ?_)
        generalize w5.drew = w6 at *
        refine wpAnyH_take (i := 0) (v := ?_) rfl (by kernel_rfl) (by kernel_rfl) (by kernel_rfl) (fun _ _ _ h => h) (Or.inl ⟨by rfl, ?_⟩) (by assumption) ?_
        rotate_left
        · intro W hW
          go_simp
          try rfl
        simp only [List.getElem_toArray, List.getElem_cons_zero, Act.put, List.setIfInBounds_toArray, List.set_cons_zero, List.set_cons_succ]
        refine wpAnyH_take (i := 1) (v := ?_) rfl (by kernel_rfl) (by kernel_rfl) (by kernel_rfl) (fun _ _ _ h => h) (Or.inl ⟨by rfl, ?_⟩) (by assumption) ?_
        rotate_left
        · intro W hW
          go_simp
          try rfl
        simp only [List.getElem_toArray, List.getElem_cons_succ, List.getElem_cons_zero, Act.put, List.setIfInBounds_toArray, List.set_cons_zero, List.set_cons_succ]
        refine wpAnyH_take (i := 2) (v := ?_) rfl (by kernel_rfl) (by kernel_rfl) (by kernel_rfl) (fun _ _ _ h => h) (Or.inl ⟨by rfl, ?_⟩) (by assumption) ?_
        rotate_left
        · intro W hW
          go_simp
          try rfl
        simp only [List.getElem_toArray, List.getElem_cons_succ, List.getElem_cons_zero, Act.put, List.setIfInBounds_toArray, List.set_cons_zero, List.set_cons_succ]
        refine wpAnyH_take (i := 3) (v := ?_) rfl (by kernel_rfl) (by kernel_rfl) (by kernel_rfl) (fun _ _ _ h => h) (Or.inl ⟨by rfl, ?_⟩) (by assumption) ?_
        rotate_left
        · intro W hW
          go_simp
          try rfl
        simp only [List.getElem_toArray, List.getElem_cons_succ, List.getElem_cons_zero, Act.put, List.setIfInBounds_toArray, List.set_cons_zero, List.set_cons_succ]
        refine wpAnyH_take (i := 5) (v := ?_) rfl (by kernel_rfl) (by kernel_rfl) (by kernel_rfl) (fun _ _ _ h => h) (Or.inl ⟨by rfl, ?_⟩) (by assumption) ?_
        rotate_left
        · intro W hW
          go_simp
          try rfl
        simp only [List.getElem_toArray, List.getElem_cons_succ, List.getElem_cons_zero, Act.put, List.setIfInBounds_toArray, List.set_cons_zero, List.set_cons_succ]
        refine wpAnyH_take (i := 6) (v := ?_) rfl (by kernel_rfl) (by kernel_rfl) (by kernel_rfl) (fun _ _ _ h => h) (Or.inl ⟨by rfl, ?_⟩) (by assumption) ?_
        rotate_left
        · intro W hW
          obtain ⟨y0, y1, y2, y3, y4⟩ := hW.2.two
          go_simp
          try rfl
        simp only [List.getElem_toArray, List.getElem_cons_succ, List.getElem_cons_zero, Act.put, List.setIfInBounds_toArray, List.set_cons_zero, List.set_cons_succ]
        refine wpAnyH_take (i := 7) (v := ?_) rfl (by kernel_rfl) (by kernel_rfl) (by kernel_rfl) (fun _ _ _ h => h) (Or.inl ⟨by rfl, ?_⟩) (by assumption) ?_
        rotate_left
        · intro W hW
          go_simp
          try rfl
        simp only [List.getElem_toArray, List.getElem_cons_succ, List.getElem_cons_zero, Act.put, List.setIfInBounds_toArray, List.set_cons_zero, List.set_cons_succ]
        refine wpAnyH_take (i := 9) (v := ?_) rfl (by kernel_rfl) (by kernel_rfl) (by kernel_rfl) (fun _ _ _ h => h) (Or.inl ⟨by rfl, ?_⟩) (by assumption) ?_
        rotate_left
        · intro W hW
          go_simp
          try rfl
        simp only [List.getElem_toArray, List.getElem_cons_succ, List.getElem_cons_zero, Act.put, List.setIfInBounds_toArray, List.set_cons_zero, List.set_cons_succ]
        refine wpAnyH_take (i := 10) (v := ?_) rfl (by kernel_rfl) (by kernel_rfl) (by kernel_rfl) (fun _ _ _ h => h) (Or.inl ⟨by rfl, ?_⟩) (by assumption) ?_
        rotate_left
        · intro W hW
          obtain ⟨y0, y1, y2, y3, y4⟩ := hW.2.two
          go_simp
          try rfl
        simp only [List.getElem_toArray, List.getElem_cons_succ, List.getElem_cons_zero, Act.put, List.setIfInBounds_toArray, List.set_cons_zero, List.set_cons_succ]
        refine wpAnyH_ready (rs := [4]) (by kernel_rfl) (by simp) ?_
        refine AllReadyH.cons rfl (fun K hK => ?_) AllReadyH.nil
        have x6 := kt.cell 6
        have x6 : w6.cell? ⟨g, 6, none⟩ = some (.slice C acc.length f) := x6
        go_simp
        clear x6
        refine hK.out _ _ ⟨⟨_, _, _, kt⟩, kp⟩ (fun hHeld => ?_)
        clear hK K
        try simp only [List.getElem_toArray, List.getElem_cons_succ, List.getElem_cons_zero, Act.put, List.setIfInBounds_toArray, List.set_cons_zero, List.set_cons_succ]
        refine wpAnyH_ready (rs := [8]) (by kernel_rfl) (by simp) ?_
        refine AllReadyH.cons rfl (fun K hK => ?_) AllReadyH.nil
        go_simp
        refine (HP.out _ hr).mono ?_
        rintro e w7 ⟨C1, f2, rfl, hown, hb2⟩
        have kt := kt.under hb2
        have kp := kp.under hb2
        have hb := hb.step hb2
        have hr := Reads.of_own hown
        clear hb2 hown
        refine hK.out _ _ ⟨⟨_, _, _, kt⟩, kp⟩ (fun hHeld => ?_)
        clear hK K
        try simp only [List.getElem_toArray, List.getElem_cons_succ, List.getElem_cons_zero, Act.put, List.setIfInBounds_toArray, List.set_cons_zero, List.set_cons_succ]
        refine wpAnyH_ready (rs := [11]) (by kernel_rfl) (by simp) ?_
        refine AllReadyH.cons rfl (fun K hK => ?_) AllReadyH.nil
        go_simp
        refine (HQ.out C1 f2 _ hr).mono ?_
        rintro e w8 ⟨C3, f3, rfl, hown, hb3⟩
        have kt := kt.under hb3
        have kp := kp.under hb3
        have hown := own_low hown hb.size
        have hb := hb.step hb3
        clear hb3 hr
        refine hK.out _ _ ⟨⟨_, _, _, kt⟩, kp⟩ (fun hHeld => ?_)
        clear hK K
        try simp only [List.getElem_toArray, List.getElem_cons_succ, List.getElem_cons_zero, Act.put, List.setIfInBounds_toArray, List.set_cons_zero, List.set_cons_succ]
        refine wpAnyH_take (i := 12) (v := ?_) rfl (by kernel_rfl) (by kernel_rfl) (by kernel_rfl) (fun _ _ _ h => h) (Or.inl ⟨by rfl, ?_⟩) (by assumption) ?_
        rotate_left
        · intro W hW
          go_simp
          try rfl
        simp only [List.getElem_toArray, List.getElem_cons_succ, List.getElem_cons_zero, Act.put, List.setIfInBounds_toArray, List.set_cons_zero, List.set_cons_succ]
        refine wpAnyH_take (i := 13) (v := ?_) rfl (by kernel_rfl) (by kernel_rfl) (by kernel_rfl) (fun _ _ _ h => h) (Or.inl ⟨by rfl, ?_⟩) (by assumption) ?_
        rotate_left
        · intro W hW
          go_simp
          try rfl
        simp only [List.getElem_toArray, List.getElem_cons_succ, List.getElem_cons_zero, Act.put, List.setIfInBounds_toArray, List.set_cons_zero, List.set_cons_succ]
        refine wpAnyH_ready (rs := [14]) (by kernel_rfl) (by simp) ?_
        refine AllReadyH.cons rfl (fun K hK => ?_) AllReadyH.nil
        have x6 := kt.cell 6
        have x6 : w8.cell? ⟨g, 6, none⟩ = some (.slice C acc.length f) := x6
        have y6 := kt.frozen 6
        have y7 := kt.lt
        go_simp
        refine hK.out _ _ ⟨⟨_, _, _, kt.set_ 6 _⟩, kp.far (p := ⟨g, 6, none⟩) hgp.symm _⟩ (fun hHeld => ?_)
        clear hK K hHeld x6 y6 y7
        try simp only [List.getElem_toArray, List.getElem_cons_succ, List.getElem_cons_zero, Act.put, List.setIfInBounds_toArray, List.set_cons_zero, List.set_cons_succ]
        refine wpAnyH_done (by kernel_rfl) ?_ _
        have kt9 : Blk (w8.setCell ⟨g, 6, none⟩ (.slice C3 a2.length f3)) g 64 (tapeC k nm ep fl sc (.slice (some ad) n f0) C3 a2.length f3 z) := kt.set_ 6 _
        have hown9 := own_far (a := ⟨g, 6, none⟩) hown hg0 (.slice C3 a2.length f3)
        have hb9 := hb.setg 6 (.slice C3 a2.length f3)
        clear kt kp hown hb
        go_wp2_with fail
        go_roundw
        case rel => exact ⟨0 + 1, a2, C3, f3, by omega, by go_num, HACC, kt9, hown9, hb9⟩
        case measure => simp [intOf]; omega
      · obtain ⟨j, hj⟩ : ∃ j, i = j + 1 := ⟨i - 1, by omega⟩
        obtain ⟨ad', e', d0, d1⟩ := pts_at hpw (show j < n by omega)
        obtain rfl : ad = ad' := by injection e'
        clear e'
        have d2 : wr.cell? ⟨(ad.add (j * 2)).block, (ad.add (j * 2)).off + 1, none⟩ = _ := d1
        have hpt := HALL.out j (by omega)
        obtain ⟨T0, V0, hTV0⟩ : ∃ T V, l.getD j (0, 0) = (T, V) := ⟨_, _, rfl⟩
        rw [hTV0] at d0 d2 hpt
        obtain ⟨p0, p1, p2, p3⟩ := pt_bounds hpt
        obtain ⟨D, hD⟩ : ∃ D, D = T - T0 := ⟨_, rfl⟩
        obtain ⟨E, hE⟩ : ∃ E, E = V - V0 := ⟨_, rfl⟩
        have hw1 : IntKind.i64.wrap (T - T0) = D := by rw [IntKind.wrap_i64]; omega
        have hw2 : IntKind.i64.wrap (V - V0) = E := by rw [IntKind.wrap_i64]; omega
        have hi1 : IntKind.i64.wrap ((i : Int) - 1) = (j : Int) := by rw [IntKind.wrap_i64]; omega
        have hi2 : (i : Int) - 1 = (j : Int) := by omega
        have hi3 : (j : Int) < (n : Int) := by omega
        have hi4 : (0 : Int) ≤ (j : Int) := by omega
        have ti1 : ((i : Int) == 0) = false := beq_eq_false_iff_ne.2 (by omega)
        have ti2 : decide ((i : Int) = 0) = false := decide_eq_false (by omega)
        have ti3 : ¬ (i : Int) = 0 := by omega
        have hal := hacc.out.2
        obtain ⟨a1, ha1⟩ : ∃ a1, a1 = acc ++ vb (fold64 D) := ⟨_, rfl⟩
        obtain ⟨a2, ha2⟩ : ∃ a2, a2 = a1 ++ vb (fold64 E) := ⟨_, rfl⟩
        have hsz1 := putsz ha1 (fold64_lt (by omega) (by omega))
        have hsz2 := putsz ha2 (fold64_lt (by omega) (by omega))
        have HP := hid (fun w (h : Reads w 5 1 C acc.length (bsV acc)) => by have h' := Put_c C acc.length f acc D w h (by omega) (by omega) (by omega); rw [← ha1] at h'; exact h')
        have HQ := hid (fun C f w (h : Reads w 5 1 C a1.length (bsV a1)) => by have h' := Put_c C a1.length f a1 E w h (by omega) (by omega) (by omega); rw [← ha2] at h'; exact h')
        have HACC := hid (show a2 = l0 ++ ptsBy l (i + 1) ∧ a2.length ≤ 900010 + 20 * (i + 1) by
          refine ⟨?_, by omega⟩
          rw [ha2, ha1, hacc.out.1, ptsBy_succ]
          have : ptBy l i = vb (fold64 D) ++ vb (fold64 E) := by unfold ptBy; rw [if_neg hi0, HTV.out, show i - 1 = j by omega, hTV0, hD, hE]
          rw [this]
          simp [List.append_assoc])
        have HI := hid hlt
        clear hal ha1 ha2 hsz1 hsz2 hacc q0 q1 q2 q3 hpw d1 hD hE hTV0 hpt p0 p1 p2 p3 hj hi0 ti3
        have x5 := kt.cell 5
        have x5 : wr.cell? ⟨g, 5, none⟩ = some (.slice (some ad) n f0) := x5
        have hd1 : (ad.add (j * 2)).block < wr.heap.size := cell_lt d0
        have hd2 : ad.block < wr.heap.size := by rw [block_of_add] at hd1; exact hd1
        have d0' : (wr.alloc (.cells #[.int .i64 T, .int .i64 V] 51)).cell? (ad.add (j * 2)) = some (.int .i64 T0) := by rw [World.cell?_alloc_some _ _ _ (by rw [d0]; rfl)]; exact d0
        have d2' : (wr.alloc (.cells #[.int .i64 T, .int .i64 V] 51)).cell? ⟨(ad.add (j * 2)).block, (ad.add (j * 2)).off + 1, none⟩ = some (.int .i64 V0) := by rw [World.cell?_alloc_some _ _ _ (by rw [d2]; rfl)]; exact d2
        go_upto_region 7 with fail
        have kt := (kt.alloc (.cells #[.int .i64 T, .int .i64 V] 51)).alloc (.cells #[.int .i64 T0, .int .i64 V0] 51)
        have kp := (Blk.new wr 51 #[.int .i64 T, .int .i64 V]).alloc (.cells #[.int .i64 T0, .int .i64 V0] 51)
        have kq := Blk.new_at (g := wr.heap.size + 1) (wr.alloc (.cells #[.int .i64 T, .int .i64 V] 51)) 51 #[.int .i64 T0, .int .i64 V0] (by simp)
        have hown := (hown.alloc (.cells #[.int .i64 T, .int .i64 V] 51)).alloc (.cells #[.int .i64 T0, .int .i64 V0] 51)
        have hb := (hb.alloc (.cells #[.int .i64 T, .int .i64 V] 51)).alloc (.cells #[.int .i64 T0, .int .i64 V0] 51)
        have hgp : g ≠ wr.heap.size := by omega
        have hgq : g ≠ wr.heap.size + 1 := by omega
        clear c0 c2 d0 d2 x5 d0' d2' hd1 hd2
        generalize (wr.alloc (.cells #[.int .i64 T, .int .i64 V] 51)).alloc (.cells #[.int .i64 T0, .int .i64 V0] 51) = w5 at *
        generalize hgq' : wr.heap.size + 1 = gq at *
        generalize wr.heap.size = gp at *
        have kt := kt.drew
        have kp := kp.drew
        have kq := kq.drew
        have hr := (Reads.of_own hown).drew
        have hb := hb.drew
        clear hown
        refine wp_region_held_drew (S := (fun W => TapeX W g k nm ep fl sc (.slice (some ad) n f0) z ∧ Blk W gp 51 #[.int .i64 T, .int .i64 V] ∧ Blk W gq 51 #[.int .i64 T0, .int .i64 V0])) (by kernel_rfl) ⟨⟨_, _, _, kt⟩, kp, kq⟩ (fun hHeld => ?_)
        generalize w5.drew = w6 at *
        refine wpAnyH_take (i := 0) (v := ?_) rfl (by kernel_rfl) (by kernel_rfl) (by kernel_rfl) (fun _ _ _ h => h) (Or.inl ⟨by rfl, ?_⟩) (by assumption) ?_
        rotate_left
        · intro W hW
          go_simp
          try rfl
        simp only [List.getElem_toArray, List.getElem_cons_zero, Act.put, List.setIfInBounds_toArray, List.set_cons_zero, List.set_cons_succ]
        refine wpAnyH_take (i := 1) (v := ?_) rfl (by kernel_rfl) (by kernel_rfl) (by kernel_rfl) (fun _ _ _ h => h) (Or.inl ⟨by rfl, ?_⟩) (by assumption) ?_
        rotate_left
        · intro W hW
          go_simp
          try rfl
        simp only [List.getElem_toArray, List.getElem_cons_succ, List.getElem_cons_zero, Act.put, List.setIfInBounds_toArray, List.set_cons_zero, List.set_cons_succ]
        refine wpAnyH_take (i := 2) (v := ?_) rfl (by kernel_rfl) (by kernel_rfl) (by kernel_rfl) (fun _ _ _ h => h) (Or.inl ⟨by rfl, ?_⟩) (by assumption) ?_
        rotate_left
        · intro W hW
          go_simp
          try rfl
        simp only [List.getElem_toArray, List.getElem_cons_succ, List.getElem_cons_zero, Act.put, List.setIfInBounds_toArray, List.set_cons_zero, List.set_cons_succ]
        refine wpAnyH_take (i := 3) (v := ?_) rfl (by kernel_rfl) (by kernel_rfl) (by kernel_rfl) (fun _ _ _ h => h) (Or.inl ⟨by rfl, ?_⟩) (by assumption) ?_
        rotate_left
        · intro W hW
          go_simp
          try rfl
        simp only [List.getElem_toArray, List.getElem_cons_succ, List.getElem_cons_zero, Act.put, List.setIfInBounds_toArray, List.set_cons_zero, List.set_cons_succ]
        refine wpAnyH_take (i := 5) (v := ?_) rfl (by kernel_rfl) (by kernel_rfl) (by kernel_rfl) (fun _ _ _ h => h) (Or.inl ⟨by rfl, ?_⟩) (by assumption) ?_
        rotate_left
        · intro W hW
          go_simp
          try rfl
        simp only [List.getElem_toArray, List.getElem_cons_succ, List.getElem_cons_zero, Act.put, List.setIfInBounds_toArray, List.set_cons_zero, List.set_cons_succ]
        refine wpAnyH_take (i := 7) (v := ?_) rfl (by kernel_rfl) (by kernel_rfl) (by kernel_rfl) (fun _ _ _ h => h) (Or.inl ⟨by rfl, ?_⟩) (by assumption) ?_
        rotate_left
        · intro W hW
          go_simp
          try rfl
        simp only [List.getElem_toArray, List.getElem_cons_succ, List.getElem_cons_zero, Act.put, List.setIfInBounds_toArray, List.set_cons_zero, List.set_cons_succ]
        refine wpAnyH_take (i := 11) (v := ?_) rfl (by kernel_rfl) (by kernel_rfl) (by kernel_rfl) (fun _ _ _ h => h) (Or.inl ⟨by rfl, ?_⟩) (by assumption) ?_
        rotate_left
        · intro W hW
          go_simp
          try rfl
        simp only [List.getElem_toArray, List.getElem_cons_succ, List.getElem_cons_zero, Act.put, List.setIfInBounds_toArray, List.set_cons_zero, List.set_cons_succ]
        refine wpAnyH_take (i := 13) (v := ?_) rfl (by kernel_rfl) (by kernel_rfl) (by kernel_rfl) (fun _ _ _ h => h) (Or.inl ⟨by rfl, ?_⟩) (by assumption) ?_
        rotate_left
        · intro W hW
          go_simp
          try rfl
        simp only [List.getElem_toArray, List.getElem_cons_succ, List.getElem_cons_zero, Act.put, List.setIfInBounds_toArray, List.set_cons_zero, List.set_cons_succ]
        refine wpAnyH_take (i := 6) (v := ?_) rfl (by kernel_rfl) (by kernel_rfl) (by kernel_rfl) (fun _ _ _ h => h) (Or.inl ⟨by rfl, ?_⟩) (by assumption) ?_
        rotate_left
        · intro W hW
          obtain ⟨y0, y1, y2, y3, y4⟩ := hW.2.1.two
          obtain ⟨v0, v1, v2, v3, v4⟩ := hW.2.2.two
          go_simp
          try rfl
        simp only [List.getElem_toArray, List.getElem_cons_succ, List.getElem_cons_zero, Act.put, List.setIfInBounds_toArray, List.set_cons_zero, List.set_cons_succ]
        refine wpAnyH_take (i := 8) (v := ?_) rfl (by kernel_rfl) (by kernel_rfl) (by kernel_rfl) (fun _ _ _ h => h) (Or.inl ⟨by rfl, ?_⟩) (by assumption) ?_
        rotate_left
        · intro W hW
          obtain ⟨y0, y1, y2, y3, y4⟩ := hW.2.1.two
          obtain ⟨v0, v1, v2, v3, v4⟩ := hW.2.2.two
          go_simp
          try rfl
        simp only [List.getElem_toArray, List.getElem_cons_succ, List.getElem_cons_zero, Act.put, List.setIfInBounds_toArray, List.set_cons_zero, List.set_cons_succ]
        refine wpAnyH_take (i := 9) (v := ?_) rfl (by kernel_rfl) (by kernel_rfl) (by kernel_rfl) (fun _ _ _ h => h) (Or.inl ⟨by rfl, ?_⟩) (by assumption) ?_
        rotate_left
        · intro W hW
          go_simp
          try rfl
        simp only [List.getElem_toArray, List.getElem_cons_succ, List.getElem_cons_zero, Act.put, List.setIfInBounds_toArray, List.set_cons_zero, List.set_cons_succ]
        refine wpAnyH_take (i := 12) (v := ?_) rfl (by kernel_rfl) (by kernel_rfl) (by kernel_rfl) (fun _ _ _ h => h) (Or.inl ⟨by rfl, ?_⟩) (by assumption) ?_
        rotate_left
        · intro W hW
          obtain ⟨y0, y1, y2, y3, y4⟩ := hW.2.1.two
          obtain ⟨v0, v1, v2, v3, v4⟩ := hW.2.2.two
          go_simp
          try rfl
        simp only [List.getElem_toArray, List.getElem_cons_succ, List.getElem_cons_zero, Act.put, List.setIfInBounds_toArray, List.set_cons_zero, List.set_cons_succ]
        refine wpAnyH_take (i := 14) (v := ?_) rfl (by kernel_rfl) (by kernel_rfl) (by kernel_rfl) (fun _ _ _ h => h) (Or.inl ⟨by rfl, ?_⟩) (by assumption) ?_
        rotate_left
        · intro W hW
          obtain ⟨y0, y1, y2, y3, y4⟩ := hW.2.1.two
          obtain ⟨v0, v1, v2, v3, v4⟩ := hW.2.2.two
          go_simp
          try rfl
        simp only [List.getElem_toArray, List.getElem_cons_succ, List.getElem_cons_zero, Act.put, List.setIfInBounds_toArray, List.set_cons_zero, List.set_cons_succ]
        refine wpAnyH_take (i := 15) (v := ?_) rfl (by kernel_rfl) (by kernel_rfl) (by kernel_rfl) (fun _ _ _ h => h) (Or.inl ⟨by rfl, ?_⟩) (by assumption) ?_
        rotate_left
        · intro W hW
          go_simp
          try rfl
        simp only [List.getElem_toArray, List.getElem_cons_succ, List.getElem_cons_zero, Act.put, List.setIfInBounds_toArray, List.set_cons_zero, List.set_cons_succ]
        refine wpAnyH_ready (rs := [4]) (by kernel_rfl) (by simp) ?_
        refine AllReadyH.cons rfl (fun K hK => ?_) AllReadyH.nil
        have x6 := kt.cell 6
        have x6 : w6.cell? ⟨g, 6, none⟩ = some (.slice C acc.length f) := x6
        go_simp
        clear x6
        refine hK.out _ _ ⟨⟨_, _, _, kt⟩, kp, kq⟩ (fun hHeld => ?_)
        clear hK K
        try simp only [List.getElem_toArray, List.getElem_cons_succ, List.getElem_cons_zero, Act.put, List.setIfInBounds_toArray, List.set_cons_zero, List.set_cons_succ]
        refine wpAnyH_ready (rs := [10]) (by kernel_rfl) (by simp) ?_
        refine AllReadyH.cons rfl (fun K hK => ?_) AllReadyH.nil
        go_simp
        refine (HP.out _ hr).mono ?_
        rintro e w7 ⟨C1, f2, rfl, hown, hb2⟩
        have kt := kt.under hb2
        have kp := kp.under hb2
        have kq := kq.under hb2
        have hb := hb.step hb2
        have hr := Reads.of_own hown
        clear hb2 hown
        refine hK.out _ _ ⟨⟨_, _, _, kt⟩, kp, kq⟩ (fun hHeld => ?_)
        clear hK K
        try simp only [List.getElem_toArray, List.getElem_cons_succ, List.getElem_cons_zero, Act.put, List.setIfInBounds_toArray, List.set_cons_zero, List.set_cons_succ]
        refine wpAnyH_ready (rs := [16]) (by kernel_rfl) (by simp) ?_
        refine AllReadyH.cons rfl (fun K hK => ?_) AllReadyH.nil
        go_simp
        refine (HQ.out C1 f2 _ hr).mono ?_
        rintro e w8 ⟨C3, f3, rfl, hown, hb3⟩
        have kt := kt.under hb3
        have kp := kp.under hb3
        have kq := kq.under hb3
        have hown := own_low hown hb.size
        have hb := hb.step hb3
        clear hb3 hr
        refine hK.out _ _ ⟨⟨_, _, _, kt⟩, kp, kq⟩ (fun hHeld => ?_)
        clear hK K
        try simp only [List.getElem_toArray, List.getElem_cons_succ, List.getElem_cons_zero, Act.put, List.setIfInBounds_toArray, List.set_cons_zero, List.set_cons_succ]
        refine wpAnyH_take (i := 17) (v := ?_) rfl (by kernel_rfl) (by kernel_rfl) (by kernel_rfl) (fun _ _ _ h => h) (Or.inl ⟨by rfl, ?_⟩) (by assumption) ?_
        rotate_left
        · intro W hW
          go_simp
          try rfl
        simp only [List.getElem_toArray, List.getElem_cons_succ, List.getElem_cons_zero, Act.put, List.setIfInBounds_toArray, List.set_cons_zero, List.set_cons_succ]
        refine wpAnyH_take (i := 18) (v := ?_) rfl (by kernel_rfl) (by kernel_rfl) (by kernel_rfl) (fun _ _ _ h => h) (Or.inl ⟨by rfl, ?_⟩) (by assumption) ?_
        rotate_left
        · intro W hW
          go_simp
          try rfl
        simp only [List.getElem_toArray, List.getElem_cons_succ, List.getElem_cons_zero, Act.put, List.setIfInBounds_toArray, List.set_cons_zero, List.set_cons_succ]
        refine wpAnyH_ready (rs := [19]) (by kernel_rfl) (by simp) ?_
        refine AllReadyH.cons rfl (fun K hK => ?_) AllReadyH.nil
        have x6 := kt.cell 6
        have x6 : w8.cell? ⟨g, 6, none⟩ = some (.slice C acc.length f) := x6
        have y6 := kt.frozen 6
        have y7 := kt.lt
        go_simp
        refine hK.out _ _ ⟨⟨_, _, _, kt.set_ 6 _⟩, kp.far (p := ⟨g, 6, none⟩) hgp.symm _, kq.far (p := ⟨g, 6, none⟩) hgq.symm _⟩ (fun hHeld => ?_)
        clear hK K hHeld x6 y6 y7
        try simp only [List.getElem_toArray, List.getElem_cons_succ, List.getElem_cons_zero, Act.put, List.setIfInBounds_toArray, List.set_cons_zero, List.set_cons_succ]
        refine wpAnyH_done (by kernel_rfl) ?_ _
        have kt9 : Blk (w8.setCell ⟨g, 6, none⟩ (.slice C3 a2.length f3)) g 64 (tapeC k nm ep fl sc (.slice (some ad) n f0) C3 a2.length f3 z) := kt.set_ 6 _
        have hown9 := own_far (a := ⟨g, 6, none⟩) hown hg0 (.slice C3 a2.length f3)
        have hb9 := hb.setg 6 (.slice C3 a2.length f3)
        clear kt kp kq hown hb
        go_wp2_with fail
        go_roundw
        case rel => exact ⟨i + 1, a2, C3, f3, by have := HI.out; omega, by go_num, HACC, kt9, hown9, hb9⟩
        case measure => have := HI.out; simp [intOf]; omega
    · obtain rfl : i = n := by omega
      have HF := hid (show RetPut (l0 ++ ptsBy l i) k nm ep fl sc (.slice A i f0) g z w (.returned (.tuple #[])) wr by
        rw [← hacc.out.1]; exact ⟨C, f, rfl, hb, kt, hown⟩)
      clear hlt kt hown hb hacc
      go_wp2_with fail
      exact bodyPost_ret (results_none rfl _ _ _) rfl HF.out
end
end Go.Proofs.Ytedojdbihajnbaa
