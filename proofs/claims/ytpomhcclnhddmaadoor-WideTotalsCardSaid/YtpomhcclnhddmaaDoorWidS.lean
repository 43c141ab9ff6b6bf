/- Contract of the reference's Text (seat Wide). -/
import Derived.Test.YtpomhcclnhddmaaDoorWidR
import Derived.Test.YtpomhcclnhddmaaDoorWLawE
import Derived.Test.YtpomhcclnhddmaaDoorWLawF
import Derived.Deep.DeepCutAuto
import Derived.Laws.BytesArg
import Derived.Laws.Strings
namespace Go.Proofs.YtpomhcclnhddmaaDoor
open Go.RowKit Go.Shelf Go.Lib TX NB
set_option linter.unusedVariables false
/-- the decimal digits, of nothing none -/
def dz (n : Nat) : List UInt8 := if n = 0 then [] else decDigits n
theorem dz_step {n : Nat} (h : 0 < n) : dz n = dz (n / 10) ++ [UInt8.ofNat (48 + n % 10)] := by
  unfold dz
  rw [if_neg (by omega)]
  by_cases h1 : n < 10
  · rw [if_pos (by omega), dec_small h1, Nat.mod_eq_of_lt h1]; rfl
  · rw [if_neg (by omega), dec_big h1]
theorem dz_len {n : Nat} (h : n < 340282366920938463463374607431768211456) : (dz n).length ≤ 60 := by
  unfold dz
  split
  · simp
  · exact dec_len h
def lenS : Value → Nat | .string s => s.size | _ => 0
theorem itoa_dz (x : Int) : itoa x = (if x < 0 then [45] else []) ++ (if x = 0 then [48] else dz x.natAbs) := by
  by_cases h : x < 0
  · rw [itoa_lt h, if_pos h, if_neg (by omega)]
    unfold dz
    rw [if_neg (by omega)]; rfl
  · rw [itoa_ge (by omega), if_neg h]
    by_cases h0 : x = 0
    · subst h0
      rw [if_pos rfl]
      exact dec_small (u := 0) (by decide)
    · rw [if_neg h0]
      unfold dz
      rw [if_neg (by omega)]; rfl
/-- a byte in a row of its own, as a text -/
theorem conv1 (w : World) (z : Int) : (convert 88 9 (.slice (some ⟨w.heap.size, 0, none⟩) 1 1)).run Tryd.prog (w.alloc (.cells #[.int .u8 z] 5)) = .ok (.string ⟨#[UInt8.ofNat z.toNat]⟩) (w.alloc (.cells #[.int .u8 z] 5)) := by
  have hc : (w.alloc (.cells #[.int .u8 z] 5)).cell? ⟨w.heap.size, 0, none⟩ = some (.int .u8 z) := (Blk.new w 5 #[.int .u8 z]).cell 0
  have hl : (loadCells ⟨w.heap.size, 0, none⟩ 1).run Tryd.prog (w.alloc (.cells #[.int .u8 z] 5)) = .ok ((([z] : List Int).map (Value.int .u8)).toArray) (w.alloc (.cells #[.int .u8 z] 5)) :=
    run_loadCells_list (P := Tryd.prog) _ ⟨w.heap.size, 0, none⟩ [.int .u8 z] (fun j v hj => by
      match j, hj with
      | 0, hj =>
        obtain rfl : Value.int .u8 z = v := by simpa using hj
        exact hc)
  rw [run_convert_bytes_string _ _ _ 5 _ 1 1 Tryd.underlying88 Tryd.underlying5 Tryd.underlying9, run_bytesToString _ _ 1 1 _ hl, foldl_push_bytes]
  simp [ByteArray.empty, ByteArray.emptyWithCapacity]
  rfl
/-- what Text hands back -/
def RetS (x : Int) (w : World) (e : Ending) (w' : World) : Prop := e = .returned (.string (bsS (itoa x))) ∧ Below w.heap.size w w'
set_option maxRecDepth 100000 in
set_option maxHeartbeats 20000000 in
theorem Text_c {x : Int} {b : Bool} {A : Option Addr} {p c : Nat} {w : World} (h : NumIs w x b A p c) (hp : p ≤ 100000) (hx : x.natAbs < 340282366920938463463374607431768211456) :
    Calls Tryd.prog 33 #[.agg #[.bool b, .slice A p c]] w (RetS x w) := by
  have hd := h.dig.alloc (bNum b A p c)
  have ka := Blk.new w 28 #[.bool b, .slice A p c]
  have hw := (Below.refl w.heap.size w).alloc (Nat.le_refl _) (bNum b A p c)
  have HNEG := hid h.neg
  have HX := hid hx
  clear h hx hp
  obtain ⟨N, hN⟩ : ∃ N, N = x.natAbs := ⟨_, rfl⟩
  have HN := hid hN
  rw [← hN] at hd HX
  have HL := hid (dz_len HX.out)
  clear hN
  obtain ⟨a0, a1, a2, a3, a4⟩ := ka.two
  go_enter Tryd.func33, Tryd.ntmps33
  go_wp2_with fail
  refine (made_f hd rfl).mono ?_
  rintro e w1 ⟨b1, A1, p1, c1, rfl, hn, hb1⟩
  have ka := ka.under hb1
  have hw := below_two hw hb1
  clear hd hb1 a0 a1 a2 a3 a4
  go_wp2_with fail
  have ka0 := ka
  have hw0 := hw
  have hn0 := hn
  clear ka hw hn
  go_loopw [3] (fun u3 wr => ∃ (v : Nat) (l : List UInt8) (bv : Bool) (Av : Option Addr) (pv cv : Nat), u3 = .string (bsS l) ∧ dz N = dz v ++ l ∧ v ≤ N ∧ Blk wr w1.heap.size 28 #[.bool bv, .slice Av pv cv] ∧ NumIs wr (v : Int) bv Av pv cv ∧ Below w1.heap.size w1 wr)
    (fun u3 _ => 60 - lenS u3)
  case atStart => exact ⟨N, [], b1, A1, p1, c1, rfl, by simp, Nat.le_refl _, Blk.new _ _ _, hn0.alloc _, (Below.refl _ _).alloc (Nat.le_refl _) _⟩
  case round =>
    obtain ⟨v, l, bv, Av, pv, cv, rfl, hdz, hv, kr, hnv, hB⟩ := hrel
    have ka := ka0.under hB
    have hwz := below_two hw0 hB
    by_cases h0 : v = 0
    · subst h0
      have hl : dz N = l := by rw [hdz]; unfold dz; rw [if_pos rfl]; rfl
      obtain rfl : pv = 0 := by rw [hnv.dig.len]; rfl
      obtain ⟨r0, r1, r2, r3, r4⟩ := kr.two
      obtain ⟨a0, a1, a2, a3, a4⟩ := ka.two
      have hs : (bsS l).size ≤ 60 := by rw [bsS_size, ← hl]; exact HL.out
      by_cases hN0 : N = 0
      · have hxx : x = 0 := by have := HN.out; omega
        have hnil : l = [] := by rw [← hl, hN0]; rfl
        obtain rfl : b = false := by rw [HNEG.out, hxx]; rfl
        have hit : itoa x = [48] := by rw [hxx]; exact dec_small (u := 0) (by decide)
        have HIT := hid hit
        subst hnil
        clear hit hxx hl hdz hs hN0 hnv kr hB hv
        have te : (bsS []).toList.isEmpty = true := by rw [bsS_list]; rfl
        go_wp2
        go_ret
        exact ⟨by rw [HIT.out]; rfl, hwz⟩
      · have hne : l ≠ [] := by
          rw [← hl]
          intro h
          have h2 := dec_ne N
          unfold dz at h
          rw [if_neg hN0] at h
          rw [h] at h2
          exact absurd h2 (by decide)
        have te : ((bsS l).toList == []) = false := by
          rw [bsS_list]
          exact beq_eq_false_iff_ne.2 hne
        have te2 : ¬ (bsS l).toList = [] := by rw [bsS_list]; exact hne
        have hit : itoa x = (if b = true then [45] else []) ++ l := by
          rw [itoa_dz, if_neg (show ¬ x = 0 by have := HN.out; omega), ← HN.out, hl, HNEG.out]
          by_cases hx : x < 0
          · rw [if_pos hx, if_pos (decide_eq_true hx)]
          · rw [if_neg hx, if_neg (by simpa using hx)]
        have HIT := hid hit
        have hg : ¬ 9223372036854775807 < 1 + (bsS l).size := by omega
        clear hit hl hdz hN0 hnv kr hB hv hs hne
        cases b
        · go_wp2
          go_ret
          exact ⟨by rw [HIT.out]; rfl, hwz⟩
        · go_wp2
          go_ret
          exact ⟨by rw [HIT.out]; exact congrArg (fun z => Ending.returned (Value.string z)) (bsS_add [45] l), hwz⟩
    · have hv0 : 0 < v := Nat.pos_of_ne_zero h0
      have hst := dz_step hv0
      have hl2 : dz N = dz (v / 10) ++ (UInt8.ofNat (48 + v % 10) :: l) := by rw [hdz, hst, List.append_assoc]; rfl
      have hlen : (UInt8.ofNat (48 + v % 10) :: l).length ≤ 60 := by
        have := HL.out
        rw [hl2, List.length_append] at this
        omega
      have hpv : 0 < pv := by rw [hnv.dig.len]; have := @nb_eq_zero v; simp only [Int.natAbs_natCast]; omega
      have HL2 := hid hl2
      have HLEN := hid hlen
      have HV := hid (And.intro hv hv0)
      have hpl : pv ≤ 100000 := num_len hnv (by have := HX.out; omega)
      have HPL := hid hpl
      clear hdz hst hl2 hlen hv hv0 h0 hpl
      obtain ⟨r0, r1, r2, r3, r4⟩ := kr.two
      go_upto_region 4 with fail
      clear r0 r1 r2 r3 r4 hpv
      go_cut [5, 6] (fun u5 u6 wx => ∃ g1 g2 : Nat, u5 = .pointer (some ⟨g1, 0, none⟩) ∧ u6 = .pointer (some ⟨g2, 0, none⟩) ∧ ∃ b1 A1 p1 d1 b2 A2 p2 d2, Blk wx g1 28 #[.bool b1, .slice A1 p1 d1] ∧ Blk wx g2 28 #[.bool b2, .slice A2 p2 d2] ∧ NumIs wx ((v / 10 : Nat) : Int) b1 A1 p1 d1 ∧ NumIs wx ((v % 10 : Nat) : Int) b2 A2 p2 d2 ∧ Below wr.heap.size wr wx)
      case first =>
        have HSZ := hid (fun w => sz_c (w := w) 10 (by decide) (by decide))
        have HDIV := hid (fun (w : World) b A p c d B r f (h : NumIs w (v : Int) b A p c) (k : NumIs w ((10 : Nat) : Int) d B r f) (hp : p ≤ 100000) (hr : r ≤ 100000) => Div_c h k (by decide) hp hr)
        unfold RetN2 at HDIV
        rw [show ((v : Int) / ((10 : Nat) : Int)) = ((v / 10 : Nat) : Int) from rfl, show ((v : Int) % ((10 : Nat) : Int)) = ((v % 10 : Nat) : Int) from rfl] at HDIV
        generalize ((v / 10 : Nat) : Int) = qn at *
        generalize ((v % 10 : Nat) : Int) = rn at *
        have hb0 := hnv
        clear HL2 HLEN ka0 hw0 hn0
        refine wp_region_noPanic ?_
        refine wp_region_held_drew (S := (fun w' => Below wr.heap.size wr w')) (by kernel_rfl) (Below.refl wr.heap.size wr).drew (fun hHeld => ?_)
        refine wpAnyH_take (i := 0) (v := ?_) rfl (by kernel_rfl) (by kernel_rfl) (by kernel_rfl) (fun _ _ _ h => h) (Or.inl ⟨by rfl, ?_⟩) (by assumption) ?_
        rotate_left
        · intro W hW
          have kx := kr.under hW
          obtain ⟨z0, z1, z2, z3, z4⟩ := kx.two
          go_simp
          try rfl
        simp only [List.getElem_toArray, List.getElem_cons_zero, Act.put, List.setIfInBounds_toArray, List.set_cons_zero, List.set_cons_succ]
        clear hHeld
        have hB : Below wr.heap.size wr wr.drew := (Below.refl wr.heap.size wr).drew
        have hnx := hb0.drew
        generalize wr.drew = wd at *
        refine wpAnyH_ready (rs := [1, 7, 8]) (by kernel_rfl) (by simp) ?_
        refine AllReadyH.cons rfl (fun K hK => ?_) (AllReadyH.cons rfl (fun K hK => ?_) (AllReadyH.cons rfl (fun K hK => ?_) AllReadyH.nil))
        · go_simp
          refine (HSZ.out _).mono ?_
          rintro e wn1 ⟨As, ps, ds, rfl, hns, hc1⟩
          have hnx_ := hnx.below hc1
          have hB_ := below_two hB hc1
          clear hc1 hB hnx
          have hnx := hnx_
          clear hnx_
          have hB := hB_
          clear hB_
          refine hK.out _ _ hB (fun hHeld => ?_)
          clear hK K hHeld
          try simp only [List.getElem_toArray, List.getElem_cons_succ, List.getElem_cons_zero, Act.put, List.setIfInBounds_toArray, List.set_cons_zero, List.set_cons_succ]
          refine wpAnyH_ready (rs := [2, 7, 8]) (by kernel_rfl) (by simp) ?_
          refine AllReadyH.cons rfl (fun K hK => ?_) (AllReadyH.cons rfl (fun K hK => ?_) (AllReadyH.cons rfl (fun K hK => ?_) AllReadyH.nil))
          · go_simp
            refine (made_f (x := ((10 : Nat) : Int)) hns rfl).mono ?_
            rintro e wn2 ⟨bm, Am, pm, dm, rfl, hnm, hc2⟩
            have hnx_ := hnx.below hc2
            have hns_ := hns.below hc2
            have hB_ := below_two hB hc2
            clear hc2 hB hnx hns
            have hnx := hnx_
            clear hnx_
            have hns := hns_
            clear hns_
            have hB := hB_
            clear hB_
            refine hK.out _ _ hB (fun hHeld => ?_)
            clear hK K hHeld
            try simp only [List.getElem_toArray, List.getElem_cons_succ, List.getElem_cons_zero, Act.put, List.setIfInBounds_toArray, List.set_cons_zero, List.set_cons_succ]
            refine wpAnyH_ready (rs := [3, 7, 8]) (by kernel_rfl) (by simp) ?_
            refine AllReadyH.cons rfl (fun K hK => ?_) (AllReadyH.cons rfl (fun K hK => ?_) (AllReadyH.cons rfl (fun K hK => ?_) AllReadyH.nil))
            · go_simp
              refine (HDIV.out _ _ _ _ _ _ _ _ _ hnx hnm HPL.out (num_len hnm (by omega))).mono ?_
              rintro e wn3 ⟨bb1, A1, p1, d1, bb2, A2, p2, d2, rfl, hn1, hn2, hc3⟩
              clear hnx
              clear hnm
              clear hns
              have hB_ := below_two hB hc3
              clear hc3 hB 
              have hB := hB_
              clear hB_
              refine hK.out _ _ hB (fun hHeld => ?_)
              clear hK K hHeld
              try simp only [List.getElem_toArray, List.getElem_cons_succ, List.getElem_cons_zero, Act.put, List.setIfInBounds_toArray, List.set_cons_zero, List.set_cons_succ]
              refine wpAnyH_take (i := 4) (v := ?_) rfl (by kernel_rfl) (by kernel_rfl) (by kernel_rfl) (fun _ _ _ h => h) (Or.inl ⟨by rfl, ?_⟩) (by assumption) ?_
              rotate_left
              · intro W hW
                go_simp
                try rfl
              simp only [List.getElem_toArray, List.getElem_cons_succ, List.getElem_cons_zero, Act.put, List.setIfInBounds_toArray, List.set_cons_zero, List.set_cons_succ]
              refine wpAnyH_take (i := 5) (v := ?_) rfl (by kernel_rfl) (by kernel_rfl) (by kernel_rfl) (fun _ _ _ h => h) (Or.inl ⟨by rfl, ?_⟩) (by assumption) ?_
              rotate_left
              · intro W hW
                go_simp
                try rfl
              simp only [List.getElem_toArray, List.getElem_cons_succ, List.getElem_cons_zero, Act.put, List.setIfInBounds_toArray, List.set_cons_zero, List.set_cons_succ]
              refine wpAnyH_take (i := 6) (v := ?_) rfl (by kernel_rfl) (by kernel_rfl) (by kernel_rfl) (fun _ _ _ h => h) (Or.inl ⟨by rfl, ?_⟩) (by assumption) ?_
              rotate_left
              · intro W hW
                go_simp
                try rfl
              simp only [List.getElem_toArray, List.getElem_cons_succ, List.getElem_cons_zero, Act.put, List.setIfInBounds_toArray, List.set_cons_zero, List.set_cons_succ]
              skip
              refine wpAnyH_ready (rs := [7, 8]) (by kernel_rfl) (by simp) ?_
              refine AllReadyH.cons rfl (fun K hK => ?_) (AllReadyH.cons rfl (fun K hK => ?_) AllReadyH.nil)
              · go_simp
                have k1_ := Blk.new wn3 28 #[.bool false, .slice none 0 0]
                have hn1_ := hn1.alloc (.cells #[.bool false, .slice none 0 0] 28)
                have hn2_ := hn2.alloc (.cells #[.bool false, .slice none 0 0] 28)
                have hg1 : wr.heap.size ≤ wn3.heap.size := hB.size
                have hB_ := below_alloc hB (Nat.le_refl _) (.cells #[.bool false, .slice none 0 0] 28)
                clear hB hn1 hn2
                generalize wn3.alloc (.cells #[.bool false, .slice none 0 0] 28) = wn4 at *
                generalize wn3.heap.size = g1 at *
                have hn1 := hn1_
                clear hn1_
                have hn2 := hn2_
                clear hn2_
                have k1 := k1_
                clear k1_
                have hB := hB_
                clear hB_
                refine hK.out _ _ hB (fun hHeld => ?_)
                clear hK K hHeld
                try simp only [List.getElem_toArray, List.getElem_cons_succ, List.getElem_cons_zero, Act.put, List.setIfInBounds_toArray, List.set_cons_zero, List.set_cons_succ]
                refine wpAnyH_ready (rs := [8]) (by kernel_rfl) (by simp) ?_
                refine AllReadyH.cons rfl (fun K hK => ?_) AllReadyH.nil
                go_simp
                have k2_ := Blk.new wn4 28 #[.bool false, .slice none 0 0]
                have hn1_ := hn1.alloc (.cells #[.bool false, .slice none 0 0] 28)
                have hn2_ := hn2.alloc (.cells #[.bool false, .slice none 0 0] 28)
                have k1_ := k1.alloc (.cells #[.bool false, .slice none 0 0] 28)
                have hne : g1 < wn4.heap.size := k1.lt
                have hg2 : wr.heap.size ≤ wn4.heap.size := hB.size
                have hB_ := below_alloc hB (Nat.le_refl _) (.cells #[.bool false, .slice none 0 0] 28)
                clear hB hn1 hn2 k1
                generalize wn4.alloc (.cells #[.bool false, .slice none 0 0] 28) = wn5 at *
                generalize wn4.heap.size = g2 at *
                have hn1 := hn1_
                clear hn1_
                have hn2 := hn2_
                clear hn2_
                have k1 := k1_
                clear k1_
                have k2 := k2_
                clear k2_
                have hB := hB_
                clear hB_
                refine hK.out _ _ hB (fun hHeld => ?_)
                clear hK K hHeld
                try simp only [List.getElem_toArray, List.getElem_cons_succ, List.getElem_cons_zero, Act.put, List.setIfInBounds_toArray, List.set_cons_zero, List.set_cons_succ]
                refine wpAnyH_ready (rs := [9]) (by kernel_rfl) (by simp) ?_
                refine AllReadyH.cons rfl (fun K hK => ?_) AllReadyH.nil
                obtain ⟨z0, z1, z2, z3, z4⟩ := k1.two
                go_simp
                have k1_ := k1.set2 (.bool bb1) (.slice A1 p1 d1)
                have k2_ := (k2.far (p := ⟨g1, 0, none⟩) (by simp; omega) (.bool bb1)).far (p := ⟨g1, 1, none⟩) (by simp; omega) (.slice A1 p1 d1)
                have hn1_ := (hn1.setCell (q := ⟨g1, 0, none⟩) k1.typed (.bool bb1)).setCell (q := ⟨g1, 1, none⟩) (k1.typed.setCell _ _) (.slice A1 p1 d1)
                have hn2_ := (hn2.setCell (q := ⟨g1, 0, none⟩) k1.typed (.bool bb1)).setCell (q := ⟨g1, 1, none⟩) (k1.typed.setCell _ _) (.slice A1 p1 d1)
                have hB_ := (hB.setCell (p := ⟨g1, 0, none⟩) hg1 (.bool bb1)).setCell (p := ⟨g1, 1, none⟩) hg1 (.slice A1 p1 d1)
                clear z0 z1 z2 z3 z4 hB k1 k2 hn1 hn2
                generalize (wn5.setCell ⟨g1, 0, none⟩ (.bool bb1)).setCell ⟨g1, 1, none⟩ (.slice A1 p1 d1) = wn6 at *
                have k1 := k1_
                clear k1_
                have k2 := k2_
                clear k2_
                have hn1 := hn1_
                clear hn1_
                have hn2 := hn2_
                clear hn2_
                have hB := hB_
                clear hB_
                refine hK.out _ _ hB (fun hHeld => ?_)
                clear hK K hHeld
                try simp only [List.getElem_toArray, List.getElem_cons_succ, List.getElem_cons_zero, Act.put, List.setIfInBounds_toArray, List.set_cons_zero, List.set_cons_succ]
                refine wpAnyH_ready (rs := [10]) (by kernel_rfl) (by simp) ?_
                refine AllReadyH.cons rfl (fun K hK => ?_) AllReadyH.nil
                obtain ⟨z0, z1, z2, z3, z4⟩ := k2.two
                go_simp
                have k2_ := k2.set2 (.bool bb2) (.slice A2 p2 d2)
                have k1_ := (k1.far (p := ⟨g2, 0, none⟩) (by simp; omega) (.bool bb2)).far (p := ⟨g2, 1, none⟩) (by simp; omega) (.slice A2 p2 d2)
                have hn1_ := (hn1.setCell (q := ⟨g2, 0, none⟩) k2.typed (.bool bb2)).setCell (q := ⟨g2, 1, none⟩) (k2.typed.setCell _ _) (.slice A2 p2 d2)
                have hn2_ := (hn2.setCell (q := ⟨g2, 0, none⟩) k2.typed (.bool bb2)).setCell (q := ⟨g2, 1, none⟩) (k2.typed.setCell _ _) (.slice A2 p2 d2)
                have hB_ := (hB.setCell (p := ⟨g2, 0, none⟩) hg2 (.bool bb2)).setCell (p := ⟨g2, 1, none⟩) hg2 (.slice A2 p2 d2)
                clear z0 z1 z2 z3 z4 hB k1 k2 hn1 hn2
                generalize (wn6.setCell ⟨g2, 0, none⟩ (.bool bb2)).setCell ⟨g2, 1, none⟩ (.slice A2 p2 d2) = wn7 at *
                have k1 := k1_
                clear k1_
                have k2 := k2_
                clear k2_
                have hn1 := hn1_
                clear hn1_
                have hn2 := hn2_
                clear hn2_
                have hB := hB_
                clear hB_
                refine hK.out _ _ hB (fun hHeld => ?_)
                clear hK K hHeld
                try simp only [List.getElem_toArray, List.getElem_cons_succ, List.getElem_cons_zero, Act.put, List.setIfInBounds_toArray, List.set_cons_zero, List.set_cons_succ]
                refine wpAnyH_done (by kernel_rfl) ?_ _
                refine NoPanic.normal ?_
                go_wp2_with fail
                go_meet
                exact ⟨_, _, rfl, rfl, _, _, _, _, _, _, _, _, k1, k2, hn1, hn2, hB⟩
              · go_simp
                have k2_ := Blk.new wn3 28 #[.bool false, .slice none 0 0]
                have hn1_ := hn1.alloc (.cells #[.bool false, .slice none 0 0] 28)
                have hn2_ := hn2.alloc (.cells #[.bool false, .slice none 0 0] 28)
                have hg2 : wr.heap.size ≤ wn3.heap.size := hB.size
                have hB_ := below_alloc hB (Nat.le_refl _) (.cells #[.bool false, .slice none 0 0] 28)
                clear hB hn1 hn2
                generalize wn3.alloc (.cells #[.bool false, .slice none 0 0] 28) = wn8 at *
                generalize wn3.heap.size = g2 at *
                have hn1 := hn1_
                clear hn1_
                have hn2 := hn2_
                clear hn2_
                have k2 := k2_
                clear k2_
                have hB := hB_
                clear hB_
                refine hK.out _ _ hB (fun hHeld => ?_)
                clear hK K hHeld
                try simp only [List.getElem_toArray, List.getElem_cons_succ, List.getElem_cons_zero, Act.put, List.setIfInBounds_toArray, List.set_cons_zero, List.set_cons_succ]
                refine wpAnyH_ready (rs := [7]) (by kernel_rfl) (by simp) ?_
                refine AllReadyH.cons rfl (fun K hK => ?_) AllReadyH.nil
                go_simp
                have k1_ := Blk.new wn8 28 #[.bool false, .slice none 0 0]
                have hn1_ := hn1.alloc (.cells #[.bool false, .slice none 0 0] 28)
                have hn2_ := hn2.alloc (.cells #[.bool false, .slice none 0 0] 28)
                have k2_ := k2.alloc (.cells #[.bool false, .slice none 0 0] 28)
                have hne : g2 < wn8.heap.size := k2.lt
                have hg1 : wr.heap.size ≤ wn8.heap.size := hB.size
                have hB_ := below_alloc hB (Nat.le_refl _) (.cells #[.bool false, .slice none 0 0] 28)
                clear hB hn1 hn2 k2
                generalize wn8.alloc (.cells #[.bool false, .slice none 0 0] 28) = wn9 at *
                generalize wn8.heap.size = g1 at *
                have hn1 := hn1_
                clear hn1_
                have hn2 := hn2_
                clear hn2_
                have k2 := k2_
                clear k2_
                have k1 := k1_
                clear k1_
                have hB := hB_
                clear hB_
                refine hK.out _ _ hB (fun hHeld => ?_)
                clear hK K hHeld
                try simp only [List.getElem_toArray, List.getElem_cons_succ, List.getElem_cons_zero, Act.put, List.setIfInBounds_toArray, List.set_cons_zero, List.set_cons_succ]
                refine wpAnyH_ready (rs := [9]) (by kernel_rfl) (by simp) ?_
                refine AllReadyH.cons rfl (fun K hK => ?_) AllReadyH.nil
                obtain ⟨z0, z1, z2, z3, z4⟩ := k1.two
                go_simp
                have k1_ := k1.set2 (.bool bb1) (.slice A1 p1 d1)
                have k2_ := (k2.far (p := ⟨g1, 0, none⟩) (by simp; omega) (.bool bb1)).far (p := ⟨g1, 1, none⟩) (by simp; omega) (.slice A1 p1 d1)
                have hn1_ := (hn1.setCell (q := ⟨g1, 0, none⟩) k1.typed (.bool bb1)).setCell (q := ⟨g1, 1, none⟩) (k1.typed.setCell _ _) (.slice A1 p1 d1)
                have hn2_ := (hn2.setCell (q := ⟨g1, 0, none⟩) k1.typed (.bool bb1)).setCell (q := ⟨g1, 1, none⟩) (k1.typed.setCell _ _) (.slice A1 p1 d1)
                have hB_ := (hB.setCell (p := ⟨g1, 0, none⟩) hg1 (.bool bb1)).setCell (p := ⟨g1, 1, none⟩) hg1 (.slice A1 p1 d1)
                clear z0 z1 z2 z3 z4 hB k1 k2 hn1 hn2
                generalize (wn9.setCell ⟨g1, 0, none⟩ (.bool bb1)).setCell ⟨g1, 1, none⟩ (.slice A1 p1 d1) = wn10 at *
                have k1 := k1_
                clear k1_
                have k2 := k2_
                clear k2_
                have hn1 := hn1_
                clear hn1_
                have hn2 := hn2_
                clear hn2_
                have hB := hB_
                clear hB_
                refine hK.out _ _ hB (fun hHeld => ?_)
                clear hK K hHeld
                try simp only [List.getElem_toArray, List.getElem_cons_succ, List.getElem_cons_zero, Act.put, List.setIfInBounds_toArray, List.set_cons_zero, List.set_cons_succ]
                refine wpAnyH_ready (rs := [10]) (by kernel_rfl) (by simp) ?_
                refine AllReadyH.cons rfl (fun K hK => ?_) AllReadyH.nil
                obtain ⟨z0, z1, z2, z3, z4⟩ := k2.two
                go_simp
                have k2_ := k2.set2 (.bool bb2) (.slice A2 p2 d2)
                have k1_ := (k1.far (p := ⟨g2, 0, none⟩) (by simp; omega) (.bool bb2)).far (p := ⟨g2, 1, none⟩) (by simp; omega) (.slice A2 p2 d2)
                have hn1_ := (hn1.setCell (q := ⟨g2, 0, none⟩) k2.typed (.bool bb2)).setCell (q := ⟨g2, 1, none⟩) (k2.typed.setCell _ _) (.slice A2 p2 d2)
                have hn2_ := (hn2.setCell (q := ⟨g2, 0, none⟩) k2.typed (.bool bb2)).setCell (q := ⟨g2, 1, none⟩) (k2.typed.setCell _ _) (.slice A2 p2 d2)
                have hB_ := (hB.setCell (p := ⟨g2, 0, none⟩) hg2 (.bool bb2)).setCell (p := ⟨g2, 1, none⟩) hg2 (.slice A2 p2 d2)
                clear z0 z1 z2 z3 z4 hB k1 k2 hn1 hn2
                generalize (wn10.setCell ⟨g2, 0, none⟩ (.bool bb2)).setCell ⟨g2, 1, none⟩ (.slice A2 p2 d2) = wn11 at *
                have k1 := k1_
                clear k1_
                have k2 := k2_
                clear k2_
                have hn1 := hn1_
                clear hn1_
                have hn2 := hn2_
                clear hn2_
                have hB := hB_
                clear hB_
                refine hK.out _ _ hB (fun hHeld => ?_)
                clear hK K hHeld
                try simp only [List.getElem_toArray, List.getElem_cons_succ, List.getElem_cons_zero, Act.put, List.setIfInBounds_toArray, List.set_cons_zero, List.set_cons_succ]
                refine wpAnyH_done (by kernel_rfl) ?_ _
                refine NoPanic.normal ?_
                go_wp2_with fail
                go_meet
                exact ⟨_, _, rfl, rfl, _, _, _, _, _, _, _, _, k1, k2, hn1, hn2, hB⟩
            · go_simp
              have k1_ := Blk.new wn2 28 #[.bool false, .slice none 0 0]
              have hnx_ := hnx.alloc (.cells #[.bool false, .slice none 0 0] 28)
              have hns_ := hns.alloc (.cells #[.bool false, .slice none 0 0] 28)
              have hnm_ := hnm.alloc (.cells #[.bool false, .slice none 0 0] 28)
              have hg1 : wr.heap.size ≤ wn2.heap.size := hB.size
              have hB_ := below_alloc hB (Nat.le_refl _) (.cells #[.bool false, .slice none 0 0] 28)
              clear hB hnx hns hnm
              generalize wn2.alloc (.cells #[.bool false, .slice none 0 0] 28) = wn12 at *
              generalize wn2.heap.size = g1 at *
              have hnx := hnx_
              clear hnx_
              have hns := hns_
              clear hns_
              have hnm := hnm_
              clear hnm_
              have k1 := k1_
              clear k1_
              have hB := hB_
              clear hB_
              refine hK.out _ _ hB (fun hHeld => ?_)
              clear hK K hHeld
              try simp only [List.getElem_toArray, List.getElem_cons_succ, List.getElem_cons_zero, Act.put, List.setIfInBounds_toArray, List.set_cons_zero, List.set_cons_succ]
              refine wpAnyH_ready (rs := [3, 8]) (by kernel_rfl) (by simp) ?_
              refine AllReadyH.cons rfl (fun K hK => ?_) (AllReadyH.cons rfl (fun K hK => ?_) AllReadyH.nil)
              · go_simp
                refine (HDIV.out _ _ _ _ _ _ _ _ _ hnx hnm HPL.out (num_len hnm (by omega))).mono ?_
                rintro e wn13 ⟨bb1, A1, p1, d1, bb2, A2, p2, d2, rfl, hn1, hn2, hc13⟩
                clear hnx
                clear hnm
                clear hns
                have k1_ := k1.under hc13
                have hB_ := below_two hB hc13
                clear hc13 hB k1
                have k1 := k1_
                clear k1_
                have hB := hB_
                clear hB_
                refine hK.out _ _ hB (fun hHeld => ?_)
                clear hK K hHeld
                try simp only [List.getElem_toArray, List.getElem_cons_succ, List.getElem_cons_zero, Act.put, List.setIfInBounds_toArray, List.set_cons_zero, List.set_cons_succ]
                refine wpAnyH_take (i := 4) (v := ?_) rfl (by kernel_rfl) (by kernel_rfl) (by kernel_rfl) (fun _ _ _ h => h) (Or.inl ⟨by rfl, ?_⟩) (by assumption) ?_
                rotate_left
                · intro W hW
                  go_simp
                  try rfl
                simp only [List.getElem_toArray, List.getElem_cons_succ, List.getElem_cons_zero, Act.put, List.setIfInBounds_toArray, List.set_cons_zero, List.set_cons_succ]
                refine wpAnyH_take (i := 5) (v := ?_) rfl (by kernel_rfl) (by kernel_rfl) (by kernel_rfl) (fun _ _ _ h => h) (Or.inl ⟨by rfl, ?_⟩) (by assumption) ?_
                rotate_left
                · intro W hW
                  go_simp
                  try rfl
                simp only [List.getElem_toArray, List.getElem_cons_succ, List.getElem_cons_zero, Act.put, List.setIfInBounds_toArray, List.set_cons_zero, List.set_cons_succ]
                refine wpAnyH_take (i := 6) (v := ?_) rfl (by kernel_rfl) (by kernel_rfl) (by kernel_rfl) (fun _ _ _ h => h) (Or.inl ⟨by rfl, ?_⟩) (by assumption) ?_
                rotate_left
                · intro W hW
                  go_simp
                  try rfl
                simp only [List.getElem_toArray, List.getElem_cons_succ, List.getElem_cons_zero, Act.put, List.setIfInBounds_toArray, List.set_cons_zero, List.set_cons_succ]
                skip
                refine wpAnyH_ready (rs := [8]) (by kernel_rfl) (by simp) ?_
                refine AllReadyH.cons rfl (fun K hK => ?_) AllReadyH.nil
                go_simp
                have k2_ := Blk.new wn13 28 #[.bool false, .slice none 0 0]
                have k1_ := k1.alloc (.cells #[.bool false, .slice none 0 0] 28)
                have hn1_ := hn1.alloc (.cells #[.bool false, .slice none 0 0] 28)
                have hn2_ := hn2.alloc (.cells #[.bool false, .slice none 0 0] 28)
                have hne : g1 < wn13.heap.size := k1.lt
                have hg2 : wr.heap.size ≤ wn13.heap.size := hB.size
                have hB_ := below_alloc hB (Nat.le_refl _) (.cells #[.bool false, .slice none 0 0] 28)
                clear hB k1 hn1 hn2
                generalize wn13.alloc (.cells #[.bool false, .slice none 0 0] 28) = wn14 at *
                generalize wn13.heap.size = g2 at *
                have k1 := k1_
                clear k1_
                have hn1 := hn1_
                clear hn1_
                have hn2 := hn2_
                clear hn2_
                have k2 := k2_
                clear k2_
                have hB := hB_
                clear hB_
                refine hK.out _ _ hB (fun hHeld => ?_)
                clear hK K hHeld
                try simp only [List.getElem_toArray, List.getElem_cons_succ, List.getElem_cons_zero, Act.put, List.setIfInBounds_toArray, List.set_cons_zero, List.set_cons_succ]
                refine wpAnyH_ready (rs := [9]) (by kernel_rfl) (by simp) ?_
                refine AllReadyH.cons rfl (fun K hK => ?_) AllReadyH.nil
                obtain ⟨z0, z1, z2, z3, z4⟩ := k1.two
                go_simp
                have k1_ := k1.set2 (.bool bb1) (.slice A1 p1 d1)
                have k2_ := (k2.far (p := ⟨g1, 0, none⟩) (by simp; omega) (.bool bb1)).far (p := ⟨g1, 1, none⟩) (by simp; omega) (.slice A1 p1 d1)
                have hn1_ := (hn1.setCell (q := ⟨g1, 0, none⟩) k1.typed (.bool bb1)).setCell (q := ⟨g1, 1, none⟩) (k1.typed.setCell _ _) (.slice A1 p1 d1)
                have hn2_ := (hn2.setCell (q := ⟨g1, 0, none⟩) k1.typed (.bool bb1)).setCell (q := ⟨g1, 1, none⟩) (k1.typed.setCell _ _) (.slice A1 p1 d1)
                have hB_ := (hB.setCell (p := ⟨g1, 0, none⟩) hg1 (.bool bb1)).setCell (p := ⟨g1, 1, none⟩) hg1 (.slice A1 p1 d1)
                clear z0 z1 z2 z3 z4 hB k1 k2 hn1 hn2
                generalize (wn14.setCell ⟨g1, 0, none⟩ (.bool bb1)).setCell ⟨g1, 1, none⟩ (.slice A1 p1 d1) = wn15 at *
                have k1 := k1_
                clear k1_
                have k2 := k2_
                clear k2_
                have hn1 := hn1_
                clear hn1_
                have hn2 := hn2_
                clear hn2_
                have hB := hB_
                clear hB_
                refine hK.out _ _ hB (fun hHeld => ?_)
                clear hK K hHeld
                try simp only [List.getElem_toArray, List.getElem_cons_succ, List.getElem_cons_zero, Act.put, List.setIfInBounds_toArray, List.set_cons_zero, List.set_cons_succ]
                refine wpAnyH_ready (rs := [10]) (by kernel_rfl) (by simp) ?_
                refine AllReadyH.cons rfl (fun K hK => ?_) AllReadyH.nil
                obtain ⟨z0, z1, z2, z3, z4⟩ := k2.two
                go_simp
                have k2_ := k2.set2 (.bool bb2) (.slice A2 p2 d2)
                have k1_ := (k1.far (p := ⟨g2, 0, none⟩) (by simp; omega) (.bool bb2)).far (p := ⟨g2, 1, none⟩) (by simp; omega) (.slice A2 p2 d2)
                have hn1_ := (hn1.setCell (q := ⟨g2, 0, none⟩) k2.typed (.bool bb2)).setCell (q := ⟨g2, 1, none⟩) (k2.typed.setCell _ _) (.slice A2 p2 d2)
                have hn2_ := (hn2.setCell (q := ⟨g2, 0, none⟩) k2.typed (.bool bb2)).setCell (q := ⟨g2, 1, none⟩) (k2.typed.setCell _ _) (.slice A2 p2 d2)
                have hB_ := (hB.setCell (p := ⟨g2, 0, none⟩) hg2 (.bool bb2)).setCell (p := ⟨g2, 1, none⟩) hg2 (.slice A2 p2 d2)
                clear z0 z1 z2 z3 z4 hB k1 k2 hn1 hn2
                generalize (wn15.setCell ⟨g2, 0, none⟩ (.bool bb2)).setCell ⟨g2, 1, none⟩ (.slice A2 p2 d2) = wn16 at *
                have k1 := k1_
                clear k1_
                have k2 := k2_
                clear k2_
                have hn1 := hn1_
                clear hn1_
                have hn2 := hn2_
                clear hn2_
                have hB := hB_
                clear hB_
                refine hK.out _ _ hB (fun hHeld => ?_)
                clear hK K hHeld
                try simp only [List.getElem_toArray, List.getElem_cons_succ, List.getElem_cons_zero, Act.put, List.setIfInBounds_toArray, List.set_cons_zero, List.set_cons_succ]
                refine wpAnyH_done (by kernel_rfl) ?_ _
                refine NoPanic.normal ?_
                go_wp2_with fail
                go_meet
                exact ⟨_, _, rfl, rfl, _, _, _, _, _, _, _, _, k1, k2, hn1, hn2, hB⟩
              · go_simp
                have k2_ := Blk.new wn12 28 #[.bool false, .slice none 0 0]
                have hnx_ := hnx.alloc (.cells #[.bool false, .slice none 0 0] 28)
                have hns_ := hns.alloc (.cells #[.bool false, .slice none 0 0] 28)
                have hnm_ := hnm.alloc (.cells #[.bool false, .slice none 0 0] 28)
                have k1_ := k1.alloc (.cells #[.bool false, .slice none 0 0] 28)
                have hne : g1 < wn12.heap.size := k1.lt
                have hg2 : wr.heap.size ≤ wn12.heap.size := hB.size
                have hB_ := below_alloc hB (Nat.le_refl _) (.cells #[.bool false, .slice none 0 0] 28)
                clear hB hnx hns hnm k1
                generalize wn12.alloc (.cells #[.bool false, .slice none 0 0] 28) = wn17 at *
                generalize wn12.heap.size = g2 at *
                have hnx := hnx_
                clear hnx_
                have hns := hns_
                clear hns_
                have hnm := hnm_
                clear hnm_
                have k1 := k1_
                clear k1_
                have k2 := k2_
                clear k2_
                have hB := hB_
                clear hB_
                refine hK.out _ _ hB (fun hHeld => ?_)
                clear hK K hHeld
                try simp only [List.getElem_toArray, List.getElem_cons_succ, List.getElem_cons_zero, Act.put, List.setIfInBounds_toArray, List.set_cons_zero, List.set_cons_succ]
                refine wpAnyH_ready (rs := [3]) (by kernel_rfl) (by simp) ?_
                refine AllReadyH.cons rfl (fun K hK => ?_) AllReadyH.nil
                go_simp
                refine (HDIV.out _ _ _ _ _ _ _ _ _ hnx hnm HPL.out (num_len hnm (by omega))).mono ?_
                rintro e wn18 ⟨bb1, A1, p1, d1, bb2, A2, p2, d2, rfl, hn1, hn2, hc18⟩
                clear hnx
                clear hnm
                clear hns
                have k1_ := k1.under hc18
                have k2_ := k2.under hc18
                have hB_ := below_two hB hc18
                clear hc18 hB k1 k2
                have k1 := k1_
                clear k1_
                have k2 := k2_
                clear k2_
                have hB := hB_
                clear hB_
                refine hK.out _ _ hB (fun hHeld => ?_)
                clear hK K hHeld
                try simp only [List.getElem_toArray, List.getElem_cons_succ, List.getElem_cons_zero, Act.put, List.setIfInBounds_toArray, List.set_cons_zero, List.set_cons_succ]
                refine wpAnyH_take (i := 4) (v := ?_) rfl (by kernel_rfl) (by kernel_rfl) (by kernel_rfl) (fun _ _ _ h => h) (Or.inl ⟨by rfl, ?_⟩) (by assumption) ?_
                rotate_left
                · intro W hW
                  go_simp
                  try rfl
                simp only [List.getElem_toArray, List.getElem_cons_succ, List.getElem_cons_zero, Act.put, List.setIfInBounds_toArray, List.set_cons_zero, List.set_cons_succ]
                refine wpAnyH_take (i := 5) (v := ?_) rfl (by kernel_rfl) (by kernel_rfl) (by kernel_rfl) (fun _ _ _ h => h) (Or.inl ⟨by rfl, ?_⟩) (by assumption) ?_
                rotate_left
                · intro W hW
                  go_simp
                  try rfl
                simp only [List.getElem_toArray, List.getElem_cons_succ, List.getElem_cons_zero, Act.put, List.setIfInBounds_toArray, List.set_cons_zero, List.set_cons_succ]
                refine wpAnyH_take (i := 6) (v := ?_) rfl (by kernel_rfl) (by kernel_rfl) (by kernel_rfl) (fun _ _ _ h => h) (Or.inl ⟨by rfl, ?_⟩) (by assumption) ?_
                rotate_left
                · intro W hW
                  go_simp
                  try rfl
                simp only [List.getElem_toArray, List.getElem_cons_succ, List.getElem_cons_zero, Act.put, List.setIfInBounds_toArray, List.set_cons_zero, List.set_cons_succ]
                skip
                refine wpAnyH_ready (rs := [9]) (by kernel_rfl) (by simp) ?_
                refine AllReadyH.cons rfl (fun K hK => ?_) AllReadyH.nil
                obtain ⟨z0, z1, z2, z3, z4⟩ := k1.two
                go_simp
                have k1_ := k1.set2 (.bool bb1) (.slice A1 p1 d1)
                have k2_ := (k2.far (p := ⟨g1, 0, none⟩) (by simp; omega) (.bool bb1)).far (p := ⟨g1, 1, none⟩) (by simp; omega) (.slice A1 p1 d1)
                have hn1_ := (hn1.setCell (q := ⟨g1, 0, none⟩) k1.typed (.bool bb1)).setCell (q := ⟨g1, 1, none⟩) (k1.typed.setCell _ _) (.slice A1 p1 d1)
                have hn2_ := (hn2.setCell (q := ⟨g1, 0, none⟩) k1.typed (.bool bb1)).setCell (q := ⟨g1, 1, none⟩) (k1.typed.setCell _ _) (.slice A1 p1 d1)
                have hB_ := (hB.setCell (p := ⟨g1, 0, none⟩) hg1 (.bool bb1)).setCell (p := ⟨g1, 1, none⟩) hg1 (.slice A1 p1 d1)
                clear z0 z1 z2 z3 z4 hB k1 k2 hn1 hn2
                generalize (wn18.setCell ⟨g1, 0, none⟩ (.bool bb1)).setCell ⟨g1, 1, none⟩ (.slice A1 p1 d1) = wn19 at *
                have k1 := k1_
                clear k1_
                have k2 := k2_
                clear k2_
                have hn1 := hn1_
                clear hn1_
                have hn2 := hn2_
                clear hn2_
                have hB := hB_
                clear hB_
                refine hK.out _ _ hB (fun hHeld => ?_)
                clear hK K hHeld
                try simp only [List.getElem_toArray, List.getElem_cons_succ, List.getElem_cons_zero, Act.put, List.setIfInBounds_toArray, List.set_cons_zero, List.set_cons_succ]
                refine wpAnyH_ready (rs := [10]) (by kernel_rfl) (by simp) ?_
                refine AllReadyH.cons rfl (fun K hK => ?_) AllReadyH.nil
                obtain ⟨z0, z1, z2, z3, z4⟩ := k2.two
                go_simp
                have k2_ := k2.set2 (.bool bb2) (.slice A2 p2 d2)
                have k1_ := (k1.far (p := ⟨g2, 0, none⟩) (by simp; omega) (.bool bb2)).far (p := ⟨g2, 1, none⟩) (by simp; omega) (.slice A2 p2 d2)
                have hn1_ := (hn1.setCell (q := ⟨g2, 0, none⟩) k2.typed (.bool bb2)).setCell (q := ⟨g2, 1, none⟩) (k2.typed.setCell _ _) (.slice A2 p2 d2)
                have hn2_ := (hn2.setCell (q := ⟨g2, 0, none⟩) k2.typed (.bool bb2)).setCell (q := ⟨g2, 1, none⟩) (k2.typed.setCell _ _) (.slice A2 p2 d2)
                have hB_ := (hB.setCell (p := ⟨g2, 0, none⟩) hg2 (.bool bb2)).setCell (p := ⟨g2, 1, none⟩) hg2 (.slice A2 p2 d2)
                clear z0 z1 z2 z3 z4 hB k1 k2 hn1 hn2
                generalize (wn19.setCell ⟨g2, 0, none⟩ (.bool bb2)).setCell ⟨g2, 1, none⟩ (.slice A2 p2 d2) = wn20 at *
                have k1 := k1_
                clear k1_
                have k2 := k2_
                clear k2_
                have hn1 := hn1_
                clear hn1_
                have hn2 := hn2_
                clear hn2_
                have hB := hB_
                clear hB_
                refine hK.out _ _ hB (fun hHeld => ?_)
                clear hK K hHeld
                try simp only [List.getElem_toArray, List.getElem_cons_succ, List.getElem_cons_zero, Act.put, List.setIfInBounds_toArray, List.set_cons_zero, List.set_cons_succ]
                refine wpAnyH_done (by kernel_rfl) ?_ _
                refine NoPanic.normal ?_
                go_wp2_with fail
                go_meet
                exact ⟨_, _, rfl, rfl, _, _, _, _, _, _, _, _, k1, k2, hn1, hn2, hB⟩
            · go_simp
              have k2_ := Blk.new wn2 28 #[.bool false, .slice none 0 0]
              have hnx_ := hnx.alloc (.cells #[.bool false, .slice none 0 0] 28)
              have hns_ := hns.alloc (.cells #[.bool false, .slice none 0 0] 28)
              have hnm_ := hnm.alloc (.cells #[.bool false, .slice none 0 0] 28)
              have hg2 : wr.heap.size ≤ wn2.heap.size := hB.size
              have hB_ := below_alloc hB (Nat.le_refl _) (.cells #[.bool false, .slice none 0 0] 28)
              clear hB hnx hns hnm
              generalize wn2.alloc (.cells #[.bool false, .slice none 0 0] 28) = wn21 at *
              generalize wn2.heap.size = g2 at *
              have hnx := hnx_
              clear hnx_
              have hns := hns_
              clear hns_
              have hnm := hnm_
              clear hnm_
              have k2 := k2_
              clear k2_
              have hB := hB_
              clear hB_
              refine hK.out _ _ hB (fun hHeld => ?_)
              clear hK K hHeld
              try simp only [List.getElem_toArray, List.getElem_cons_succ, List.getElem_cons_zero, Act.put, List.setIfInBounds_toArray, List.set_cons_zero, List.set_cons_succ]
              refine wpAnyH_ready (rs := [3, 7]) (by kernel_rfl) (by simp) ?_
              refine AllReadyH.cons rfl (fun K hK => ?_) (AllReadyH.cons rfl (fun K hK => ?_) AllReadyH.nil)
              · go_simp
                refine (HDIV.out _ _ _ _ _ _ _ _ _ hnx hnm HPL.out (num_len hnm (by omega))).mono ?_
                rintro e wn22 ⟨bb1, A1, p1, d1, bb2, A2, p2, d2, rfl, hn1, hn2, hc22⟩
                clear hnx
                clear hnm
                clear hns
                have k2_ := k2.under hc22
                have hB_ := below_two hB hc22
                clear hc22 hB k2
                have k2 := k2_
                clear k2_
                have hB := hB_
                clear hB_
                refine hK.out _ _ hB (fun hHeld => ?_)
                clear hK K hHeld
                try simp only [List.getElem_toArray, List.getElem_cons_succ, List.getElem_cons_zero, Act.put, List.setIfInBounds_toArray, List.set_cons_zero, List.set_cons_succ]
                refine wpAnyH_take (i := 4) (v := ?_) rfl (by kernel_rfl) (by kernel_rfl) (by kernel_rfl) (fun _ _ _ h => h) (Or.inl ⟨by rfl, ?_⟩) (by assumption) ?_
                rotate_left
                · intro W hW
                  go_simp
                  try rfl
                simp only [List.getElem_toArray, List.getElem_cons_succ, List.getElem_cons_zero, Act.put, List.setIfInBounds_toArray, List.set_cons_zero, List.set_cons_succ]
                refine wpAnyH_take (i := 5) (v := ?_) rfl (by kernel_rfl) (by kernel_rfl) (by kernel_rfl) (fun _ _ _ h => h) (Or.inl ⟨by rfl, ?_⟩) (by assumption) ?_
                rotate_left
                · intro W hW
                  go_simp
                  try rfl
                simp only [List.getElem_toArray, List.getElem_cons_succ, List.getElem_cons_zero, Act.put, List.setIfInBounds_toArray, List.set_cons_zero, List.set_cons_succ]
                refine wpAnyH_take (i := 6) (v := ?_) rfl (by kernel_rfl) (by kernel_rfl) (by kernel_rfl) (fun _ _ _ h => h) (Or.inl ⟨by rfl, ?_⟩) (by assumption) ?_
                rotate_left
                · intro W hW
                  go_simp
                  try rfl
                simp only [List.getElem_toArray, List.getElem_cons_succ, List.getElem_cons_zero, Act.put, List.setIfInBounds_toArray, List.set_cons_zero, List.set_cons_succ]
                skip
                refine wpAnyH_ready (rs := [7]) (by kernel_rfl) (by simp) ?_
                refine AllReadyH.cons rfl (fun K hK => ?_) AllReadyH.nil
                go_simp
                have k1_ := Blk.new wn22 28 #[.bool false, .slice none 0 0]
                have k2_ := k2.alloc (.cells #[.bool false, .slice none 0 0] 28)
                have hn1_ := hn1.alloc (.cells #[.bool false, .slice none 0 0] 28)
                have hn2_ := hn2.alloc (.cells #[.bool false, .slice none 0 0] 28)
                have hne : g2 < wn22.heap.size := k2.lt
                have hg1 : wr.heap.size ≤ wn22.heap.size := hB.size
                have hB_ := below_alloc hB (Nat.le_refl _) (.cells #[.bool false, .slice none 0 0] 28)
                clear hB k2 hn1 hn2
                generalize wn22.alloc (.cells #[.bool false, .slice none 0 0] 28) = wn23 at *
                generalize wn22.heap.size = g1 at *
                have k2 := k2_
                clear k2_
                have hn1 := hn1_
                clear hn1_
                have hn2 := hn2_
                clear hn2_
                have k1 := k1_
                clear k1_
                have hB := hB_
                clear hB_
                refine hK.out _ _ hB (fun hHeld => ?_)
                clear hK K hHeld
                try simp only [List.getElem_toArray, List.getElem_cons_succ, List.getElem_cons_zero, Act.put, List.setIfInBounds_toArray, List.set_cons_zero, List.set_cons_succ]
                refine wpAnyH_ready (rs := [9]) (by kernel_rfl) (by simp) ?_
                refine AllReadyH.cons rfl (fun K hK => ?_) AllReadyH.nil
                obtain ⟨z0, z1, z2, z3, z4⟩ := k1.two
                go_simp
                have k1_ := k1.set2 (.bool bb1) (.slice A1 p1 d1)
                have k2_ := (k2.far (p := ⟨g1, 0, none⟩) (by simp; omega) (.bool bb1)).far (p := ⟨g1, 1, none⟩) (by simp; omega) (.slice A1 p1 d1)
                have hn1_ := (hn1.setCell (q := ⟨g1, 0, none⟩) k1.typed (.bool bb1)).setCell (q := ⟨g1, 1, none⟩) (k1.typed.setCell _ _) (.slice A1 p1 d1)
                have hn2_ := (hn2.setCell (q := ⟨g1, 0, none⟩) k1.typed (.bool bb1)).setCell (q := ⟨g1, 1, none⟩) (k1.typed.setCell _ _) (.slice A1 p1 d1)
                have hB_ := (hB.setCell (p := ⟨g1, 0, none⟩) hg1 (.bool bb1)).setCell (p := ⟨g1, 1, none⟩) hg1 (.slice A1 p1 d1)
                clear z0 z1 z2 z3 z4 hB k1 k2 hn1 hn2
                generalize (wn23.setCell ⟨g1, 0, none⟩ (.bool bb1)).setCell ⟨g1, 1, none⟩ (.slice A1 p1 d1) = wn24 at *
                have k1 := k1_
                clear k1_
                have k2 := k2_
                clear k2_
                have hn1 := hn1_
                clear hn1_
                have hn2 := hn2_
                clear hn2_
                have hB := hB_
                clear hB_
                refine hK.out _ _ hB (fun hHeld => ?_)
                clear hK K hHeld
                try simp only [List.getElem_toArray, List.getElem_cons_succ, List.getElem_cons_zero, Act.put, List.setIfInBounds_toArray, List.set_cons_zero, List.set_cons_succ]
                refine wpAnyH_ready (rs := [10]) (by kernel_rfl) (by simp) ?_
                refine AllReadyH.cons rfl (fun K hK => ?_) AllReadyH.nil
                obtain ⟨z0, z1, z2, z3, z4⟩ := k2.two
                go_simp
                have k2_ := k2.set2 (.bool bb2) (.slice A2 p2 d2)
                have k1_ := (k1.far (p := ⟨g2, 0, none⟩) (by simp; omega) (.bool bb2)).far (p := ⟨g2, 1, none⟩) (by simp; omega) (.slice A2 p2 d2)
                have hn1_ := (hn1.setCell (q := ⟨g2, 0, none⟩) k2.typed (.bool bb2)).setCell (q := ⟨g2, 1, none⟩) (k2.typed.setCell _ _) (.slice A2 p2 d2)
                have hn2_ := (hn2.setCell (q := ⟨g2, 0, none⟩) k2.typed (.bool bb2)).setCell (q := ⟨g2, 1, none⟩) (k2.typed.setCell _ _) (.slice A2 p2 d2)
                have hB_ := (hB.setCell (p := ⟨g2, 0, none⟩) hg2 (.bool bb2)).setCell (p := ⟨g2, 1, none⟩) hg2 (.slice A2 p2 d2)
                clear z0 z1 z2 z3 z4 hB k1 k2 hn1 hn2
                generalize (wn24.setCell ⟨g2, 0, none⟩ (.bool bb2)).setCell ⟨g2, 1, none⟩ (.slice A2 p2 d2) = wn25 at *
                have k1 := k1_
                clear k1_
                have k2 := k2_
                clear k2_
                have hn1 := hn1_
                clear hn1_
                have hn2 := hn2_
                clear hn2_
                have hB := hB_
                clear hB_
                refine hK.out _ _ hB (fun hHeld => ?_)
                clear hK K hHeld
                try simp only [List.getElem_toArray, List.getElem_cons_succ, List.getElem_cons_zero, Act.put, List.setIfInBounds_toArray, List.set_cons_zero, List.set_cons_succ]
                refine wpAnyH_done (by kernel_rfl) ?_ _
                refine NoPanic.normal ?_
                go_wp2_with fail
                go_meet
                exact ⟨_, _, rfl, rfl, _, _, _, _, _, _, _, _, k1, k2, hn1, hn2, hB⟩
              · go_simp
                have k1_ := Blk.new wn21 28 #[.bool false, .slice none 0 0]
                have hnx_ := hnx.alloc (.cells #[.bool false, .slice none 0 0] 28)
                have hns_ := hns.alloc (.cells #[.bool false, .slice none 0 0] 28)
                have hnm_ := hnm.alloc (.cells #[.bool false, .slice none 0 0] 28)
                have k2_ := k2.alloc (.cells #[.bool false, .slice none 0 0] 28)
                have hne : g2 < wn21.heap.size := k2.lt
                have hg1 : wr.heap.size ≤ wn21.heap.size := hB.size
                have hB_ := below_alloc hB (Nat.le_refl _) (.cells #[.bool false, .slice none 0 0] 28)
                clear hB hnx hns hnm k2
                generalize wn21.alloc (.cells #[.bool false, .slice none 0 0] 28) = wn26 at *
                generalize wn21.heap.size = g1 at *
                have hnx := hnx_
                clear hnx_
                have hns := hns_
                clear hns_
                have hnm := hnm_
                clear hnm_
                have k2 := k2_
                clear k2_
                have k1 := k1_
                clear k1_
                have hB := hB_
                clear hB_
                refine hK.out _ _ hB (fun hHeld => ?_)
                clear hK K hHeld
                try simp only [List.getElem_toArray, List.getElem_cons_succ, List.getElem_cons_zero, Act.put, List.setIfInBounds_toArray, List.set_cons_zero, List.set_cons_succ]
                refine wpAnyH_ready (rs := [3]) (by kernel_rfl) (by simp) ?_
                refine AllReadyH.cons rfl (fun K hK => ?_) AllReadyH.nil
                go_simp
                refine (HDIV.out _ _ _ _ _ _ _ _ _ hnx hnm HPL.out (num_len hnm (by omega))).mono ?_
                rintro e wn27 ⟨bb1, A1, p1, d1, bb2, A2, p2, d2, rfl, hn1, hn2, hc27⟩
                clear hnx
                clear hnm
                clear hns
                have k2_ := k2.under hc27
                have k1_ := k1.under hc27
                have hB_ := below_two hB hc27
                clear hc27 hB k2 k1
                have k2 := k2_
                clear k2_
                have k1 := k1_
                clear k1_
                have hB := hB_
                clear hB_
                refine hK.out _ _ hB (fun hHeld => ?_)
                clear hK K hHeld
                try simp only [List.getElem_toArray, List.getElem_cons_succ, List.getElem_cons_zero, Act.put, List.setIfInBounds_toArray, List.set_cons_zero, List.set_cons_succ]
                refine wpAnyH_take (i := 4) (v := ?_) rfl (by kernel_rfl) (by kernel_rfl) (by kernel_rfl) (fun _ _ _ h => h) (Or.inl ⟨by rfl, ?_⟩) (by assumption) ?_
                rotate_left
                · intro W hW
                  go_simp
                  try rfl
                simp only [List.getElem_toArray, List.getElem_cons_succ, List.getElem_cons_zero, Act.put, List.setIfInBounds_toArray, List.set_cons_zero, List.set_cons_succ]
                refine wpAnyH_take (i := 5) (v := ?_) rfl (by kernel_rfl) (by kernel_rfl) (by kernel_rfl) (fun _ _ _ h => h) (Or.inl ⟨by rfl, ?_⟩) (by assumption) ?_
                rotate_left
                · intro W hW
                  go_simp
                  try rfl
                simp only [List.getElem_toArray, List.getElem_cons_succ, List.getElem_cons_zero, Act.put, List.setIfInBounds_toArray, List.set_cons_zero, List.set_cons_succ]
                refine wpAnyH_take (i := 6) (v := ?_) rfl (by kernel_rfl) (by kernel_rfl) (by kernel_rfl) (fun _ _ _ h => h) (Or.inl ⟨by rfl, ?_⟩) (by assumption) ?_
                rotate_left
                · intro W hW
                  go_simp
                  try rfl
                simp only [List.getElem_toArray, List.getElem_cons_succ, List.getElem_cons_zero, Act.put, List.setIfInBounds_toArray, List.set_cons_zero, List.set_cons_succ]
                skip
                refine wpAnyH_ready (rs := [9]) (by kernel_rfl) (by simp) ?_
                refine AllReadyH.cons rfl (fun K hK => ?_) AllReadyH.nil
                obtain ⟨z0, z1, z2, z3, z4⟩ := k1.two
                go_simp
                have k1_ := k1.set2 (.bool bb1) (.slice A1 p1 d1)
                have k2_ := (k2.far (p := ⟨g1, 0, none⟩) (by simp; omega) (.bool bb1)).far (p := ⟨g1, 1, none⟩) (by simp; omega) (.slice A1 p1 d1)
                have hn1_ := (hn1.setCell (q := ⟨g1, 0, none⟩) k1.typed (.bool bb1)).setCell (q := ⟨g1, 1, none⟩) (k1.typed.setCell _ _) (.slice A1 p1 d1)
                have hn2_ := (hn2.setCell (q := ⟨g1, 0, none⟩) k1.typed (.bool bb1)).setCell (q := ⟨g1, 1, none⟩) (k1.typed.setCell _ _) (.slice A1 p1 d1)
                have hB_ := (hB.setCell (p := ⟨g1, 0, none⟩) hg1 (.bool bb1)).setCell (p := ⟨g1, 1, none⟩) hg1 (.slice A1 p1 d1)
                clear z0 z1 z2 z3 z4 hB k1 k2 hn1 hn2
                generalize (wn27.setCell ⟨g1, 0, none⟩ (.bool bb1)).setCell ⟨g1, 1, none⟩ (.slice A1 p1 d1) = wn28 at *
                have k1 := k1_
                clear k1_
                have k2 := k2_
                clear k2_
                have hn1 := hn1_
                clear hn1_
                have hn2 := hn2_
                clear hn2_
                have hB := hB_
                clear hB_
                refine hK.out _ _ hB (fun hHeld => ?_)
                clear hK K hHeld
                try simp only [List.getElem_toArray, List.getElem_cons_succ, List.getElem_cons_zero, Act.put, List.setIfInBounds_toArray, List.set_cons_zero, List.set_cons_succ]
                refine wpAnyH_ready (rs := [10]) (by kernel_rfl) (by simp) ?_
                refine AllReadyH.cons rfl (fun K hK => ?_) AllReadyH.nil
                obtain ⟨z0, z1, z2, z3, z4⟩ := k2.two
                go_simp
                have k2_ := k2.set2 (.bool bb2) (.slice A2 p2 d2)
                have k1_ := (k1.far (p := ⟨g2, 0, none⟩) (by simp; omega) (.bool bb2)).far (p := ⟨g2, 1, none⟩) (by simp; omega) (.slice A2 p2 d2)
                have hn1_ := (hn1.setCell (q := ⟨g2, 0, none⟩) k2.typed (.bool bb2)).setCell (q := ⟨g2, 1, none⟩) (k2.typed.setCell _ _) (.slice A2 p2 d2)
                have hn2_ := (hn2.setCell (q := ⟨g2, 0, none⟩) k2.typed (.bool bb2)).setCell (q := ⟨g2, 1, none⟩) (k2.typed.setCell _ _) (.slice A2 p2 d2)
                have hB_ := (hB.setCell (p := ⟨g2, 0, none⟩) hg2 (.bool bb2)).setCell (p := ⟨g2, 1, none⟩) hg2 (.slice A2 p2 d2)
                clear z0 z1 z2 z3 z4 hB k1 k2 hn1 hn2
                generalize (wn28.setCell ⟨g2, 0, none⟩ (.bool bb2)).setCell ⟨g2, 1, none⟩ (.slice A2 p2 d2) = wn29 at *
                have k1 := k1_
                clear k1_
                have k2 := k2_
                clear k2_
                have hn1 := hn1_
                clear hn1_
                have hn2 := hn2_
                clear hn2_
                have hB := hB_
                clear hB_
                refine hK.out _ _ hB (fun hHeld => ?_)
                clear hK K hHeld
                try simp only [List.getElem_toArray, List.getElem_cons_succ, List.getElem_cons_zero, Act.put, List.setIfInBounds_toArray, List.set_cons_zero, List.set_cons_succ]
                refine wpAnyH_done (by kernel_rfl) ?_ _
                refine NoPanic.normal ?_
                go_wp2_with fail
                go_meet
                exact ⟨_, _, rfl, rfl, _, _, _, _, _, _, _, _, k1, k2, hn1, hn2, hB⟩
          · go_simp
            have k1_ := Blk.new wn1 28 #[.bool false, .slice none 0 0]
            have hnx_ := hnx.alloc (.cells #[.bool false, .slice none 0 0] 28)
            have hns_ := hns.alloc (.cells #[.bool false, .slice none 0 0] 28)
            have hg1 : wr.heap.size ≤ wn1.heap.size := hB.size
            have hB_ := below_alloc hB (Nat.le_refl _) (.cells #[.bool false, .slice none 0 0] 28)
            clear hB hnx hns
            generalize wn1.alloc (.cells #[.bool false, .slice none 0 0] 28) = wn30 at *
            generalize wn1.heap.size = g1 at *
            have hnx := hnx_
            clear hnx_
            have hns := hns_
            clear hns_
            have k1 := k1_
            clear k1_
            have hB := hB_
            clear hB_
            refine hK.out _ _ hB (fun hHeld => ?_)
            clear hK K hHeld
            try simp only [List.getElem_toArray, List.getElem_cons_succ, List.getElem_cons_zero, Act.put, List.setIfInBounds_toArray, List.set_cons_zero, List.set_cons_succ]
            refine wpAnyH_ready (rs := [2, 8]) (by kernel_rfl) (by simp) ?_
            refine AllReadyH.cons rfl (fun K hK => ?_) (AllReadyH.cons rfl (fun K hK => ?_) AllReadyH.nil)
            · go_simp
              refine (made_f (x := ((10 : Nat) : Int)) hns rfl).mono ?_
              rintro e wn31 ⟨bm, Am, pm, dm, rfl, hnm, hc31⟩
              have hnx_ := hnx.below hc31
              have hns_ := hns.below hc31
              have k1_ := k1.under hc31
              have hB_ := below_two hB hc31
              clear hc31 hB hnx hns k1
              have hnx := hnx_
              clear hnx_
              have hns := hns_
              clear hns_
              have k1 := k1_
              clear k1_
              have hB := hB_
              clear hB_
              refine hK.out _ _ hB (fun hHeld => ?_)
              clear hK K hHeld
              try simp only [List.getElem_toArray, List.getElem_cons_succ, List.getElem_cons_zero, Act.put, List.setIfInBounds_toArray, List.set_cons_zero, List.set_cons_succ]
              refine wpAnyH_ready (rs := [3, 8]) (by kernel_rfl) (by simp) ?_
              refine AllReadyH.cons rfl (fun K hK => ?_) (AllReadyH.cons rfl (fun K hK => ?_) AllReadyH.nil)
              · go_simp
                refine (HDIV.out _ _ _ _ _ _ _ _ _ hnx hnm HPL.out (num_len hnm (by omega))).mono ?_
                rintro e wn32 ⟨bb1, A1, p1, d1, bb2, A2, p2, d2, rfl, hn1, hn2, hc32⟩
                clear hnx
                clear hnm
                clear hns
                have k1_ := k1.under hc32
                have hB_ := below_two hB hc32
                clear hc32 hB k1
                have k1 := k1_
                clear k1_
                have hB := hB_
                clear hB_
                refine hK.out _ _ hB (fun hHeld => ?_)
                clear hK K hHeld
                try simp only [List.getElem_toArray, List.getElem_cons_succ, List.getElem_cons_zero, Act.put, List.setIfInBounds_toArray, List.set_cons_zero, List.set_cons_succ]
                refine wpAnyH_take (i := 4) (v := ?_) rfl (by kernel_rfl) (by kernel_rfl) (by kernel_rfl) (fun _ _ _ h => h) (Or.inl ⟨by rfl, ?_⟩) (by assumption) ?_
                rotate_left
                · intro W hW
                  go_simp
                  try rfl
                simp only [List.getElem_toArray, List.getElem_cons_succ, List.getElem_cons_zero, Act.put, List.setIfInBounds_toArray, List.set_cons_zero, List.set_cons_succ]
                refine wpAnyH_take (i := 5) (v := ?_) rfl (by kernel_rfl) (by kernel_rfl) (by kernel_rfl) (fun _ _ _ h => h) (Or.inl ⟨by rfl, ?_⟩) (by assumption) ?_
                rotate_left
                · intro W hW
                  go_simp
                  try rfl
                simp only [List.getElem_toArray, List.getElem_cons_succ, List.getElem_cons_zero, Act.put, List.setIfInBounds_toArray, List.set_cons_zero, List.set_cons_succ]
                refine wpAnyH_take (i := 6) (v := ?_) rfl (by kernel_rfl) (by kernel_rfl) (by kernel_rfl) (fun _ _ _ h => h) (Or.inl ⟨by rfl, ?_⟩) (by assumption) ?_
                rotate_left
                · intro W hW
                  go_simp
                  try rfl
                simp only [List.getElem_toArray, List.getElem_cons_succ, List.getElem_cons_zero, Act.put, List.setIfInBounds_toArray, List.set_cons_zero, List.set_cons_succ]
                skip
                refine wpAnyH_ready (rs := [8]) (by kernel_rfl) (by simp) ?_
                refine AllReadyH.cons rfl (fun K hK => ?_) AllReadyH.nil
                go_simp
                have k2_ := Blk.new wn32 28 #[.bool false, .slice none 0 0]
                have k1_ := k1.alloc (.cells #[.bool false, .slice none 0 0] 28)
                have hn1_ := hn1.alloc (.cells #[.bool false, .slice none 0 0] 28)
                have hn2_ := hn2.alloc (.cells #[.bool false, .slice none 0 0] 28)
                have hne : g1 < wn32.heap.size := k1.lt
                have hg2 : wr.heap.size ≤ wn32.heap.size := hB.size
                have hB_ := below_alloc hB (Nat.le_refl _) (.cells #[.bool false, .slice none 0 0] 28)
                clear hB k1 hn1 hn2
                generalize wn32.alloc (.cells #[.bool false, .slice none 0 0] 28) = wn33 at *
                generalize wn32.heap.size = g2 at *
                have k1 := k1_
                clear k1_
                have hn1 := hn1_
                clear hn1_
                have hn2 := hn2_
                clear hn2_
                have k2 := k2_
                clear k2_
                have hB := hB_
                clear hB_
                refine hK.out _ _ hB (fun hHeld => ?_)
                clear hK K hHeld
                try simp only [List.getElem_toArray, List.getElem_cons_succ, List.getElem_cons_zero, Act.put, List.setIfInBounds_toArray, List.set_cons_zero, List.set_cons_succ]
                refine wpAnyH_ready (rs := [9]) (by kernel_rfl) (by simp) ?_
                refine AllReadyH.cons rfl (fun K hK => ?_) AllReadyH.nil
                obtain ⟨z0, z1, z2, z3, z4⟩ := k1.two
                go_simp
                have k1_ := k1.set2 (.bool bb1) (.slice A1 p1 d1)
                have k2_ := (k2.far (p := ⟨g1, 0, none⟩) (by simp; omega) (.bool bb1)).far (p := ⟨g1, 1, none⟩) (by simp; omega) (.slice A1 p1 d1)
                have hn1_ := (hn1.setCell (q := ⟨g1, 0, none⟩) k1.typed (.bool bb1)).setCell (q := ⟨g1, 1, none⟩) (k1.typed.setCell _ _) (.slice A1 p1 d1)
                have hn2_ := (hn2.setCell (q := ⟨g1, 0, none⟩) k1.typed (.bool bb1)).setCell (q := ⟨g1, 1, none⟩) (k1.typed.setCell _ _) (.slice A1 p1 d1)
                have hB_ := (hB.setCell (p := ⟨g1, 0, none⟩) hg1 (.bool bb1)).setCell (p := ⟨g1, 1, none⟩) hg1 (.slice A1 p1 d1)
                clear z0 z1 z2 z3 z4 hB k1 k2 hn1 hn2
                generalize (wn33.setCell ⟨g1, 0, none⟩ (.bool bb1)).setCell ⟨g1, 1, none⟩ (.slice A1 p1 d1) = wn34 at *
                have k1 := k1_
                clear k1_
                have k2 := k2_
                clear k2_
                have hn1 := hn1_
                clear hn1_
                have hn2 := hn2_
                clear hn2_
                have hB := hB_
                clear hB_
                refine hK.out _ _ hB (fun hHeld => ?_)
                clear hK K hHeld
                try simp only [List.getElem_toArray, List.getElem_cons_succ, List.getElem_cons_zero, Act.put, List.setIfInBounds_toArray, List.set_cons_zero, List.set_cons_succ]
                refine wpAnyH_ready (rs := [10]) (by kernel_rfl) (by simp) ?_
                refine AllReadyH.cons rfl (fun K hK => ?_) AllReadyH.nil
                obtain ⟨z0, z1, z2, z3, z4⟩ := k2.two
                go_simp
                have k2_ := k2.set2 (.bool bb2) (.slice A2 p2 d2)
                have k1_ := (k1.far (p := ⟨g2, 0, none⟩) (by simp; omega) (.bool bb2)).far (p := ⟨g2, 1, none⟩) (by simp; omega) (.slice A2 p2 d2)
                have hn1_ := (hn1.setCell (q := ⟨g2, 0, none⟩) k2.typed (.bool bb2)).setCell (q := ⟨g2, 1, none⟩) (k2.typed.setCell _ _) (.slice A2 p2 d2)
                have hn2_ := (hn2.setCell (q := ⟨g2, 0, none⟩) k2.typed (.bool bb2)).setCell (q := ⟨g2, 1, none⟩) (k2.typed.setCell _ _) (.slice A2 p2 d2)
                have hB_ := (hB.setCell (p := ⟨g2, 0, none⟩) hg2 (.bool bb2)).setCell (p := ⟨g2, 1, none⟩) hg2 (.slice A2 p2 d2)
                clear z0 z1 z2 z3 z4 hB k1 k2 hn1 hn2
                generalize (wn34.setCell ⟨g2, 0, none⟩ (.bool bb2)).setCell ⟨g2, 1, none⟩ (.slice A2 p2 d2) = wn35 at *
                have k1 := k1_
                clear k1_
                have k2 := k2_
                clear k2_
                have hn1 := hn1_
                clear hn1_
                have hn2 := hn2_
                clear hn2_
                have hB := hB_
                clear hB_
                refine hK.out _ _ hB (fun hHeld => ?_)
                clear hK K hHeld
                try simp only [List.getElem_toArray, List.getElem_cons_succ, List.getElem_cons_zero, Act.put, List.setIfInBounds_toArray, List.set_cons_zero, List.set_cons_succ]
                refine wpAnyH_done (by kernel_rfl) ?_ _
                refine NoPanic.normal ?_
                go_wp2_with fail
                go_meet
                exact ⟨_, _, rfl, rfl, _, _, _, _, _, _, _, _, k1, k2, hn1, hn2, hB⟩
              · go_simp
                have k2_ := Blk.new wn31 28 #[.bool false, .slice none 0 0]
                have hnx_ := hnx.alloc (.cells #[.bool false, .slice none 0 0] 28)
                have hns_ := hns.alloc (.cells #[.bool false, .slice none 0 0] 28)
                have k1_ := k1.alloc (.cells #[.bool false, .slice none 0 0] 28)
                have hnm_ := hnm.alloc (.cells #[.bool false, .slice none 0 0] 28)
                have hne : g1 < wn31.heap.size := k1.lt
                have hg2 : wr.heap.size ≤ wn31.heap.size := hB.size
                have hB_ := below_alloc hB (Nat.le_refl _) (.cells #[.bool false, .slice none 0 0] 28)
                clear hB hnx hns k1 hnm
                generalize wn31.alloc (.cells #[.bool false, .slice none 0 0] 28) = wn36 at *
                generalize wn31.heap.size = g2 at *
                have hnx := hnx_
                clear hnx_
                have hns := hns_
                clear hns_
                have k1 := k1_
                clear k1_
                have hnm := hnm_
                clear hnm_
                have k2 := k2_
                clear k2_
                have hB := hB_
                clear hB_
                refine hK.out _ _ hB (fun hHeld => ?_)
                clear hK K hHeld
                try simp only [List.getElem_toArray, List.getElem_cons_succ, List.getElem_cons_zero, Act.put, List.setIfInBounds_toArray, List.set_cons_zero, List.set_cons_succ]
                refine wpAnyH_ready (rs := [3]) (by kernel_rfl) (by simp) ?_
                refine AllReadyH.cons rfl (fun K hK => ?_) AllReadyH.nil
                go_simp
                refine (HDIV.out _ _ _ _ _ _ _ _ _ hnx hnm HPL.out (num_len hnm (by omega))).mono ?_
                rintro e wn37 ⟨bb1, A1, p1, d1, bb2, A2, p2, d2, rfl, hn1, hn2, hc37⟩
                clear hnx
                clear hnm
                clear hns
                have k1_ := k1.under hc37
                have k2_ := k2.under hc37
                have hB_ := below_two hB hc37
                clear hc37 hB k1 k2
                have k1 := k1_
                clear k1_
                have k2 := k2_
                clear k2_
                have hB := hB_
                clear hB_
                refine hK.out _ _ hB (fun hHeld => ?_)
                clear hK K hHeld
                try simp only [List.getElem_toArray, List.getElem_cons_succ, List.getElem_cons_zero, Act.put, List.setIfInBounds_toArray, List.set_cons_zero, List.set_cons_succ]
                refine wpAnyH_take (i := 4) (v := ?_) rfl (by kernel_rfl) (by kernel_rfl) (by kernel_rfl) (fun _ _ _ h => h) (Or.inl ⟨by rfl, ?_⟩) (by assumption) ?_
                rotate_left
                · intro W hW
                  go_simp
                  try rfl
                simp only [List.getElem_toArray, List.getElem_cons_succ, List.getElem_cons_zero, Act.put, List.setIfInBounds_toArray, List.set_cons_zero, List.set_cons_succ]
                refine wpAnyH_take (i := 5) (v := ?_) rfl (by kernel_rfl) (by kernel_rfl) (by kernel_rfl) (fun _ _ _ h => h) (Or.inl ⟨by rfl, ?_⟩) (by assumption) ?_
                rotate_left
                · intro W hW
                  go_simp
                  try rfl
                simp only [List.getElem_toArray, List.getElem_cons_succ, List.getElem_cons_zero, Act.put, List.setIfInBounds_toArray, List.set_cons_zero, List.set_cons_succ]
                refine wpAnyH_take (i := 6) (v := ?_) rfl (by kernel_rfl) (by kernel_rfl) (by kernel_rfl) (fun _ _ _ h => h) (Or.inl ⟨by rfl, ?_⟩) (by assumption) ?_
                rotate_left
                · intro W hW
                  go_simp
                  try rfl
                simp only [List.getElem_toArray, List.getElem_cons_succ, List.getElem_cons_zero, Act.put, List.setIfInBounds_toArray, List.set_cons_zero, List.set_cons_succ]
                skip
                refine wpAnyH_ready (rs := [9]) (by kernel_rfl) (by simp) ?_
                refine AllReadyH.cons rfl (fun K hK => ?_) AllReadyH.nil
                obtain ⟨z0, z1, z2, z3, z4⟩ := k1.two
                go_simp
                have k1_ := k1.set2 (.bool bb1) (.slice A1 p1 d1)
                have k2_ := (k2.far (p := ⟨g1, 0, none⟩) (by simp; omega) (.bool bb1)).far (p := ⟨g1, 1, none⟩) (by simp; omega) (.slice A1 p1 d1)
                have hn1_ := (hn1.setCell (q := ⟨g1, 0, none⟩) k1.typed (.bool bb1)).setCell (q := ⟨g1, 1, none⟩) (k1.typed.setCell _ _) (.slice A1 p1 d1)
                have hn2_ := (hn2.setCell (q := ⟨g1, 0, none⟩) k1.typed (.bool bb1)).setCell (q := ⟨g1, 1, none⟩) (k1.typed.setCell _ _) (.slice A1 p1 d1)
                have hB_ := (hB.setCell (p := ⟨g1, 0, none⟩) hg1 (.bool bb1)).setCell (p := ⟨g1, 1, none⟩) hg1 (.slice A1 p1 d1)
                clear z0 z1 z2 z3 z4 hB k1 k2 hn1 hn2
                generalize (wn37.setCell ⟨g1, 0, none⟩ (.bool bb1)).setCell ⟨g1, 1, none⟩ (.slice A1 p1 d1) = wn38 at *
                have k1 := k1_
                clear k1_
                have k2 := k2_
                clear k2_
                have hn1 := hn1_
                clear hn1_
                have hn2 := hn2_
                clear hn2_
                have hB := hB_
                clear hB_
                refine hK.out _ _ hB (fun hHeld => ?_)
                clear hK K hHeld
                try simp only [List.getElem_toArray, List.getElem_cons_succ, List.getElem_cons_zero, Act.put, List.setIfInBounds_toArray, List.set_cons_zero, List.set_cons_succ]
                refine wpAnyH_ready (rs := [10]) (by kernel_rfl) (by simp) ?_
                refine AllReadyH.cons rfl (fun K hK => ?_) AllReadyH.nil
                obtain ⟨z0, z1, z2, z3, z4⟩ := k2.two
                go_simp
                have k2_ := k2.set2 (.bool bb2) (.slice A2 p2 d2)
                have k1_ := (k1.far (p := ⟨g2, 0, none⟩) (by simp; omega) (.bool bb2)).far (p := ⟨g2, 1, none⟩) (by simp; omega) (.slice A2 p2 d2)
                have hn1_ := (hn1.setCell (q := ⟨g2, 0, none⟩) k2.typed (.bool bb2)).setCell (q := ⟨g2, 1, none⟩) (k2.typed.setCell _ _) (.slice A2 p2 d2)
                have hn2_ := (hn2.setCell (q := ⟨g2, 0, none⟩) k2.typed (.bool bb2)).setCell (q := ⟨g2, 1, none⟩) (k2.typed.setCell _ _) (.slice A2 p2 d2)
                have hB_ := (hB.setCell (p := ⟨g2, 0, none⟩) hg2 (.bool bb2)).setCell (p := ⟨g2, 1, none⟩) hg2 (.slice A2 p2 d2)
                clear z0 z1 z2 z3 z4 hB k1 k2 hn1 hn2
                generalize (wn38.setCell ⟨g2, 0, none⟩ (.bool bb2)).setCell ⟨g2, 1, none⟩ (.slice A2 p2 d2) = wn39 at *
                have k1 := k1_
                clear k1_
                have k2 := k2_
                clear k2_
                have hn1 := hn1_
                clear hn1_
                have hn2 := hn2_
                clear hn2_
                have hB := hB_
                clear hB_
                refine hK.out _ _ hB (fun hHeld => ?_)
                clear hK K hHeld
                try simp only [List.getElem_toArray, List.getElem_cons_succ, List.getElem_cons_zero, Act.put, List.setIfInBounds_toArray, List.set_cons_zero, List.set_cons_succ]
                refine wpAnyH_done (by kernel_rfl) ?_ _
                refine NoPanic.normal ?_
                go_wp2_with fail
                go_meet
                exact ⟨_, _, rfl, rfl, _, _, _, _, _, _, _, _, k1, k2, hn1, hn2, hB⟩
            · go_simp
              have k2_ := Blk.new wn30 28 #[.bool false, .slice none 0 0]
              have hnx_ := hnx.alloc (.cells #[.bool false, .slice none 0 0] 28)
              have hns_ := hns.alloc (.cells #[.bool false, .slice none 0 0] 28)
              have k1_ := k1.alloc (.cells #[.bool false, .slice none 0 0] 28)
              have hne : g1 < wn30.heap.size := k1.lt
              have hg2 : wr.heap.size ≤ wn30.heap.size := hB.size
              have hB_ := below_alloc hB (Nat.le_refl _) (.cells #[.bool false, .slice none 0 0] 28)
              clear hB hnx hns k1
              generalize wn30.alloc (.cells #[.bool false, .slice none 0 0] 28) = wn40 at *
              generalize wn30.heap.size = g2 at *
              have hnx := hnx_
              clear hnx_
              have hns := hns_
              clear hns_
              have k1 := k1_
              clear k1_
              have k2 := k2_
              clear k2_
              have hB := hB_
              clear hB_
              refine hK.out _ _ hB (fun hHeld => ?_)
              clear hK K hHeld
              try simp only [List.getElem_toArray, List.getElem_cons_succ, List.getElem_cons_zero, Act.put, List.setIfInBounds_toArray, List.set_cons_zero, List.set_cons_succ]
              refine wpAnyH_ready (rs := [2]) (by kernel_rfl) (by simp) ?_
              refine AllReadyH.cons rfl (fun K hK => ?_) AllReadyH.nil
              go_simp
              refine (made_f (x := ((10 : Nat) : Int)) hns rfl).mono ?_
              rintro e wn41 ⟨bm, Am, pm, dm, rfl, hnm, hc41⟩
              have hnx_ := hnx.below hc41
              have hns_ := hns.below hc41
              have k1_ := k1.under hc41
              have k2_ := k2.under hc41
              have hB_ := below_two hB hc41
              clear hc41 hB hnx hns k1 k2
              have hnx := hnx_
              clear hnx_
              have hns := hns_
              clear hns_
              have k1 := k1_
              clear k1_
              have k2 := k2_
              clear k2_
              have hB := hB_
              clear hB_
              refine hK.out _ _ hB (fun hHeld => ?_)
              clear hK K hHeld
              try simp only [List.getElem_toArray, List.getElem_cons_succ, List.getElem_cons_zero, Act.put, List.setIfInBounds_toArray, List.set_cons_zero, List.set_cons_succ]
              refine wpAnyH_ready (rs := [3]) (by kernel_rfl) (by simp) ?_
              refine AllReadyH.cons rfl (fun K hK => ?_) AllReadyH.nil
              go_simp
              refine (HDIV.out _ _ _ _ _ _ _ _ _ hnx hnm HPL.out (num_len hnm (by omega))).mono ?_
              rintro e wn42 ⟨bb1, A1, p1, d1, bb2, A2, p2, d2, rfl, hn1, hn2, hc42⟩
              clear hnx
              clear hnm
              clear hns
              have k1_ := k1.under hc42
              have k2_ := k2.under hc42
              have hB_ := below_two hB hc42
              clear hc42 hB k1 k2
              have k1 := k1_
              clear k1_
              have k2 := k2_
              clear k2_
              have hB := hB_
              clear hB_
              refine hK.out _ _ hB (fun hHeld => ?_)
              clear hK K hHeld
              try simp only [List.getElem_toArray, List.getElem_cons_succ, List.getElem_cons_zero, Act.put, List.setIfInBounds_toArray, List.set_cons_zero, List.set_cons_succ]
              refine wpAnyH_take (i := 4) (v := ?_) rfl (by kernel_rfl) (by kernel_rfl) (by kernel_rfl) (fun _ _ _ h => h) (Or.inl ⟨by rfl, ?_⟩) (by assumption) ?_
              rotate_left
              · intro W hW
                go_simp
                try rfl
              simp only [List.getElem_toArray, List.getElem_cons_succ, List.getElem_cons_zero, Act.put, List.setIfInBounds_toArray, List.set_cons_zero, List.set_cons_succ]
              refine wpAnyH_take (i := 5) (v := ?_) rfl (by kernel_rfl) (by kernel_rfl) (by kernel_rfl) (fun _ _ _ h => h) (Or.inl ⟨by rfl, ?_⟩) (by assumption) ?_
              rotate_left
              · intro W hW
                go_simp
                try rfl
              simp only [List.getElem_toArray, List.getElem_cons_succ, List.getElem_cons_zero, Act.put, List.setIfInBounds_toArray, List.set_cons_zero, List.set_cons_succ]
              refine wpAnyH_take (i := 6) (v := ?_) rfl (by kernel_rfl) (by kernel_rfl) (by kernel_rfl) (fun _ _ _ h => h) (Or.inl ⟨by rfl, ?_⟩) (by assumption) ?_
              rotate_left
              · intro W hW
                go_simp
                try rfl
              simp only [List.getElem_toArray, List.getElem_cons_succ, List.getElem_cons_zero, Act.put, List.setIfInBounds_toArray, List.set_cons_zero, List.set_cons_succ]
              skip
              refine wpAnyH_ready (rs := [9]) (by kernel_rfl) (by simp) ?_
              refine AllReadyH.cons rfl (fun K hK => ?_) AllReadyH.nil
              obtain ⟨z0, z1, z2, z3, z4⟩ := k1.two
              go_simp
              have k1_ := k1.set2 (.bool bb1) (.slice A1 p1 d1)
              have k2_ := (k2.far (p := ⟨g1, 0, none⟩) (by simp; omega) (.bool bb1)).far (p := ⟨g1, 1, none⟩) (by simp; omega) (.slice A1 p1 d1)
              have hn1_ := (hn1.setCell (q := ⟨g1, 0, none⟩) k1.typed (.bool bb1)).setCell (q := ⟨g1, 1, none⟩) (k1.typed.setCell _ _) (.slice A1 p1 d1)
              have hn2_ := (hn2.setCell (q := ⟨g1, 0, none⟩) k1.typed (.bool bb1)).setCell (q := ⟨g1, 1, none⟩) (k1.typed.setCell _ _) (.slice A1 p1 d1)
              have hB_ := (hB.setCell (p := ⟨g1, 0, none⟩) hg1 (.bool bb1)).setCell (p := ⟨g1, 1, none⟩) hg1 (.slice A1 p1 d1)
              clear z0 z1 z2 z3 z4 hB k1 k2 hn1 hn2
              generalize (wn42.setCell ⟨g1, 0, none⟩ (.bool bb1)).setCell ⟨g1, 1, none⟩ (.slice A1 p1 d1) = wn43 at *
              have k1 := k1_
              clear k1_
              have k2 := k2_
              clear k2_
              have hn1 := hn1_
              clear hn1_
              have hn2 := hn2_
              clear hn2_
              have hB := hB_
              clear hB_
              refine hK.out _ _ hB (fun hHeld => ?_)
              clear hK K hHeld
              try simp only [List.getElem_toArray, List.getElem_cons_succ, List.getElem_cons_zero, Act.put, List.setIfInBounds_toArray, List.set_cons_zero, List.set_cons_succ]
              refine wpAnyH_ready (rs := [10]) (by kernel_rfl) (by simp) ?_
              refine AllReadyH.cons rfl (fun K hK => ?_) AllReadyH.nil
              obtain ⟨z0, z1, z2, z3, z4⟩ := k2.two
              go_simp
              have k2_ := k2.set2 (.bool bb2) (.slice A2 p2 d2)
              have k1_ := (k1.far (p := ⟨g2, 0, none⟩) (by simp; omega) (.bool bb2)).far (p := ⟨g2, 1, none⟩) (by simp; omega) (.slice A2 p2 d2)
              have hn1_ := (hn1.setCell (q := ⟨g2, 0, none⟩) k2.typed (.bool bb2)).setCell (q := ⟨g2, 1, none⟩) (k2.typed.setCell _ _) (.slice A2 p2 d2)
              have hn2_ := (hn2.setCell (q := ⟨g2, 0, none⟩) k2.typed (.bool bb2)).setCell (q := ⟨g2, 1, none⟩) (k2.typed.setCell _ _) (.slice A2 p2 d2)
              have hB_ := (hB.setCell (p := ⟨g2, 0, none⟩) hg2 (.bool bb2)).setCell (p := ⟨g2, 1, none⟩) hg2 (.slice A2 p2 d2)
              clear z0 z1 z2 z3 z4 hB k1 k2 hn1 hn2
              generalize (wn43.setCell ⟨g2, 0, none⟩ (.bool bb2)).setCell ⟨g2, 1, none⟩ (.slice A2 p2 d2) = wn44 at *
              have k1 := k1_
              clear k1_
              have k2 := k2_
              clear k2_
              have hn1 := hn1_
              clear hn1_
              have hn2 := hn2_
              clear hn2_
              have hB := hB_
              clear hB_
              refine hK.out _ _ hB (fun hHeld => ?_)
              clear hK K hHeld
              try simp only [List.getElem_toArray, List.getElem_cons_succ, List.getElem_cons_zero, Act.put, List.setIfInBounds_toArray, List.set_cons_zero, List.set_cons_succ]
              refine wpAnyH_done (by kernel_rfl) ?_ _
              refine NoPanic.normal ?_
              go_wp2_with fail
              go_meet
              exact ⟨_, _, rfl, rfl, _, _, _, _, _, _, _, _, k1, k2, hn1, hn2, hB⟩
          · go_simp
            have k2_ := Blk.new wn1 28 #[.bool false, .slice none 0 0]
            have hnx_ := hnx.alloc (.cells #[.bool false, .slice none 0 0] 28)
            have hns_ := hns.alloc (.cells #[.bool false, .slice none 0 0] 28)
            have hg2 : wr.heap.size ≤ wn1.heap.size := hB.size
            have hB_ := below_alloc hB (Nat.le_refl _) (.cells #[.bool false, .slice none 0 0] 28)
            clear hB hnx hns
            generalize wn1.alloc (.cells #[.bool false, .slice none 0 0] 28) = wn45 at *
            generalize wn1.heap.size = g2 at *
            have hnx := hnx_
            clear hnx_
            have hns := hns_
            clear hns_
            have k2 := k2_
            clear k2_
            have hB := hB_
            clear hB_
            refine hK.out _ _ hB (fun hHeld => ?_)
            clear hK K hHeld
            try simp only [List.getElem_toArray, List.getElem_cons_succ, List.getElem_cons_zero, Act.put, List.setIfInBounds_toArray, List.set_cons_zero, List.set_cons_succ]
            refine wpAnyH_ready (rs := [2, 7]) (by kernel_rfl) (by simp) ?_
            refine AllReadyH.cons rfl (fun K hK => ?_) (AllReadyH.cons rfl (fun K hK => ?_) AllReadyH.nil)
            · go_simp
              refine (made_f (x := ((10 : Nat) : Int)) hns rfl).mono ?_
              rintro e wn46 ⟨bm, Am, pm, dm, rfl, hnm, hc46⟩
              have hnx_ := hnx.below hc46
              have hns_ := hns.below hc46
              have k2_ := k2.under hc46
              have hB_ := below_two hB hc46
              clear hc46 hB hnx hns k2
              have hnx := hnx_
              clear hnx_
              have hns := hns_
              clear hns_
              have k2 := k2_
              clear k2_
              have hB := hB_
              clear hB_
              refine hK.out _ _ hB (fun hHeld => ?_)
              clear hK K hHeld
              try simp only [List.getElem_toArray, List.getElem_cons_succ, List.getElem_cons_zero, Act.put, List.setIfInBounds_toArray, List.set_cons_zero, List.set_cons_succ]
              refine wpAnyH_ready (rs := [3, 7]) (by kernel_rfl) (by simp) ?_
              refine AllReadyH.cons rfl (fun K hK => ?_) (AllReadyH.cons rfl (fun K hK => ?_) AllReadyH.nil)
              · go_simp
                refine (HDIV.out _ _ _ _ _ _ _ _ _ hnx hnm HPL.out (num_len hnm (by omega))).mono ?_
                rintro e wn47 ⟨bb1, A1, p1, d1, bb2, A2, p2, d2, rfl, hn1, hn2, hc47⟩
                clear hnx
                clear hnm
                clear hns
                have k2_ := k2.under hc47
                have hB_ := below_two hB hc47
                clear hc47 hB k2
                have k2 := k2_
                clear k2_
                have hB := hB_
                clear hB_
                refine hK.out _ _ hB (fun hHeld => ?_)
                clear hK K hHeld
                try simp only [List.getElem_toArray, List.getElem_cons_succ, List.getElem_cons_zero, Act.put, List.setIfInBounds_toArray, List.set_cons_zero, List.set_cons_succ]
                refine wpAnyH_take (i := 4) (v := ?_) rfl (by kernel_rfl) (by kernel_rfl) (by kernel_rfl) (fun _ _ _ h => h) (Or.inl ⟨by rfl, ?_⟩) (by assumption) ?_
                rotate_left
                · intro W hW
                  go_simp
                  try rfl
                simp only [List.getElem_toArray, List.getElem_cons_succ, List.getElem_cons_zero, Act.put, List.setIfInBounds_toArray, List.set_cons_zero, List.set_cons_succ]
                refine wpAnyH_take (i := 5) (v := ?_) rfl (by kernel_rfl) (by kernel_rfl) (by kernel_rfl) (fun _ _ _ h => h) (Or.inl ⟨by rfl, ?_⟩) (by assumption) ?_
                rotate_left
                · intro W hW
                  go_simp
                  try rfl
                simp only [List.getElem_toArray, List.getElem_cons_succ, List.getElem_cons_zero, Act.put, List.setIfInBounds_toArray, List.set_cons_zero, List.set_cons_succ]
                refine wpAnyH_take (i := 6) (v := ?_) rfl (by kernel_rfl) (by kernel_rfl) (by kernel_rfl) (fun _ _ _ h => h) (Or.inl ⟨by rfl, ?_⟩) (by assumption) ?_
                rotate_left
                · intro W hW
                  go_simp
                  try rfl
                simp only [List.getElem_toArray, List.getElem_cons_succ, List.getElem_cons_zero, Act.put, List.setIfInBounds_toArray, List.set_cons_zero, List.set_cons_succ]
                skip
                refine wpAnyH_ready (rs := [7]) (by kernel_rfl) (by simp) ?_
                refine AllReadyH.cons rfl (fun K hK => ?_) AllReadyH.nil
                go_simp
                have k1_ := Blk.new wn47 28 #[.bool false, .slice none 0 0]
                have k2_ := k2.alloc (.cells #[.bool false, .slice none 0 0] 28)
                have hn1_ := hn1.alloc (.cells #[.bool false, .slice none 0 0] 28)
                have hn2_ := hn2.alloc (.cells #[.bool false, .slice none 0 0] 28)
                have hne : g2 < wn47.heap.size := k2.lt
                have hg1 : wr.heap.size ≤ wn47.heap.size := hB.size
                have hB_ := below_alloc hB (Nat.le_refl _) (.cells #[.bool false, .slice none 0 0] 28)
                clear hB k2 hn1 hn2
                generalize wn47.alloc (.cells #[.bool false, .slice none 0 0] 28) = wn48 at *
                generalize wn47.heap.size = g1 at *
                have k2 := k2_
                clear k2_
                have hn1 := hn1_
                clear hn1_
                have hn2 := hn2_
                clear hn2_
                have k1 := k1_
                clear k1_
                have hB := hB_
                clear hB_
                refine hK.out _ _ hB (fun hHeld => ?_)
                clear hK K hHeld
                try simp only [List.getElem_toArray, List.getElem_cons_succ, List.getElem_cons_zero, Act.put, List.setIfInBounds_toArray, List.set_cons_zero, List.set_cons_succ]
                refine wpAnyH_ready (rs := [9]) (by kernel_rfl) (by simp) ?_
                refine AllReadyH.cons rfl (fun K hK => ?_) AllReadyH.nil
                obtain ⟨z0, z1, z2, z3, z4⟩ := k1.two
                go_simp
                have k1_ := k1.set2 (.bool bb1) (.slice A1 p1 d1)
                have k2_ := (k2.far (p := ⟨g1, 0, none⟩) (by simp; omega) (.bool bb1)).far (p := ⟨g1, 1, none⟩) (by simp; omega) (.slice A1 p1 d1)
                have hn1_ := (hn1.setCell (q := ⟨g1, 0, none⟩) k1.typed (.bool bb1)).setCell (q := ⟨g1, 1, none⟩) (k1.typed.setCell _ _) (.slice A1 p1 d1)
                have hn2_ := (hn2.setCell (q := ⟨g1, 0, none⟩) k1.typed (.bool bb1)).setCell (q := ⟨g1, 1, none⟩) (k1.typed.setCell _ _) (.slice A1 p1 d1)
                have hB_ := (hB.setCell (p := ⟨g1, 0, none⟩) hg1 (.bool bb1)).setCell (p := ⟨g1, 1, none⟩) hg1 (.slice A1 p1 d1)
                clear z0 z1 z2 z3 z4 hB k1 k2 hn1 hn2
                generalize (wn48.setCell ⟨g1, 0, none⟩ (.bool bb1)).setCell ⟨g1, 1, none⟩ (.slice A1 p1 d1) = wn49 at *
                have k1 := k1_
                clear k1_
                have k2 := k2_
                clear k2_
                have hn1 := hn1_
                clear hn1_
                have hn2 := hn2_
                clear hn2_
                have hB := hB_
                clear hB_
                refine hK.out _ _ hB (fun hHeld => ?_)
                clear hK K hHeld
                try simp only [List.getElem_toArray, List.getElem_cons_succ, List.getElem_cons_zero, Act.put, List.setIfInBounds_toArray, List.set_cons_zero, List.set_cons_succ]
                refine wpAnyH_ready (rs := [10]) (by kernel_rfl) (by simp) ?_
                refine AllReadyH.cons rfl (fun K hK => ?_) AllReadyH.nil
                obtain ⟨z0, z1, z2, z3, z4⟩ := k2.two
                go_simp
                have k2_ := k2.set2 (.bool bb2) (.slice A2 p2 d2)
                have k1_ := (k1.far (p := ⟨g2, 0, none⟩) (by simp; omega) (.bool bb2)).far (p := ⟨g2, 1, none⟩) (by simp; omega) (.slice A2 p2 d2)
                have hn1_ := (hn1.setCell (q := ⟨g2, 0, none⟩) k2.typed (.bool bb2)).setCell (q := ⟨g2, 1, none⟩) (k2.typed.setCell _ _) (.slice A2 p2 d2)
                have hn2_ := (hn2.setCell (q := ⟨g2, 0, none⟩) k2.typed (.bool bb2)).setCell (q := ⟨g2, 1, none⟩) (k2.typed.setCell _ _) (.slice A2 p2 d2)
                have hB_ := (hB.setCell (p := ⟨g2, 0, none⟩) hg2 (.bool bb2)).setCell (p := ⟨g2, 1, none⟩) hg2 (.slice A2 p2 d2)
                clear z0 z1 z2 z3 z4 hB k1 k2 hn1 hn2
                generalize (wn49.setCell ⟨g2, 0, none⟩ (.bool bb2)).setCell ⟨g2, 1, none⟩ (.slice A2 p2 d2) = wn50 at *
                have k1 := k1_
                clear k1_
                have k2 := k2_
                clear k2_
                have hn1 := hn1_
                clear hn1_
                have hn2 := hn2_
                clear hn2_
                have hB := hB_
                clear hB_
                refine hK.out _ _ hB (fun hHeld => ?_)
                clear hK K hHeld
                try simp only [List.getElem_toArray, List.getElem_cons_succ, List.getElem_cons_zero, Act.put, List.setIfInBounds_toArray, List.set_cons_zero, List.set_cons_succ]
                refine wpAnyH_done (by kernel_rfl) ?_ _
                refine NoPanic.normal ?_
                go_wp2_with fail
                go_meet
                exact ⟨_, _, rfl, rfl, _, _, _, _, _, _, _, _, k1, k2, hn1, hn2, hB⟩
              · go_simp
                have k1_ := Blk.new wn46 28 #[.bool false, .slice none 0 0]
                have hnx_ := hnx.alloc (.cells #[.bool false, .slice none 0 0] 28)
                have hns_ := hns.alloc (.cells #[.bool false, .slice none 0 0] 28)
                have k2_ := k2.alloc (.cells #[.bool false, .slice none 0 0] 28)
                have hnm_ := hnm.alloc (.cells #[.bool false, .slice none 0 0] 28)
                have hne : g2 < wn46.heap.size := k2.lt
                have hg1 : wr.heap.size ≤ wn46.heap.size := hB.size
                have hB_ := below_alloc hB (Nat.le_refl _) (.cells #[.bool false, .slice none 0 0] 28)
                clear hB hnx hns k2 hnm
                generalize wn46.alloc (.cells #[.bool false, .slice none 0 0] 28) = wn51 at *
                generalize wn46.heap.size = g1 at *
                have hnx := hnx_
                clear hnx_
                have hns := hns_
                clear hns_
                have k2 := k2_
                clear k2_
                have hnm := hnm_
                clear hnm_
                have k1 := k1_
                clear k1_
                have hB := hB_
                clear hB_
                refine hK.out _ _ hB (fun hHeld => ?_)
                clear hK K hHeld
                try simp only [List.getElem_toArray, List.getElem_cons_succ, List.getElem_cons_zero, Act.put, List.setIfInBounds_toArray, List.set_cons_zero, List.set_cons_succ]
                refine wpAnyH_ready (rs := [3]) (by kernel_rfl) (by simp) ?_
                refine AllReadyH.cons rfl (fun K hK => ?_) AllReadyH.nil
                go_simp
                refine (HDIV.out _ _ _ _ _ _ _ _ _ hnx hnm HPL.out (num_len hnm (by omega))).mono ?_
                rintro e wn52 ⟨bb1, A1, p1, d1, bb2, A2, p2, d2, rfl, hn1, hn2, hc52⟩
                clear hnx
                clear hnm
                clear hns
                have k2_ := k2.under hc52
                have k1_ := k1.under hc52
                have hB_ := below_two hB hc52
                clear hc52 hB k2 k1
                have k2 := k2_
                clear k2_
                have k1 := k1_
                clear k1_
                have hB := hB_
                clear hB_
                refine hK.out _ _ hB (fun hHeld => ?_)
                clear hK K hHeld
                try simp only [List.getElem_toArray, List.getElem_cons_succ, List.getElem_cons_zero, Act.put, List.setIfInBounds_toArray, List.set_cons_zero, List.set_cons_succ]
                refine wpAnyH_take (i := 4) (v := ?_) rfl (by kernel_rfl) (by kernel_rfl) (by kernel_rfl) (fun _ _ _ h => h) (Or.inl ⟨by rfl, ?_⟩) (by assumption) ?_
                rotate_left
                · intro W hW
                  go_simp
                  try rfl
                simp only [List.getElem_toArray, List.getElem_cons_succ, List.getElem_cons_zero, Act.put, List.setIfInBounds_toArray, List.set_cons_zero, List.set_cons_succ]
                refine wpAnyH_take (i := 5) (v := ?_) rfl (by kernel_rfl) (by kernel_rfl) (by kernel_rfl) (fun _ _ _ h => h) (Or.inl ⟨by rfl, ?_⟩) (by assumption) ?_
                rotate_left
                · intro W hW
                  go_simp
                  try rfl
                simp only [List.getElem_toArray, List.getElem_cons_succ, List.getElem_cons_zero, Act.put, List.setIfInBounds_toArray, List.set_cons_zero, List.set_cons_succ]
                refine wpAnyH_take (i := 6) (v := ?_) rfl (by kernel_rfl) (by kernel_rfl) (by kernel_rfl) (fun _ _ _ h => h) (Or.inl ⟨by rfl, ?_⟩) (by assumption) ?_
                rotate_left
                · intro W hW
                  go_simp
                  try rfl
                simp only [List.getElem_toArray, List.getElem_cons_succ, List.getElem_cons_zero, Act.put, List.setIfInBounds_toArray, List.set_cons_zero, List.set_cons_succ]
                skip
                refine wpAnyH_ready (rs := [9]) (by kernel_rfl) (by simp) ?_
                refine AllReadyH.cons rfl (fun K hK => ?_) AllReadyH.nil
                obtain ⟨z0, z1, z2, z3, z4⟩ := k1.two
                go_simp
                have k1_ := k1.set2 (.bool bb1) (.slice A1 p1 d1)
                have k2_ := (k2.far (p := ⟨g1, 0, none⟩) (by simp; omega) (.bool bb1)).far (p := ⟨g1, 1, none⟩) (by simp; omega) (.slice A1 p1 d1)
                have hn1_ := (hn1.setCell (q := ⟨g1, 0, none⟩) k1.typed (.bool bb1)).setCell (q := ⟨g1, 1, none⟩) (k1.typed.setCell _ _) (.slice A1 p1 d1)
                have hn2_ := (hn2.setCell (q := ⟨g1, 0, none⟩) k1.typed (.bool bb1)).setCell (q := ⟨g1, 1, none⟩) (k1.typed.setCell _ _) (.slice A1 p1 d1)
                have hB_ := (hB.setCell (p := ⟨g1, 0, none⟩) hg1 (.bool bb1)).setCell (p := ⟨g1, 1, none⟩) hg1 (.slice A1 p1 d1)
                clear z0 z1 z2 z3 z4 hB k1 k2 hn1 hn2
                generalize (wn52.setCell ⟨g1, 0, none⟩ (.bool bb1)).setCell ⟨g1, 1, none⟩ (.slice A1 p1 d1) = wn53 at *
                have k1 := k1_
                clear k1_
                have k2 := k2_
                clear k2_
                have hn1 := hn1_
                clear hn1_
                have hn2 := hn2_
                clear hn2_
                have hB := hB_
                clear hB_
                refine hK.out _ _ hB (fun hHeld => ?_)
                clear hK K hHeld
                try simp only [List.getElem_toArray, List.getElem_cons_succ, List.getElem_cons_zero, Act.put, List.setIfInBounds_toArray, List.set_cons_zero, List.set_cons_succ]
                refine wpAnyH_ready (rs := [10]) (by kernel_rfl) (by simp) ?_
                refine AllReadyH.cons rfl (fun K hK => ?_) AllReadyH.nil
                obtain ⟨z0, z1, z2, z3, z4⟩ := k2.two
                go_simp
                have k2_ := k2.set2 (.bool bb2) (.slice A2 p2 d2)
                have k1_ := (k1.far (p := ⟨g2, 0, none⟩) (by simp; omega) (.bool bb2)).far (p := ⟨g2, 1, none⟩) (by simp; omega) (.slice A2 p2 d2)
                have hn1_ := (hn1.setCell (q := ⟨g2, 0, none⟩) k2.typed (.bool bb2)).setCell (q := ⟨g2, 1, none⟩) (k2.typed.setCell _ _) (.slice A2 p2 d2)
                have hn2_ := (hn2.setCell (q := ⟨g2, 0, none⟩) k2.typed (.bool bb2)).setCell (q := ⟨g2, 1, none⟩) (k2.typed.setCell _ _) (.slice A2 p2 d2)
                have hB_ := (hB.setCell (p := ⟨g2, 0, none⟩) hg2 (.bool bb2)).setCell (p := ⟨g2, 1, none⟩) hg2 (.slice A2 p2 d2)
                clear z0 z1 z2 z3 z4 hB k1 k2 hn1 hn2
                generalize (wn53.setCell ⟨g2, 0, none⟩ (.bool bb2)).setCell ⟨g2, 1, none⟩ (.slice A2 p2 d2) = wn54 at *
                have k1 := k1_
                clear k1_
                have k2 := k2_
                clear k2_
                have hn1 := hn1_
                clear hn1_
                have hn2 := hn2_
                clear hn2_
                have hB := hB_
                clear hB_
                refine hK.out _ _ hB (fun hHeld => ?_)
                clear hK K hHeld
                try simp only [List.getElem_toArray, List.getElem_cons_succ, List.getElem_cons_zero, Act.put, List.setIfInBounds_toArray, List.set_cons_zero, List.set_cons_succ]
                refine wpAnyH_done (by kernel_rfl) ?_ _
                refine NoPanic.normal ?_
                go_wp2_with fail
                go_meet
                exact ⟨_, _, rfl, rfl, _, _, _, _, _, _, _, _, k1, k2, hn1, hn2, hB⟩
            · go_simp
              have k1_ := Blk.new wn45 28 #[.bool false, .slice none 0 0]
              have hnx_ := hnx.alloc (.cells #[.bool false, .slice none 0 0] 28)
              have hns_ := hns.alloc (.cells #[.bool false, .slice none 0 0] 28)
              have k2_ := k2.alloc (.cells #[.bool false, .slice none 0 0] 28)
              have hne : g2 < wn45.heap.size := k2.lt
              have hg1 : wr.heap.size ≤ wn45.heap.size := hB.size
              have hB_ := below_alloc hB (Nat.le_refl _) (.cells #[.bool false, .slice none 0 0] 28)
              clear hB hnx hns k2
              generalize wn45.alloc (.cells #[.bool false, .slice none 0 0] 28) = wn55 at *
              generalize wn45.heap.size = g1 at *
              have hnx := hnx_
              clear hnx_
              have hns := hns_
              clear hns_
              have k2 := k2_
              clear k2_
              have k1 := k1_
              clear k1_
              have hB := hB_
              clear hB_
              refine hK.out _ _ hB (fun hHeld => ?_)
              clear hK K hHeld
              try simp only [List.getElem_toArray, List.getElem_cons_succ, List.getElem_cons_zero, Act.put, List.setIfInBounds_toArray, List.set_cons_zero, List.set_cons_succ]
              refine wpAnyH_ready (rs := [2]) (by kernel_rfl) (by simp) ?_
              refine AllReadyH.cons rfl (fun K hK => ?_) AllReadyH.nil
              go_simp
              refine (made_f (x := ((10 : Nat) : Int)) hns rfl).mono ?_
              rintro e wn56 ⟨bm, Am, pm, dm, rfl, hnm, hc56⟩
              have hnx_ := hnx.below hc56
              have hns_ := hns.below hc56
              have k2_ := k2.under hc56
              have k1_ := k1.under hc56
              have hB_ := below_two hB hc56
              clear hc56 hB hnx hns k2 k1
              have hnx := hnx_
              clear hnx_
              have hns := hns_
              clear hns_
              have k2 := k2_
              clear k2_
              have k1 := k1_
              clear k1_
              have hB := hB_
              clear hB_
              refine hK.out _ _ hB (fun hHeld => ?_)
              clear hK K hHeld
              try simp only [List.getElem_toArray, List.getElem_cons_succ, List.getElem_cons_zero, Act.put, List.setIfInBounds_toArray, List.set_cons_zero, List.set_cons_succ]
              refine wpAnyH_ready (rs := [3]) (by kernel_rfl) (by simp) ?_
              refine AllReadyH.cons rfl (fun K hK => ?_) AllReadyH.nil
              go_simp
              refine (HDIV.out _ _ _ _ _ _ _ _ _ hnx hnm HPL.out (num_len hnm (by omega))).mono ?_
              rintro e wn57 ⟨bb1, A1, p1, d1, bb2, A2, p2, d2, rfl, hn1, hn2, hc57⟩
              clear hnx
              clear hnm
              clear hns
              have k2_ := k2.under hc57
              have k1_ := k1.under hc57
              have hB_ := below_two hB hc57
              clear hc57 hB k2 k1
              have k2 := k2_
              clear k2_
              have k1 := k1_
              clear k1_
              have hB := hB_
              clear hB_
              refine hK.out _ _ hB (fun hHeld => ?_)
              clear hK K hHeld
              try simp only [List.getElem_toArray, List.getElem_cons_succ, List.getElem_cons_zero, Act.put, List.setIfInBounds_toArray, List.set_cons_zero, List.set_cons_succ]
              refine wpAnyH_take (i := 4) (v := ?_) rfl (by kernel_rfl) (by kernel_rfl) (by kernel_rfl) (fun _ _ _ h => h) (Or.inl ⟨by rfl, ?_⟩) (by assumption) ?_
              rotate_left
              · intro W hW
                go_simp
                try rfl
              simp only [List.getElem_toArray, List.getElem_cons_succ, List.getElem_cons_zero, Act.put, List.setIfInBounds_toArray, List.set_cons_zero, List.set_cons_succ]
              refine wpAnyH_take (i := 5) (v := ?_) rfl (by kernel_rfl) (by kernel_rfl) (by kernel_rfl) (fun _ _ _ h => h) (Or.inl ⟨by rfl, ?_⟩) (by assumption) ?_
              rotate_left
              · intro W hW
                go_simp
                try rfl
              simp only [List.getElem_toArray, List.getElem_cons_succ, List.getElem_cons_zero, Act.put, List.setIfInBounds_toArray, List.set_cons_zero, List.set_cons_succ]
              refine wpAnyH_take (i := 6) (v := ?_) rfl (by kernel_rfl) (by kernel_rfl) (by kernel_rfl) (fun _ _ _ h => h) (Or.inl ⟨by rfl, ?_⟩) (by assumption) ?_
              rotate_left
              · intro W hW
                go_simp
                try rfl
              simp only [List.getElem_toArray, List.getElem_cons_succ, List.getElem_cons_zero, Act.put, List.setIfInBounds_toArray, List.set_cons_zero, List.set_cons_succ]
              skip
              refine wpAnyH_ready (rs := [9]) (by kernel_rfl) (by simp) ?_
              refine AllReadyH.cons rfl (fun K hK => ?_) AllReadyH.nil
              obtain ⟨z0, z1, z2, z3, z4⟩ := k1.two
              go_simp
              have k1_ := k1.set2 (.bool bb1) (.slice A1 p1 d1)
              have k2_ := (k2.far (p := ⟨g1, 0, none⟩) (by simp; omega) (.bool bb1)).far (p := ⟨g1, 1, none⟩) (by simp; omega) (.slice A1 p1 d1)
              have hn1_ := (hn1.setCell (q := ⟨g1, 0, none⟩) k1.typed (.bool bb1)).setCell (q := ⟨g1, 1, none⟩) (k1.typed.setCell _ _) (.slice A1 p1 d1)
              have hn2_ := (hn2.setCell (q := ⟨g1, 0, none⟩) k1.typed (.bool bb1)).setCell (q := ⟨g1, 1, none⟩) (k1.typed.setCell _ _) (.slice A1 p1 d1)
              have hB_ := (hB.setCell (p := ⟨g1, 0, none⟩) hg1 (.bool bb1)).setCell (p := ⟨g1, 1, none⟩) hg1 (.slice A1 p1 d1)
              clear z0 z1 z2 z3 z4 hB k1 k2 hn1 hn2
              generalize (wn57.setCell ⟨g1, 0, none⟩ (.bool bb1)).setCell ⟨g1, 1, none⟩ (.slice A1 p1 d1) = wn58 at *
              have k1 := k1_
              clear k1_
              have k2 := k2_
              clear k2_
              have hn1 := hn1_
              clear hn1_
              have hn2 := hn2_
              clear hn2_
              have hB := hB_
              clear hB_
              refine hK.out _ _ hB (fun hHeld => ?_)
              clear hK K hHeld
              try simp only [List.getElem_toArray, List.getElem_cons_succ, List.getElem_cons_zero, Act.put, List.setIfInBounds_toArray, List.set_cons_zero, List.set_cons_succ]
              refine wpAnyH_ready (rs := [10]) (by kernel_rfl) (by simp) ?_
              refine AllReadyH.cons rfl (fun K hK => ?_) AllReadyH.nil
              obtain ⟨z0, z1, z2, z3, z4⟩ := k2.two
              go_simp
              have k2_ := k2.set2 (.bool bb2) (.slice A2 p2 d2)
              have k1_ := (k1.far (p := ⟨g2, 0, none⟩) (by simp; omega) (.bool bb2)).far (p := ⟨g2, 1, none⟩) (by simp; omega) (.slice A2 p2 d2)
              have hn1_ := (hn1.setCell (q := ⟨g2, 0, none⟩) k2.typed (.bool bb2)).setCell (q := ⟨g2, 1, none⟩) (k2.typed.setCell _ _) (.slice A2 p2 d2)
              have hn2_ := (hn2.setCell (q := ⟨g2, 0, none⟩) k2.typed (.bool bb2)).setCell (q := ⟨g2, 1, none⟩) (k2.typed.setCell _ _) (.slice A2 p2 d2)
              have hB_ := (hB.setCell (p := ⟨g2, 0, none⟩) hg2 (.bool bb2)).setCell (p := ⟨g2, 1, none⟩) hg2 (.slice A2 p2 d2)
              clear z0 z1 z2 z3 z4 hB k1 k2 hn1 hn2
              generalize (wn58.setCell ⟨g2, 0, none⟩ (.bool bb2)).setCell ⟨g2, 1, none⟩ (.slice A2 p2 d2) = wn59 at *
              have k1 := k1_
              clear k1_
              have k2 := k2_
              clear k2_
              have hn1 := hn1_
              clear hn1_
              have hn2 := hn2_
              clear hn2_
              have hB := hB_
              clear hB_
              refine hK.out _ _ hB (fun hHeld => ?_)
              clear hK K hHeld
              try simp only [List.getElem_toArray, List.getElem_cons_succ, List.getElem_cons_zero, Act.put, List.setIfInBounds_toArray, List.set_cons_zero, List.set_cons_succ]
              refine wpAnyH_done (by kernel_rfl) ?_ _
              refine NoPanic.normal ?_
              go_wp2_with fail
              go_meet
              exact ⟨_, _, rfl, rfl, _, _, _, _, _, _, _, _, k1, k2, hn1, hn2, hB⟩
        · go_simp
          have k1_ := Blk.new wd 28 #[.bool false, .slice none 0 0]
          have hnx_ := hnx.alloc (.cells #[.bool false, .slice none 0 0] 28)
          have hg1 : wr.heap.size ≤ wd.heap.size := hB.size
          have hB_ := below_alloc hB (Nat.le_refl _) (.cells #[.bool false, .slice none 0 0] 28)
          clear hB hnx
          generalize wd.alloc (.cells #[.bool false, .slice none 0 0] 28) = wn60 at *
          generalize wd.heap.size = g1 at *
          have hnx := hnx_
          clear hnx_
          have k1 := k1_
          clear k1_
          have hB := hB_
          clear hB_
          refine hK.out _ _ hB (fun hHeld => ?_)
          clear hK K hHeld
          try simp only [List.getElem_toArray, List.getElem_cons_succ, List.getElem_cons_zero, Act.put, List.setIfInBounds_toArray, List.set_cons_zero, List.set_cons_succ]
          refine wpAnyH_ready (rs := [1, 8]) (by kernel_rfl) (by simp) ?_
          refine AllReadyH.cons rfl (fun K hK => ?_) (AllReadyH.cons rfl (fun K hK => ?_) AllReadyH.nil)
          · go_simp
            refine (HSZ.out _).mono ?_
            rintro e wn61 ⟨As, ps, ds, rfl, hns, hc61⟩
            have hnx_ := hnx.below hc61
            have k1_ := k1.under hc61
            have hB_ := below_two hB hc61
            clear hc61 hB hnx k1
            have hnx := hnx_
            clear hnx_
            have k1 := k1_
            clear k1_
            have hB := hB_
            clear hB_
            refine hK.out _ _ hB (fun hHeld => ?_)
            clear hK K hHeld
            try simp only [List.getElem_toArray, List.getElem_cons_succ, List.getElem_cons_zero, Act.put, List.setIfInBounds_toArray, List.set_cons_zero, List.set_cons_succ]
            refine wpAnyH_ready (rs := [2, 8]) (by kernel_rfl) (by simp) ?_
            refine AllReadyH.cons rfl (fun K hK => ?_) (AllReadyH.cons rfl (fun K hK => ?_) AllReadyH.nil)
            · go_simp
              refine (made_f (x := ((10 : Nat) : Int)) hns rfl).mono ?_
              rintro e wn62 ⟨bm, Am, pm, dm, rfl, hnm, hc62⟩
              have hnx_ := hnx.below hc62
              have k1_ := k1.under hc62
              have hns_ := hns.below hc62
              have hB_ := below_two hB hc62
              clear hc62 hB hnx k1 hns
              have hnx := hnx_
              clear hnx_
              have k1 := k1_
              clear k1_
              have hns := hns_
              clear hns_
              have hB := hB_
              clear hB_
              refine hK.out _ _ hB (fun hHeld => ?_)
              clear hK K hHeld
              try simp only [List.getElem_toArray, List.getElem_cons_succ, List.getElem_cons_zero, Act.put, List.setIfInBounds_toArray, List.set_cons_zero, List.set_cons_succ]
              refine wpAnyH_ready (rs := [3, 8]) (by kernel_rfl) (by simp) ?_
              refine AllReadyH.cons rfl (fun K hK => ?_) (AllReadyH.cons rfl (fun K hK => ?_) AllReadyH.nil)
              · go_simp
                refine (HDIV.out _ _ _ _ _ _ _ _ _ hnx hnm HPL.out (num_len hnm (by omega))).mono ?_
                rintro e wn63 ⟨bb1, A1, p1, d1, bb2, A2, p2, d2, rfl, hn1, hn2, hc63⟩
                clear hnx
                clear hnm
                clear hns
                have k1_ := k1.under hc63
                have hB_ := below_two hB hc63
                clear hc63 hB k1
                have k1 := k1_
                clear k1_
                have hB := hB_
                clear hB_
                refine hK.out _ _ hB (fun hHeld => ?_)
                clear hK K hHeld
                try simp only [List.getElem_toArray, List.getElem_cons_succ, List.getElem_cons_zero, Act.put, List.setIfInBounds_toArray, List.set_cons_zero, List.set_cons_succ]
                refine wpAnyH_take (i := 4) (v := ?_) rfl (by kernel_rfl) (by kernel_rfl) (by kernel_rfl) (fun _ _ _ h => h) (Or.inl ⟨by rfl, ?_⟩) (by assumption) ?_
                rotate_left
                · intro W hW
                  go_simp
                  try rfl
                simp only [List.getElem_toArray, List.getElem_cons_succ, List.getElem_cons_zero, Act.put, List.setIfInBounds_toArray, List.set_cons_zero, List.set_cons_succ]
                refine wpAnyH_take (i := 5) (v := ?_) rfl (by kernel_rfl) (by kernel_rfl) (by kernel_rfl) (fun _ _ _ h => h) (Or.inl ⟨by rfl, ?_⟩) (by assumption) ?_
                rotate_left
                · intro W hW
                  go_simp
                  try rfl
                simp only [List.getElem_toArray, List.getElem_cons_succ, List.getElem_cons_zero, Act.put, List.setIfInBounds_toArray, List.set_cons_zero, List.set_cons_succ]
                refine wpAnyH_take (i := 6) (v := ?_) rfl (by kernel_rfl) (by kernel_rfl) (by kernel_rfl) (fun _ _ _ h => h) (Or.inl ⟨by rfl, ?_⟩) (by assumption) ?_
                rotate_left
                · intro W hW
                  go_simp
                  try rfl
                simp only [List.getElem_toArray, List.getElem_cons_succ, List.getElem_cons_zero, Act.put, List.setIfInBounds_toArray, List.set_cons_zero, List.set_cons_succ]
                skip
                refine wpAnyH_ready (rs := [8]) (by kernel_rfl) (by simp) ?_
                refine AllReadyH.cons rfl (fun K hK => ?_) AllReadyH.nil
                go_simp
                have k2_ := Blk.new wn63 28 #[.bool false, .slice none 0 0]
                have k1_ := k1.alloc (.cells #[.bool false, .slice none 0 0] 28)
                have hn1_ := hn1.alloc (.cells #[.bool false, .slice none 0 0] 28)
                have hn2_ := hn2.alloc (.cells #[.bool false, .slice none 0 0] 28)
                have hne : g1 < wn63.heap.size := k1.lt
                have hg2 : wr.heap.size ≤ wn63.heap.size := hB.size
                have hB_ := below_alloc hB (Nat.le_refl _) (.cells #[.bool false, .slice none 0 0] 28)
                clear hB k1 hn1 hn2
                generalize wn63.alloc (.cells #[.bool false, .slice none 0 0] 28) = wn64 at *
                generalize wn63.heap.size = g2 at *
                have k1 := k1_
                clear k1_
                have hn1 := hn1_
                clear hn1_
                have hn2 := hn2_
                clear hn2_
                have k2 := k2_
                clear k2_
                have hB := hB_
                clear hB_
                refine hK.out _ _ hB (fun hHeld => ?_)
                clear hK K hHeld
                try simp only [List.getElem_toArray, List.getElem_cons_succ, List.getElem_cons_zero, Act.put, List.setIfInBounds_toArray, List.set_cons_zero, List.set_cons_succ]
                refine wpAnyH_ready (rs := [9]) (by kernel_rfl) (by simp) ?_
                refine AllReadyH.cons rfl (fun K hK => ?_) AllReadyH.nil
                obtain ⟨z0, z1, z2, z3, z4⟩ := k1.two
                go_simp
                have k1_ := k1.set2 (.bool bb1) (.slice A1 p1 d1)
                have k2_ := (k2.far (p := ⟨g1, 0, none⟩) (by simp; omega) (.bool bb1)).far (p := ⟨g1, 1, none⟩) (by simp; omega) (.slice A1 p1 d1)
                have hn1_ := (hn1.setCell (q := ⟨g1, 0, none⟩) k1.typed (.bool bb1)).setCell (q := ⟨g1, 1, none⟩) (k1.typed.setCell _ _) (.slice A1 p1 d1)
                have hn2_ := (hn2.setCell (q := ⟨g1, 0, none⟩) k1.typed (.bool bb1)).setCell (q := ⟨g1, 1, none⟩) (k1.typed.setCell _ _) (.slice A1 p1 d1)
                have hB_ := (hB.setCell (p := ⟨g1, 0, none⟩) hg1 (.bool bb1)).setCell (p := ⟨g1, 1, none⟩) hg1 (.slice A1 p1 d1)
                clear z0 z1 z2 z3 z4 hB k1 k2 hn1 hn2
                generalize (wn64.setCell ⟨g1, 0, none⟩ (.bool bb1)).setCell ⟨g1, 1, none⟩ (.slice A1 p1 d1) = wn65 at *
                have k1 := k1_
                clear k1_
                have k2 := k2_
                clear k2_
                have hn1 := hn1_
                clear hn1_
                have hn2 := hn2_
                clear hn2_
                have hB := hB_
                clear hB_
                refine hK.out _ _ hB (fun hHeld => ?_)
                clear hK K hHeld
                try simp only [List.getElem_toArray, List.getElem_cons_succ, List.getElem_cons_zero, Act.put, List.setIfInBounds_toArray, List.set_cons_zero, List.set_cons_succ]
                refine wpAnyH_ready (rs := [10]) (by kernel_rfl) (by simp) ?_
                refine AllReadyH.cons rfl (fun K hK => ?_) AllReadyH.nil
                obtain ⟨z0, z1, z2, z3, z4⟩ := k2.two
                go_simp
                have k2_ := k2.set2 (.bool bb2) (.slice A2 p2 d2)
                have k1_ := (k1.far (p := ⟨g2, 0, none⟩) (by simp; omega) (.bool bb2)).far (p := ⟨g2, 1, none⟩) (by simp; omega) (.slice A2 p2 d2)
                have hn1_ := (hn1.setCell (q := ⟨g2, 0, none⟩) k2.typed (.bool bb2)).setCell (q := ⟨g2, 1, none⟩) (k2.typed.setCell _ _) (.slice A2 p2 d2)
                have hn2_ := (hn2.setCell (q := ⟨g2, 0, none⟩) k2.typed (.bool bb2)).setCell (q := ⟨g2, 1, none⟩) (k2.typed.setCell _ _) (.slice A2 p2 d2)
                have hB_ := (hB.setCell (p := ⟨g2, 0, none⟩) hg2 (.bool bb2)).setCell (p := ⟨g2, 1, none⟩) hg2 (.slice A2 p2 d2)
                clear z0 z1 z2 z3 z4 hB k1 k2 hn1 hn2
                generalize (wn65.setCell ⟨g2, 0, none⟩ (.bool bb2)).setCell ⟨g2, 1, none⟩ (.slice A2 p2 d2) = wn66 at *
                have k1 := k1_
                clear k1_
                have k2 := k2_
                clear k2_
                have hn1 := hn1_
                clear hn1_
                have hn2 := hn2_
                clear hn2_
                have hB := hB_
                clear hB_
                refine hK.out _ _ hB (fun hHeld => ?_)
                clear hK K hHeld
                try simp only [List.getElem_toArray, List.getElem_cons_succ, List.getElem_cons_zero, Act.put, List.setIfInBounds_toArray, List.set_cons_zero, List.set_cons_succ]
                refine wpAnyH_done (by kernel_rfl) ?_ _
                refine NoPanic.normal ?_
                go_wp2_with fail
                go_meet
                exact ⟨_, _, rfl, rfl, _, _, _, _, _, _, _, _, k1, k2, hn1, hn2, hB⟩
              · go_simp
                have k2_ := Blk.new wn62 28 #[.bool false, .slice none 0 0]
                have hnx_ := hnx.alloc (.cells #[.bool false, .slice none 0 0] 28)
                have k1_ := k1.alloc (.cells #[.bool false, .slice none 0 0] 28)
                have hns_ := hns.alloc (.cells #[.bool false, .slice none 0 0] 28)
                have hnm_ := hnm.alloc (.cells #[.bool false, .slice none 0 0] 28)
                have hne : g1 < wn62.heap.size := k1.lt
                have hg2 : wr.heap.size ≤ wn62.heap.size := hB.size
                have hB_ := below_alloc hB (Nat.le_refl _) (.cells #[.bool false, .slice none 0 0] 28)
                clear hB hnx k1 hns hnm
                generalize wn62.alloc (.cells #[.bool false, .slice none 0 0] 28) = wn67 at *
                generalize wn62.heap.size = g2 at *
                have hnx := hnx_
                clear hnx_
                have k1 := k1_
                clear k1_
                have hns := hns_
                clear hns_
                have hnm := hnm_
                clear hnm_
                have k2 := k2_
                clear k2_
                have hB := hB_
                clear hB_
                refine hK.out _ _ hB (fun hHeld => ?_)
                clear hK K hHeld
                try simp only [List.getElem_toArray, List.getElem_cons_succ, List.getElem_cons_zero, Act.put, List.setIfInBounds_toArray, List.set_cons_zero, List.set_cons_succ]
                refine wpAnyH_ready (rs := [3]) (by kernel_rfl) (by simp) ?_
                refine AllReadyH.cons rfl (fun K hK => ?_) AllReadyH.nil
                go_simp
                refine (HDIV.out _ _ _ _ _ _ _ _ _ hnx hnm HPL.out (num_len hnm (by omega))).mono ?_
                rintro e wn68 ⟨bb1, A1, p1, d1, bb2, A2, p2, d2, rfl, hn1, hn2, hc68⟩
                clear hnx
                clear hnm
                clear hns
                have k1_ := k1.under hc68
                have k2_ := k2.under hc68
                have hB_ := below_two hB hc68
                clear hc68 hB k1 k2
                have k1 := k1_
                clear k1_
                have k2 := k2_
                clear k2_
                have hB := hB_
                clear hB_
                refine hK.out _ _ hB (fun hHeld => ?_)
                clear hK K hHeld
                try simp only [List.getElem_toArray, List.getElem_cons_succ, List.getElem_cons_zero, Act.put, List.setIfInBounds_toArray, List.set_cons_zero, List.set_cons_succ]
                refine wpAnyH_take (i := 4) (v := ?_) rfl (by kernel_rfl) (by kernel_rfl) (by kernel_rfl) (fun _ _ _ h => h) (Or.inl ⟨by rfl, ?_⟩) (by assumption) ?_
                rotate_left
                · intro W hW
                  go_simp
                  try rfl
                simp only [List.getElem_toArray, List.getElem_cons_succ, List.getElem_cons_zero, Act.put, List.setIfInBounds_toArray, List.set_cons_zero, List.set_cons_succ]
                refine wpAnyH_take (i := 5) (v := ?_) rfl (by kernel_rfl) (by kernel_rfl) (by kernel_rfl) (fun _ _ _ h => h) (Or.inl ⟨by rfl, ?_⟩) (by assumption) ?_
                rotate_left
                · intro W hW
                  go_simp
                  try rfl
                simp only [List.getElem_toArray, List.getElem_cons_succ, List.getElem_cons_zero, Act.put, List.setIfInBounds_toArray, List.set_cons_zero, List.set_cons_succ]
                refine wpAnyH_take (i := 6) (v := ?_) rfl (by kernel_rfl) (by kernel_rfl) (by kernel_rfl) (fun _ _ _ h => h) (Or.inl ⟨by rfl, ?_⟩) (by assumption) ?_
                rotate_left
                · intro W hW
                  go_simp
                  try rfl
                simp only [List.getElem_toArray, List.getElem_cons_succ, List.getElem_cons_zero, Act.put, List.setIfInBounds_toArray, List.set_cons_zero, List.set_cons_succ]
                skip
                refine wpAnyH_ready (rs := [9]) (by kernel_rfl) (by simp) ?_
                refine AllReadyH.cons rfl (fun K hK => ?_) AllReadyH.nil
                obtain ⟨z0, z1, z2, z3, z4⟩ := k1.two
                go_simp
                have k1_ := k1.set2 (.bool bb1) (.slice A1 p1 d1)
                have k2_ := (k2.far (p := ⟨g1, 0, none⟩) (by simp; omega) (.bool bb1)).far (p := ⟨g1, 1, none⟩) (by simp; omega) (.slice A1 p1 d1)
                have hn1_ := (hn1.setCell (q := ⟨g1, 0, none⟩) k1.typed (.bool bb1)).setCell (q := ⟨g1, 1, none⟩) (k1.typed.setCell _ _) (.slice A1 p1 d1)
                have hn2_ := (hn2.setCell (q := ⟨g1, 0, none⟩) k1.typed (.bool bb1)).setCell (q := ⟨g1, 1, none⟩) (k1.typed.setCell _ _) (.slice A1 p1 d1)
                have hB_ := (hB.setCell (p := ⟨g1, 0, none⟩) hg1 (.bool bb1)).setCell (p := ⟨g1, 1, none⟩) hg1 (.slice A1 p1 d1)
                clear z0 z1 z2 z3 z4 hB k1 k2 hn1 hn2
                generalize (wn68.setCell ⟨g1, 0, none⟩ (.bool bb1)).setCell ⟨g1, 1, none⟩ (.slice A1 p1 d1) = wn69 at *
                have k1 := k1_
                clear k1_
                have k2 := k2_
                clear k2_
                have hn1 := hn1_
                clear hn1_
                have hn2 := hn2_
                clear hn2_
                have hB := hB_
                clear hB_
                refine hK.out _ _ hB (fun hHeld => ?_)
                clear hK K hHeld
                try simp only [List.getElem_toArray, List.getElem_cons_succ, List.getElem_cons_zero, Act.put, List.setIfInBounds_toArray, List.set_cons_zero, List.set_cons_succ]
                refine wpAnyH_ready (rs := [10]) (by kernel_rfl) (by simp) ?_
                refine AllReadyH.cons rfl (fun K hK => ?_) AllReadyH.nil
                obtain ⟨z0, z1, z2, z3, z4⟩ := k2.two
                go_simp
                have k2_ := k2.set2 (.bool bb2) (.slice A2 p2 d2)
                have k1_ := (k1.far (p := ⟨g2, 0, none⟩) (by simp; omega) (.bool bb2)).far (p := ⟨g2, 1, none⟩) (by simp; omega) (.slice A2 p2 d2)
                have hn1_ := (hn1.setCell (q := ⟨g2, 0, none⟩) k2.typed (.bool bb2)).setCell (q := ⟨g2, 1, none⟩) (k2.typed.setCell _ _) (.slice A2 p2 d2)
                have hn2_ := (hn2.setCell (q := ⟨g2, 0, none⟩) k2.typed (.bool bb2)).setCell (q := ⟨g2, 1, none⟩) (k2.typed.setCell _ _) (.slice A2 p2 d2)
                have hB_ := (hB.setCell (p := ⟨g2, 0, none⟩) hg2 (.bool bb2)).setCell (p := ⟨g2, 1, none⟩) hg2 (.slice A2 p2 d2)
                clear z0 z1 z2 z3 z4 hB k1 k2 hn1 hn2
                generalize (wn69.setCell ⟨g2, 0, none⟩ (.bool bb2)).setCell ⟨g2, 1, none⟩ (.slice A2 p2 d2) = wn70 at *
                have k1 := k1_
                clear k1_
                have k2 := k2_
                clear k2_
                have hn1 := hn1_
                clear hn1_
                have hn2 := hn2_
                clear hn2_
                have hB := hB_
                clear hB_
                refine hK.out _ _ hB (fun hHeld => ?_)
                clear hK K hHeld
                try simp only [List.getElem_toArray, List.getElem_cons_succ, List.getElem_cons_zero, Act.put, List.setIfInBounds_toArray, List.set_cons_zero, List.set_cons_succ]
                refine wpAnyH_done (by kernel_rfl) ?_ _
                refine NoPanic.normal ?_
                go_wp2_with fail
                go_meet
                exact ⟨_, _, rfl, rfl, _, _, _, _, _, _, _, _, k1, k2, hn1, hn2, hB⟩
            · go_simp
              have k2_ := Blk.new wn61 28 #[.bool false, .slice none 0 0]
              have hnx_ := hnx.alloc (.cells #[.bool false, .slice none 0 0] 28)
              have k1_ := k1.alloc (.cells #[.bool false, .slice none 0 0] 28)
              have hns_ := hns.alloc (.cells #[.bool false, .slice none 0 0] 28)
              have hne : g1 < wn61.heap.size := k1.lt
              have hg2 : wr.heap.size ≤ wn61.heap.size := hB.size
              have hB_ := below_alloc hB (Nat.le_refl _) (.cells #[.bool false, .slice none 0 0] 28)
              clear hB hnx k1 hns
              generalize wn61.alloc (.cells #[.bool false, .slice none 0 0] 28) = wn71 at *
              generalize wn61.heap.size = g2 at *
              have hnx := hnx_
              clear hnx_
              have k1 := k1_
              clear k1_
              have hns := hns_
              clear hns_
              have k2 := k2_
              clear k2_
              have hB := hB_
              clear hB_
              refine hK.out _ _ hB (fun hHeld => ?_)
              clear hK K hHeld
              try simp only [List.getElem_toArray, List.getElem_cons_succ, List.getElem_cons_zero, Act.put, List.setIfInBounds_toArray, List.set_cons_zero, List.set_cons_succ]
              refine wpAnyH_ready (rs := [2]) (by kernel_rfl) (by simp) ?_
              refine AllReadyH.cons rfl (fun K hK => ?_) AllReadyH.nil
              go_simp
              refine (made_f (x := ((10 : Nat) : Int)) hns rfl).mono ?_
              rintro e wn72 ⟨bm, Am, pm, dm, rfl, hnm, hc72⟩
              have hnx_ := hnx.below hc72
              have k1_ := k1.under hc72
              have hns_ := hns.below hc72
              have k2_ := k2.under hc72
              have hB_ := below_two hB hc72
              clear hc72 hB hnx k1 hns k2
              have hnx := hnx_
              clear hnx_
              have k1 := k1_
              clear k1_
              have hns := hns_
              clear hns_
              have k2 := k2_
              clear k2_
              have hB := hB_
              clear hB_
              refine hK.out _ _ hB (fun hHeld => ?_)
              clear hK K hHeld
              try simp only [List.getElem_toArray, List.getElem_cons_succ, List.getElem_cons_zero, Act.put, List.setIfInBounds_toArray, List.set_cons_zero, List.set_cons_succ]
              refine wpAnyH_ready (rs := [3]) (by kernel_rfl) (by simp) ?_
              refine AllReadyH.cons rfl (fun K hK => ?_) AllReadyH.nil
              go_simp
              refine (HDIV.out _ _ _ _ _ _ _ _ _ hnx hnm HPL.out (num_len hnm (by omega))).mono ?_
              rintro e wn73 ⟨bb1, A1, p1, d1, bb2, A2, p2, d2, rfl, hn1, hn2, hc73⟩
              clear hnx
              clear hnm
              clear hns
              have k1_ := k1.under hc73
              have k2_ := k2.under hc73
              have hB_ := below_two hB hc73
              clear hc73 hB k1 k2
              have k1 := k1_
              clear k1_
              have k2 := k2_
              clear k2_
              have hB := hB_
              clear hB_
              refine hK.out _ _ hB (fun hHeld => ?_)
              clear hK K hHeld
              try simp only [List.getElem_toArray, List.getElem_cons_succ, List.getElem_cons_zero, Act.put, List.setIfInBounds_toArray, List.set_cons_zero, List.set_cons_succ]
              refine wpAnyH_take (i := 4) (v := ?_) rfl (by kernel_rfl) (by kernel_rfl) (by kernel_rfl) (fun _ _ _ h => h) (Or.inl ⟨by rfl, ?_⟩) (by assumption) ?_
              rotate_left
              · intro W hW
                go_simp
                try rfl
              simp only [List.getElem_toArray, List.getElem_cons_succ, List.getElem_cons_zero, Act.put, List.setIfInBounds_toArray, List.set_cons_zero, List.set_cons_succ]
              refine wpAnyH_take (i := 5) (v := ?_) rfl (by kernel_rfl) (by kernel_rfl) (by kernel_rfl) (fun _ _ _ h => h) (Or.inl ⟨by rfl, ?_⟩) (by assumption) ?_
              rotate_left
              · intro W hW
                go_simp
                try rfl
              simp only [List.getElem_toArray, List.getElem_cons_succ, List.getElem_cons_zero, Act.put, List.setIfInBounds_toArray, List.set_cons_zero, List.set_cons_succ]
              refine wpAnyH_take (i := 6) (v := ?_) rfl (by kernel_rfl) (by kernel_rfl) (by kernel_rfl) (fun _ _ _ h => h) (Or.inl ⟨by rfl, ?_⟩) (by assumption) ?_
              rotate_left
              · intro W hW
                go_simp
                try rfl
              simp only [List.getElem_toArray, List.getElem_cons_succ, List.getElem_cons_zero, Act.put, List.setIfInBounds_toArray, List.set_cons_zero, List.set_cons_succ]
              skip
              refine wpAnyH_ready (rs := [9]) (by kernel_rfl) (by simp) ?_
              refine AllReadyH.cons rfl (fun K hK => ?_) AllReadyH.nil
              obtain ⟨z0, z1, z2, z3, z4⟩ := k1.two
              go_simp
              have k1_ := k1.set2 (.bool bb1) (.slice A1 p1 d1)
              have k2_ := (k2.far (p := ⟨g1, 0, none⟩) (by simp; omega) (.bool bb1)).far (p := ⟨g1, 1, none⟩) (by simp; omega) (.slice A1 p1 d1)
              have hn1_ := (hn1.setCell (q := ⟨g1, 0, none⟩) k1.typed (.bool bb1)).setCell (q := ⟨g1, 1, none⟩) (k1.typed.setCell _ _) (.slice A1 p1 d1)
              have hn2_ := (hn2.setCell (q := ⟨g1, 0, none⟩) k1.typed (.bool bb1)).setCell (q := ⟨g1, 1, none⟩) (k1.typed.setCell _ _) (.slice A1 p1 d1)
              have hB_ := (hB.setCell (p := ⟨g1, 0, none⟩) hg1 (.bool bb1)).setCell (p := ⟨g1, 1, none⟩) hg1 (.slice A1 p1 d1)
              clear z0 z1 z2 z3 z4 hB k1 k2 hn1 hn2
              generalize (wn73.setCell ⟨g1, 0, none⟩ (.bool bb1)).setCell ⟨g1, 1, none⟩ (.slice A1 p1 d1) = wn74 at *
              have k1 := k1_
              clear k1_
              have k2 := k2_
              clear k2_
              have hn1 := hn1_
              clear hn1_
              have hn2 := hn2_
              clear hn2_
              have hB := hB_
              clear hB_
              refine hK.out _ _ hB (fun hHeld => ?_)
              clear hK K hHeld
              try simp only [List.getElem_toArray, List.getElem_cons_succ, List.getElem_cons_zero, Act.put, List.setIfInBounds_toArray, List.set_cons_zero, List.set_cons_succ]
              refine wpAnyH_ready (rs := [10]) (by kernel_rfl) (by simp) ?_
              refine AllReadyH.cons rfl (fun K hK => ?_) AllReadyH.nil
              obtain ⟨z0, z1, z2, z3, z4⟩ := k2.two
              go_simp
              have k2_ := k2.set2 (.bool bb2) (.slice A2 p2 d2)
              have k1_ := (k1.far (p := ⟨g2, 0, none⟩) (by simp; omega) (.bool bb2)).far (p := ⟨g2, 1, none⟩) (by simp; omega) (.slice A2 p2 d2)
              have hn1_ := (hn1.setCell (q := ⟨g2, 0, none⟩) k2.typed (.bool bb2)).setCell (q := ⟨g2, 1, none⟩) (k2.typed.setCell _ _) (.slice A2 p2 d2)
              have hn2_ := (hn2.setCell (q := ⟨g2, 0, none⟩) k2.typed (.bool bb2)).setCell (q := ⟨g2, 1, none⟩) (k2.typed.setCell _ _) (.slice A2 p2 d2)
              have hB_ := (hB.setCell (p := ⟨g2, 0, none⟩) hg2 (.bool bb2)).setCell (p := ⟨g2, 1, none⟩) hg2 (.slice A2 p2 d2)
              clear z0 z1 z2 z3 z4 hB k1 k2 hn1 hn2
              generalize (wn74.setCell ⟨g2, 0, none⟩ (.bool bb2)).setCell ⟨g2, 1, none⟩ (.slice A2 p2 d2) = wn75 at *
              have k1 := k1_
              clear k1_
              have k2 := k2_
              clear k2_
              have hn1 := hn1_
              clear hn1_
              have hn2 := hn2_
              clear hn2_
              have hB := hB_
              clear hB_
              refine hK.out _ _ hB (fun hHeld => ?_)
              clear hK K hHeld
              try simp only [List.getElem_toArray, List.getElem_cons_succ, List.getElem_cons_zero, Act.put, List.setIfInBounds_toArray, List.set_cons_zero, List.set_cons_succ]
              refine wpAnyH_done (by kernel_rfl) ?_ _
              refine NoPanic.normal ?_
              go_wp2_with fail
              go_meet
              exact ⟨_, _, rfl, rfl, _, _, _, _, _, _, _, _, k1, k2, hn1, hn2, hB⟩
          · go_simp
            have k2_ := Blk.new wn60 28 #[.bool false, .slice none 0 0]
            have hnx_ := hnx.alloc (.cells #[.bool false, .slice none 0 0] 28)
            have k1_ := k1.alloc (.cells #[.bool false, .slice none 0 0] 28)
            have hne : g1 < wn60.heap.size := k1.lt
            have hg2 : wr.heap.size ≤ wn60.heap.size := hB.size
            have hB_ := below_alloc hB (Nat.le_refl _) (.cells #[.bool false, .slice none 0 0] 28)
            clear hB hnx k1
            generalize wn60.alloc (.cells #[.bool false, .slice none 0 0] 28) = wn76 at *
            generalize wn60.heap.size = g2 at *
            have hnx := hnx_
            clear hnx_
            have k1 := k1_
            clear k1_
            have k2 := k2_
            clear k2_
            have hB := hB_
            clear hB_
            refine hK.out _ _ hB (fun hHeld => ?_)
            clear hK K hHeld
            try simp only [List.getElem_toArray, List.getElem_cons_succ, List.getElem_cons_zero, Act.put, List.setIfInBounds_toArray, List.set_cons_zero, List.set_cons_succ]
            refine wpAnyH_ready (rs := [1]) (by kernel_rfl) (by simp) ?_
            refine AllReadyH.cons rfl (fun K hK => ?_) AllReadyH.nil
            go_simp
            refine (HSZ.out _).mono ?_
            rintro e wn77 ⟨As, ps, ds, rfl, hns, hc77⟩
            have hnx_ := hnx.below hc77
            have k1_ := k1.under hc77
            have k2_ := k2.under hc77
            have hB_ := below_two hB hc77
            clear hc77 hB hnx k1 k2
            have hnx := hnx_
            clear hnx_
            have k1 := k1_
            clear k1_
            have k2 := k2_
            clear k2_
            have hB := hB_
            clear hB_
            refine hK.out _ _ hB (fun hHeld => ?_)
            clear hK K hHeld
            try simp only [List.getElem_toArray, List.getElem_cons_succ, List.getElem_cons_zero, Act.put, List.setIfInBounds_toArray, List.set_cons_zero, List.set_cons_succ]
            refine wpAnyH_ready (rs := [2]) (by kernel_rfl) (by simp) ?_
            refine AllReadyH.cons rfl (fun K hK => ?_) AllReadyH.nil
            go_simp
            refine (made_f (x := ((10 : Nat) : Int)) hns rfl).mono ?_
            rintro e wn78 ⟨bm, Am, pm, dm, rfl, hnm, hc78⟩
            have hnx_ := hnx.below hc78
            have k1_ := k1.under hc78
            have k2_ := k2.under hc78
            have hns_ := hns.below hc78
            have hB_ := below_two hB hc78
            clear hc78 hB hnx k1 k2 hns
            have hnx := hnx_
            clear hnx_
            have k1 := k1_
            clear k1_
            have k2 := k2_
            clear k2_
            have hns := hns_
            clear hns_
            have hB := hB_
            clear hB_
            refine hK.out _ _ hB (fun hHeld => ?_)
            clear hK K hHeld
            try simp only [List.getElem_toArray, List.getElem_cons_succ, List.getElem_cons_zero, Act.put, List.setIfInBounds_toArray, List.set_cons_zero, List.set_cons_succ]
            refine wpAnyH_ready (rs := [3]) (by kernel_rfl) (by simp) ?_
            refine AllReadyH.cons rfl (fun K hK => ?_) AllReadyH.nil
            go_simp
            refine (HDIV.out _ _ _ _ _ _ _ _ _ hnx hnm HPL.out (num_len hnm (by omega))).mono ?_
            rintro e wn79 ⟨bb1, A1, p1, d1, bb2, A2, p2, d2, rfl, hn1, hn2, hc79⟩
            clear hnx
            clear hnm
            clear hns
            have k1_ := k1.under hc79
            have k2_ := k2.under hc79
            have hB_ := below_two hB hc79
            clear hc79 hB k1 k2
            have k1 := k1_
            clear k1_
            have k2 := k2_
            clear k2_
            have hB := hB_
            clear hB_
            refine hK.out _ _ hB (fun hHeld => ?_)
            clear hK K hHeld
            try simp only [List.getElem_toArray, List.getElem_cons_succ, List.getElem_cons_zero, Act.put, List.setIfInBounds_toArray, List.set_cons_zero, List.set_cons_succ]
            refine wpAnyH_take (i := 4) (v := ?_) rfl (by kernel_rfl) (by kernel_rfl) (by kernel_rfl) (fun _ _ _ h => h) (Or.inl ⟨by rfl, ?_⟩) (by assumption) ?_
            rotate_left
            · intro W hW
              go_simp
              try rfl
            simp only [List.getElem_toArray, List.getElem_cons_succ, List.getElem_cons_zero, Act.put, List.setIfInBounds_toArray, List.set_cons_zero, List.set_cons_succ]
            refine wpAnyH_take (i := 5) (v := ?_) rfl (by kernel_rfl) (by kernel_rfl) (by kernel_rfl) (fun _ _ _ h => h) (Or.inl ⟨by rfl, ?_⟩) (by assumption) ?_
            rotate_left
            · intro W hW
              go_simp
              try rfl
            simp only [List.getElem_toArray, List.getElem_cons_succ, List.getElem_cons_zero, Act.put, List.setIfInBounds_toArray, List.set_cons_zero, List.set_cons_succ]
            refine wpAnyH_take (i := 6) (v := ?_) rfl (by kernel_rfl) (by kernel_rfl) (by kernel_rfl) (fun _ _ _ h => h) (Or.inl ⟨by rfl, ?_⟩) (by assumption) ?_
            rotate_left
            · intro W hW
              go_simp
              try rfl
            simp only [List.getElem_toArray, List.getElem_cons_succ, List.getElem_cons_zero, Act.put, List.setIfInBounds_toArray, List.set_cons_zero, List.set_cons_succ]
            skip
            refine wpAnyH_ready (rs := [9]) (by kernel_rfl) (by simp) ?_
            refine AllReadyH.cons rfl (fun K hK => ?_) AllReadyH.nil
            obtain ⟨z0, z1, z2, z3, z4⟩ := k1.two
            go_simp
            have k1_ := k1.set2 (.bool bb1) (.slice A1 p1 d1)
            have k2_ := (k2.far (p := ⟨g1, 0, none⟩) (by simp; omega) (.bool bb1)).far (p := ⟨g1, 1, none⟩) (by simp; omega) (.slice A1 p1 d1)
            have hn1_ := (hn1.setCell (q := ⟨g1, 0, none⟩) k1.typed (.bool bb1)).setCell (q := ⟨g1, 1, none⟩) (k1.typed.setCell _ _) (.slice A1 p1 d1)
            have hn2_ := (hn2.setCell (q := ⟨g1, 0, none⟩) k1.typed (.bool bb1)).setCell (q := ⟨g1, 1, none⟩) (k1.typed.setCell _ _) (.slice A1 p1 d1)
            have hB_ := (hB.setCell (p := ⟨g1, 0, none⟩) hg1 (.bool bb1)).setCell (p := ⟨g1, 1, none⟩) hg1 (.slice A1 p1 d1)
            clear z0 z1 z2 z3 z4 hB k1 k2 hn1 hn2
            generalize (wn79.setCell ⟨g1, 0, none⟩ (.bool bb1)).setCell ⟨g1, 1, none⟩ (.slice A1 p1 d1) = wn80 at *
            have k1 := k1_
            clear k1_
            have k2 := k2_
            clear k2_
            have hn1 := hn1_
            clear hn1_
            have hn2 := hn2_
            clear hn2_
            have hB := hB_
            clear hB_
            refine hK.out _ _ hB (fun hHeld => ?_)
            clear hK K hHeld
            try simp only [List.getElem_toArray, List.getElem_cons_succ, List.getElem_cons_zero, Act.put, List.setIfInBounds_toArray, List.set_cons_zero, List.set_cons_succ]
            refine wpAnyH_ready (rs := [10]) (by kernel_rfl) (by simp) ?_
            refine AllReadyH.cons rfl (fun K hK => ?_) AllReadyH.nil
            obtain ⟨z0, z1, z2, z3, z4⟩ := k2.two
            go_simp
            have k2_ := k2.set2 (.bool bb2) (.slice A2 p2 d2)
            have k1_ := (k1.far (p := ⟨g2, 0, none⟩) (by simp; omega) (.bool bb2)).far (p := ⟨g2, 1, none⟩) (by simp; omega) (.slice A2 p2 d2)
            have hn1_ := (hn1.setCell (q := ⟨g2, 0, none⟩) k2.typed (.bool bb2)).setCell (q := ⟨g2, 1, none⟩) (k2.typed.setCell _ _) (.slice A2 p2 d2)
            have hn2_ := (hn2.setCell (q := ⟨g2, 0, none⟩) k2.typed (.bool bb2)).setCell (q := ⟨g2, 1, none⟩) (k2.typed.setCell _ _) (.slice A2 p2 d2)
            have hB_ := (hB.setCell (p := ⟨g2, 0, none⟩) hg2 (.bool bb2)).setCell (p := ⟨g2, 1, none⟩) hg2 (.slice A2 p2 d2)
            clear z0 z1 z2 z3 z4 hB k1 k2 hn1 hn2
            generalize (wn80.setCell ⟨g2, 0, none⟩ (.bool bb2)).setCell ⟨g2, 1, none⟩ (.slice A2 p2 d2) = wn81 at *
            have k1 := k1_
            clear k1_
            have k2 := k2_
            clear k2_
            have hn1 := hn1_
            clear hn1_
            have hn2 := hn2_
            clear hn2_
            have hB := hB_
            clear hB_
            refine hK.out _ _ hB (fun hHeld => ?_)
            clear hK K hHeld
            try simp only [List.getElem_toArray, List.getElem_cons_succ, List.getElem_cons_zero, Act.put, List.setIfInBounds_toArray, List.set_cons_zero, List.set_cons_succ]
            refine wpAnyH_done (by kernel_rfl) ?_ _
            refine NoPanic.normal ?_
            go_wp2_with fail
            go_meet
            exact ⟨_, _, rfl, rfl, _, _, _, _, _, _, _, _, k1, k2, hn1, hn2, hB⟩
        · go_simp
          have k2_ := Blk.new wd 28 #[.bool false, .slice none 0 0]
          have hnx_ := hnx.alloc (.cells #[.bool false, .slice none 0 0] 28)
          have hg2 : wr.heap.size ≤ wd.heap.size := hB.size
          have hB_ := below_alloc hB (Nat.le_refl _) (.cells #[.bool false, .slice none 0 0] 28)
          clear hB hnx
          generalize wd.alloc (.cells #[.bool false, .slice none 0 0] 28) = wn82 at *
          generalize wd.heap.size = g2 at *
          have hnx := hnx_
          clear hnx_
          have k2 := k2_
          clear k2_
          have hB := hB_
          clear hB_
          refine hK.out _ _ hB (fun hHeld => ?_)
          clear hK K hHeld
          try simp only [List.getElem_toArray, List.getElem_cons_succ, List.getElem_cons_zero, Act.put, List.setIfInBounds_toArray, List.set_cons_zero, List.set_cons_succ]
          refine wpAnyH_ready (rs := [1, 7]) (by kernel_rfl) (by simp) ?_
          refine AllReadyH.cons rfl (fun K hK => ?_) (AllReadyH.cons rfl (fun K hK => ?_) AllReadyH.nil)
          · go_simp
            refine (HSZ.out _).mono ?_
            rintro e wn83 ⟨As, ps, ds, rfl, hns, hc83⟩
            have hnx_ := hnx.below hc83
            have k2_ := k2.under hc83
            have hB_ := below_two hB hc83
            clear hc83 hB hnx k2
            have hnx := hnx_
            clear hnx_
            have k2 := k2_
            clear k2_
            have hB := hB_
            clear hB_
            refine hK.out _ _ hB (fun hHeld => ?_)
            clear hK K hHeld
            try simp only [List.getElem_toArray, List.getElem_cons_succ, List.getElem_cons_zero, Act.put, List.setIfInBounds_toArray, List.set_cons_zero, List.set_cons_succ]
            refine wpAnyH_ready (rs := [2, 7]) (by kernel_rfl) (by simp) ?_
            refine AllReadyH.cons rfl (fun K hK => ?_) (AllReadyH.cons rfl (fun K hK => ?_) AllReadyH.nil)
            · go_simp
              refine (made_f (x := ((10 : Nat) : Int)) hns rfl).mono ?_
              rintro e wn84 ⟨bm, Am, pm, dm, rfl, hnm, hc84⟩
              have hnx_ := hnx.below hc84
              have k2_ := k2.under hc84
              have hns_ := hns.below hc84
              have hB_ := below_two hB hc84
              clear hc84 hB hnx k2 hns
              have hnx := hnx_
              clear hnx_
              have k2 := k2_
              clear k2_
              have hns := hns_
              clear hns_
              have hB := hB_
              clear hB_
              refine hK.out _ _ hB (fun hHeld => ?_)
              clear hK K hHeld
              try simp only [List.getElem_toArray, List.getElem_cons_succ, List.getElem_cons_zero, Act.put, List.setIfInBounds_toArray, List.set_cons_zero, List.set_cons_succ]
              refine wpAnyH_ready (rs := [3, 7]) (by kernel_rfl) (by simp) ?_
              refine AllReadyH.cons rfl (fun K hK => ?_) (AllReadyH.cons rfl (fun K hK => ?_) AllReadyH.nil)
              · go_simp
                refine (HDIV.out _ _ _ _ _ _ _ _ _ hnx hnm HPL.out (num_len hnm (by omega))).mono ?_
                rintro e wn85 ⟨bb1, A1, p1, d1, bb2, A2, p2, d2, rfl, hn1, hn2, hc85⟩
                clear hnx
                clear hnm
                clear hns
                have k2_ := k2.under hc85
                have hB_ := below_two hB hc85
                clear hc85 hB k2
                have k2 := k2_
                clear k2_
                have hB := hB_
                clear hB_
                refine hK.out _ _ hB (fun hHeld => ?_)
                clear hK K hHeld
                try simp only [List.getElem_toArray, List.getElem_cons_succ, List.getElem_cons_zero, Act.put, List.setIfInBounds_toArray, List.set_cons_zero, List.set_cons_succ]
                refine wpAnyH_take (i := 4) (v := ?_) rfl (by kernel_rfl) (by kernel_rfl) (by kernel_rfl) (fun _ _ _ h => h) (Or.inl ⟨by rfl, ?_⟩) (by assumption) ?_
                rotate_left
                · intro W hW
                  go_simp
                  try rfl
                simp only [List.getElem_toArray, List.getElem_cons_succ, List.getElem_cons_zero, Act.put, List.setIfInBounds_toArray, List.set_cons_zero, List.set_cons_succ]
                refine wpAnyH_take (i := 5) (v := ?_) rfl (by kernel_rfl) (by kernel_rfl) (by kernel_rfl) (fun _ _ _ h => h) (Or.inl ⟨by rfl, ?_⟩) (by assumption) ?_
                rotate_left
                · intro W hW
                  go_simp
                  try rfl
                simp only [List.getElem_toArray, List.getElem_cons_succ, List.getElem_cons_zero, Act.put, List.setIfInBounds_toArray, List.set_cons_zero, List.set_cons_succ]
                refine wpAnyH_take (i := 6) (v := ?_) rfl (by kernel_rfl) (by kernel_rfl) (by kernel_rfl) (fun _ _ _ h => h) (Or.inl ⟨by rfl, ?_⟩) (by assumption) ?_
                rotate_left
                · intro W hW
                  go_simp
                  try rfl
                simp only [List.getElem_toArray, List.getElem_cons_succ, List.getElem_cons_zero, Act.put, List.setIfInBounds_toArray, List.set_cons_zero, List.set_cons_succ]
                skip
                refine wpAnyH_ready (rs := [7]) (by kernel_rfl) (by simp) ?_
                refine AllReadyH.cons rfl (fun K hK => ?_) AllReadyH.nil
                go_simp
                have k1_ := Blk.new wn85 28 #[.bool false, .slice none 0 0]
                have k2_ := k2.alloc (.cells #[.bool false, .slice none 0 0] 28)
                have hn1_ := hn1.alloc (.cells #[.bool false, .slice none 0 0] 28)
                have hn2_ := hn2.alloc (.cells #[.bool false, .slice none 0 0] 28)
                have hne : g2 < wn85.heap.size := k2.lt
                have hg1 : wr.heap.size ≤ wn85.heap.size := hB.size
                have hB_ := below_alloc hB (Nat.le_refl _) (.cells #[.bool false, .slice none 0 0] 28)
                clear hB k2 hn1 hn2
                generalize wn85.alloc (.cells #[.bool false, .slice none 0 0] 28) = wn86 at *
                generalize wn85.heap.size = g1 at *
                have k2 := k2_
                clear k2_
                have hn1 := hn1_
                clear hn1_
                have hn2 := hn2_
                clear hn2_
                have k1 := k1_
                clear k1_
                have hB := hB_
                clear hB_
                refine hK.out _ _ hB (fun hHeld => ?_)
                clear hK K hHeld
                try simp only [List.getElem_toArray, List.getElem_cons_succ, List.getElem_cons_zero, Act.put, List.setIfInBounds_toArray, List.set_cons_zero, List.set_cons_succ]
                refine wpAnyH_ready (rs := [9]) (by kernel_rfl) (by simp) ?_
                refine AllReadyH.cons rfl (fun K hK => ?_) AllReadyH.nil
                obtain ⟨z0, z1, z2, z3, z4⟩ := k1.two
                go_simp
                have k1_ := k1.set2 (.bool bb1) (.slice A1 p1 d1)
                have k2_ := (k2.far (p := ⟨g1, 0, none⟩) (by simp; omega) (.bool bb1)).far (p := ⟨g1, 1, none⟩) (by simp; omega) (.slice A1 p1 d1)
                have hn1_ := (hn1.setCell (q := ⟨g1, 0, none⟩) k1.typed (.bool bb1)).setCell (q := ⟨g1, 1, none⟩) (k1.typed.setCell _ _) (.slice A1 p1 d1)
                have hn2_ := (hn2.setCell (q := ⟨g1, 0, none⟩) k1.typed (.bool bb1)).setCell (q := ⟨g1, 1, none⟩) (k1.typed.setCell _ _) (.slice A1 p1 d1)
                have hB_ := (hB.setCell (p := ⟨g1, 0, none⟩) hg1 (.bool bb1)).setCell (p := ⟨g1, 1, none⟩) hg1 (.slice A1 p1 d1)
                clear z0 z1 z2 z3 z4 hB k1 k2 hn1 hn2
                generalize (wn86.setCell ⟨g1, 0, none⟩ (.bool bb1)).setCell ⟨g1, 1, none⟩ (.slice A1 p1 d1) = wn87 at *
                have k1 := k1_
                clear k1_
                have k2 := k2_
                clear k2_
                have hn1 := hn1_
                clear hn1_
                have hn2 := hn2_
                clear hn2_
                have hB := hB_
                clear hB_
                refine hK.out _ _ hB (fun hHeld => ?_)
                clear hK K hHeld
                try simp only [List.getElem_toArray, List.getElem_cons_succ, List.getElem_cons_zero, Act.put, List.setIfInBounds_toArray, List.set_cons_zero, List.set_cons_succ]
                refine wpAnyH_ready (rs := [10]) (by kernel_rfl) (by simp) ?_
                refine AllReadyH.cons rfl (fun K hK => ?_) AllReadyH.nil
                obtain ⟨z0, z1, z2, z3, z4⟩ := k2.two
                go_simp
                have k2_ := k2.set2 (.bool bb2) (.slice A2 p2 d2)
                have k1_ := (k1.far (p := ⟨g2, 0, none⟩) (by simp; omega) (.bool bb2)).far (p := ⟨g2, 1, none⟩) (by simp; omega) (.slice A2 p2 d2)
                have hn1_ := (hn1.setCell (q := ⟨g2, 0, none⟩) k2.typed (.bool bb2)).setCell (q := ⟨g2, 1, none⟩) (k2.typed.setCell _ _) (.slice A2 p2 d2)
                have hn2_ := (hn2.setCell (q := ⟨g2, 0, none⟩) k2.typed (.bool bb2)).setCell (q := ⟨g2, 1, none⟩) (k2.typed.setCell _ _) (.slice A2 p2 d2)
                have hB_ := (hB.setCell (p := ⟨g2, 0, none⟩) hg2 (.bool bb2)).setCell (p := ⟨g2, 1, none⟩) hg2 (.slice A2 p2 d2)
                clear z0 z1 z2 z3 z4 hB k1 k2 hn1 hn2
                generalize (wn87.setCell ⟨g2, 0, none⟩ (.bool bb2)).setCell ⟨g2, 1, none⟩ (.slice A2 p2 d2) = wn88 at *
                have k1 := k1_
                clear k1_
                have k2 := k2_
                clear k2_
                have hn1 := hn1_
                clear hn1_
                have hn2 := hn2_
                clear hn2_
                have hB := hB_
                clear hB_
                refine hK.out _ _ hB (fun hHeld => ?_)
                clear hK K hHeld
                try simp only [List.getElem_toArray, List.getElem_cons_succ, List.getElem_cons_zero, Act.put, List.setIfInBounds_toArray, List.set_cons_zero, List.set_cons_succ]
                refine wpAnyH_done (by kernel_rfl) ?_ _
                refine NoPanic.normal ?_
                go_wp2_with fail
                go_meet
                exact ⟨_, _, rfl, rfl, _, _, _, _, _, _, _, _, k1, k2, hn1, hn2, hB⟩
              · go_simp
                have k1_ := Blk.new wn84 28 #[.bool false, .slice none 0 0]
                have hnx_ := hnx.alloc (.cells #[.bool false, .slice none 0 0] 28)
                have k2_ := k2.alloc (.cells #[.bool false, .slice none 0 0] 28)
                have hns_ := hns.alloc (.cells #[.bool false, .slice none 0 0] 28)
                have hnm_ := hnm.alloc (.cells #[.bool false, .slice none 0 0] 28)
                have hne : g2 < wn84.heap.size := k2.lt
                have hg1 : wr.heap.size ≤ wn84.heap.size := hB.size
                have hB_ := below_alloc hB (Nat.le_refl _) (.cells #[.bool false, .slice none 0 0] 28)
                clear hB hnx k2 hns hnm
                generalize wn84.alloc (.cells #[.bool false, .slice none 0 0] 28) = wn89 at *
                generalize wn84.heap.size = g1 at *
                have hnx := hnx_
                clear hnx_
                have k2 := k2_
                clear k2_
                have hns := hns_
                clear hns_
                have hnm := hnm_
                clear hnm_
                have k1 := k1_
                clear k1_
                have hB := hB_
                clear hB_
                refine hK.out _ _ hB (fun hHeld => ?_)
                clear hK K hHeld
                try simp only [List.getElem_toArray, List.getElem_cons_succ, List.getElem_cons_zero, Act.put, List.setIfInBounds_toArray, List.set_cons_zero, List.set_cons_succ]
                refine wpAnyH_ready (rs := [3]) (by kernel_rfl) (by simp) ?_
                refine AllReadyH.cons rfl (fun K hK => ?_) AllReadyH.nil
                go_simp
                refine (HDIV.out _ _ _ _ _ _ _ _ _ hnx hnm HPL.out (num_len hnm (by omega))).mono ?_
                rintro e wn90 ⟨bb1, A1, p1, d1, bb2, A2, p2, d2, rfl, hn1, hn2, hc90⟩
                clear hnx
                clear hnm
                clear hns
                have k2_ := k2.under hc90
                have k1_ := k1.under hc90
                have hB_ := below_two hB hc90
                clear hc90 hB k2 k1
                have k2 := k2_
                clear k2_
                have k1 := k1_
                clear k1_
                have hB := hB_
                clear hB_
                refine hK.out _ _ hB (fun hHeld => ?_)
                clear hK K hHeld
                try simp only [List.getElem_toArray, List.getElem_cons_succ, List.getElem_cons_zero, Act.put, List.setIfInBounds_toArray, List.set_cons_zero, List.set_cons_succ]
                refine wpAnyH_take (i := 4) (v := ?_) rfl (by kernel_rfl) (by kernel_rfl) (by kernel_rfl) (fun _ _ _ h => h) (Or.inl ⟨by rfl, ?_⟩) (by assumption) ?_
                rotate_left
                · intro W hW
                  go_simp
                  try rfl
                simp only [List.getElem_toArray, List.getElem_cons_succ, List.getElem_cons_zero, Act.put, List.setIfInBounds_toArray, List.set_cons_zero, List.set_cons_succ]
                refine wpAnyH_take (i := 5) (v := ?_) rfl (by kernel_rfl) (by kernel_rfl) (by kernel_rfl) (fun _ _ _ h => h) (Or.inl ⟨by rfl, ?_⟩) (by assumption) ?_
                rotate_left
                · intro W hW
                  go_simp
                  try rfl
                simp only [List.getElem_toArray, List.getElem_cons_succ, List.getElem_cons_zero, Act.put, List.setIfInBounds_toArray, List.set_cons_zero, List.set_cons_succ]
                refine wpAnyH_take (i := 6) (v := ?_) rfl (by kernel_rfl) (by kernel_rfl) (by kernel_rfl) (fun _ _ _ h => h) (Or.inl ⟨by rfl, ?_⟩) (by assumption) ?_
                rotate_left
                · intro W hW
                  go_simp
                  try rfl
                simp only [List.getElem_toArray, List.getElem_cons_succ, List.getElem_cons_zero, Act.put, List.setIfInBounds_toArray, List.set_cons_zero, List.set_cons_succ]
                skip
                refine wpAnyH_ready (rs := [9]) (by kernel_rfl) (by simp) ?_
                refine AllReadyH.cons rfl (fun K hK => ?_) AllReadyH.nil
                obtain ⟨z0, z1, z2, z3, z4⟩ := k1.two
                go_simp
                have k1_ := k1.set2 (.bool bb1) (.slice A1 p1 d1)
                have k2_ := (k2.far (p := ⟨g1, 0, none⟩) (by simp; omega) (.bool bb1)).far (p := ⟨g1, 1, none⟩) (by simp; omega) (.slice A1 p1 d1)
                have hn1_ := (hn1.setCell (q := ⟨g1, 0, none⟩) k1.typed (.bool bb1)).setCell (q := ⟨g1, 1, none⟩) (k1.typed.setCell _ _) (.slice A1 p1 d1)
                have hn2_ := (hn2.setCell (q := ⟨g1, 0, none⟩) k1.typed (.bool bb1)).setCell (q := ⟨g1, 1, none⟩) (k1.typed.setCell _ _) (.slice A1 p1 d1)
                have hB_ := (hB.setCell (p := ⟨g1, 0, none⟩) hg1 (.bool bb1)).setCell (p := ⟨g1, 1, none⟩) hg1 (.slice A1 p1 d1)
                clear z0 z1 z2 z3 z4 hB k1 k2 hn1 hn2
                generalize (wn90.setCell ⟨g1, 0, none⟩ (.bool bb1)).setCell ⟨g1, 1, none⟩ (.slice A1 p1 d1) = wn91 at *
                have k1 := k1_
                clear k1_
                have k2 := k2_
                clear k2_
                have hn1 := hn1_
                clear hn1_
                have hn2 := hn2_
                clear hn2_
                have hB := hB_
                clear hB_
                refine hK.out _ _ hB (fun hHeld => ?_)
                clear hK K hHeld
                try simp only [List.getElem_toArray, List.getElem_cons_succ, List.getElem_cons_zero, Act.put, List.setIfInBounds_toArray, List.set_cons_zero, List.set_cons_succ]
                refine wpAnyH_ready (rs := [10]) (by kernel_rfl) (by simp) ?_
                refine AllReadyH.cons rfl (fun K hK => ?_) AllReadyH.nil
                obtain ⟨z0, z1, z2, z3, z4⟩ := k2.two
                go_simp
                have k2_ := k2.set2 (.bool bb2) (.slice A2 p2 d2)
                have k1_ := (k1.far (p := ⟨g2, 0, none⟩) (by simp; omega) (.bool bb2)).far (p := ⟨g2, 1, none⟩) (by simp; omega) (.slice A2 p2 d2)
                have hn1_ := (hn1.setCell (q := ⟨g2, 0, none⟩) k2.typed (.bool bb2)).setCell (q := ⟨g2, 1, none⟩) (k2.typed.setCell _ _) (.slice A2 p2 d2)
                have hn2_ := (hn2.setCell (q := ⟨g2, 0, none⟩) k2.typed (.bool bb2)).setCell (q := ⟨g2, 1, none⟩) (k2.typed.setCell _ _) (.slice A2 p2 d2)
                have hB_ := (hB.setCell (p := ⟨g2, 0, none⟩) hg2 (.bool bb2)).setCell (p := ⟨g2, 1, none⟩) hg2 (.slice A2 p2 d2)
                clear z0 z1 z2 z3 z4 hB k1 k2 hn1 hn2
                generalize (wn91.setCell ⟨g2, 0, none⟩ (.bool bb2)).setCell ⟨g2, 1, none⟩ (.slice A2 p2 d2) = wn92 at *
                have k1 := k1_
                clear k1_
                have k2 := k2_
                clear k2_
                have hn1 := hn1_
                clear hn1_
                have hn2 := hn2_
                clear hn2_
                have hB := hB_
                clear hB_
                refine hK.out _ _ hB (fun hHeld => ?_)
                clear hK K hHeld
                try simp only [List.getElem_toArray, List.getElem_cons_succ, List.getElem_cons_zero, Act.put, List.setIfInBounds_toArray, List.set_cons_zero, List.set_cons_succ]
                refine wpAnyH_done (by kernel_rfl) ?_ _
                refine NoPanic.normal ?_
                go_wp2_with fail
                go_meet
                exact ⟨_, _, rfl, rfl, _, _, _, _, _, _, _, _, k1, k2, hn1, hn2, hB⟩
            · go_simp
              have k1_ := Blk.new wn83 28 #[.bool false, .slice none 0 0]
              have hnx_ := hnx.alloc (.cells #[.bool false, .slice none 0 0] 28)
              have k2_ := k2.alloc (.cells #[.bool false, .slice none 0 0] 28)
              have hns_ := hns.alloc (.cells #[.bool false, .slice none 0 0] 28)
              have hne : g2 < wn83.heap.size := k2.lt
              have hg1 : wr.heap.size ≤ wn83.heap.size := hB.size
              have hB_ := below_alloc hB (Nat.le_refl _) (.cells #[.bool false, .slice none 0 0] 28)
              clear hB hnx k2 hns
              generalize wn83.alloc (.cells #[.bool false, .slice none 0 0] 28) = wn93 at *
              generalize wn83.heap.size = g1 at *
              have hnx := hnx_
              clear hnx_
              have k2 := k2_
              clear k2_
              have hns := hns_
              clear hns_
              have k1 := k1_
              clear k1_
              have hB := hB_
              clear hB_
              refine hK.out _ _ hB (fun hHeld => ?_)
              clear hK K hHeld
              try simp only [List.getElem_toArray, List.getElem_cons_succ, List.getElem_cons_zero, Act.put, List.setIfInBounds_toArray, List.set_cons_zero, List.set_cons_succ]
              refine wpAnyH_ready (rs := [2]) (by kernel_rfl) (by simp) ?_
              refine AllReadyH.cons rfl (fun K hK => ?_) AllReadyH.nil
              go_simp
              refine (made_f (x := ((10 : Nat) : Int)) hns rfl).mono ?_
              rintro e wn94 ⟨bm, Am, pm, dm, rfl, hnm, hc94⟩
              have hnx_ := hnx.below hc94
              have k2_ := k2.under hc94
              have hns_ := hns.below hc94
              have k1_ := k1.under hc94
              have hB_ := below_two hB hc94
              clear hc94 hB hnx k2 hns k1
              have hnx := hnx_
              clear hnx_
              have k2 := k2_
              clear k2_
              have hns := hns_
              clear hns_
              have k1 := k1_
              clear k1_
              have hB := hB_
              clear hB_
              refine hK.out _ _ hB (fun hHeld => ?_)
              clear hK K hHeld
              try simp only [List.getElem_toArray, List.getElem_cons_succ, List.getElem_cons_zero, Act.put, List.setIfInBounds_toArray, List.set_cons_zero, List.set_cons_succ]
              refine wpAnyH_ready (rs := [3]) (by kernel_rfl) (by simp) ?_
              refine AllReadyH.cons rfl (fun K hK => ?_) AllReadyH.nil
              go_simp
              refine (HDIV.out _ _ _ _ _ _ _ _ _ hnx hnm HPL.out (num_len hnm (by omega))).mono ?_
              rintro e wn95 ⟨bb1, A1, p1, d1, bb2, A2, p2, d2, rfl, hn1, hn2, hc95⟩
              clear hnx
              clear hnm
              clear hns
              have k2_ := k2.under hc95
              have k1_ := k1.under hc95
              have hB_ := below_two hB hc95
              clear hc95 hB k2 k1
              have k2 := k2_
              clear k2_
              have k1 := k1_
              clear k1_
              have hB := hB_
              clear hB_
              refine hK.out _ _ hB (fun hHeld => ?_)
              clear hK K hHeld
              try simp only [List.getElem_toArray, List.getElem_cons_succ, List.getElem_cons_zero, Act.put, List.setIfInBounds_toArray, List.set_cons_zero, List.set_cons_succ]
              refine wpAnyH_take (i := 4) (v := ?_) rfl (by kernel_rfl) (by kernel_rfl) (by kernel_rfl) (fun _ _ _ h => h) (Or.inl ⟨by rfl, ?_⟩) (by assumption) ?_
              rotate_left
              · intro W hW
                go_simp
                try rfl
              simp only [List.getElem_toArray, List.getElem_cons_succ, List.getElem_cons_zero, Act.put, List.setIfInBounds_toArray, List.set_cons_zero, List.set_cons_succ]
              refine wpAnyH_take (i := 5) (v := ?_) rfl (by kernel_rfl) (by kernel_rfl) (by kernel_rfl) (fun _ _ _ h => h) (Or.inl ⟨by rfl, ?_⟩) (by assumption) ?_
              rotate_left
              · intro W hW
                go_simp
                try rfl
              simp only [List.getElem_toArray, List.getElem_cons_succ, List.getElem_cons_zero, Act.put, List.setIfInBounds_toArray, List.set_cons_zero, List.set_cons_succ]
              refine wpAnyH_take (i := 6) (v := ?_) rfl (by kernel_rfl) (by kernel_rfl) (by kernel_rfl) (fun _ _ _ h => h) (Or.inl ⟨by rfl, ?_⟩) (by assumption) ?_
              rotate_left
              · intro W hW
                go_simp
                try rfl
              simp only [List.getElem_toArray, List.getElem_cons_succ, List.getElem_cons_zero, Act.put, List.setIfInBounds_toArray, List.set_cons_zero, List.set_cons_succ]
              skip
              refine wpAnyH_ready (rs := [9]) (by kernel_rfl) (by simp) ?_
              refine AllReadyH.cons rfl (fun K hK => ?_) AllReadyH.nil
              obtain ⟨z0, z1, z2, z3, z4⟩ := k1.two
              go_simp
              have k1_ := k1.set2 (.bool bb1) (.slice A1 p1 d1)
              have k2_ := (k2.far (p := ⟨g1, 0, none⟩) (by simp; omega) (.bool bb1)).far (p := ⟨g1, 1, none⟩) (by simp; omega) (.slice A1 p1 d1)
              have hn1_ := (hn1.setCell (q := ⟨g1, 0, none⟩) k1.typed (.bool bb1)).setCell (q := ⟨g1, 1, none⟩) (k1.typed.setCell _ _) (.slice A1 p1 d1)
              have hn2_ := (hn2.setCell (q := ⟨g1, 0, none⟩) k1.typed (.bool bb1)).setCell (q := ⟨g1, 1, none⟩) (k1.typed.setCell _ _) (.slice A1 p1 d1)
              have hB_ := (hB.setCell (p := ⟨g1, 0, none⟩) hg1 (.bool bb1)).setCell (p := ⟨g1, 1, none⟩) hg1 (.slice A1 p1 d1)
              clear z0 z1 z2 z3 z4 hB k1 k2 hn1 hn2
              generalize (wn95.setCell ⟨g1, 0, none⟩ (.bool bb1)).setCell ⟨g1, 1, none⟩ (.slice A1 p1 d1) = wn96 at *
              have k1 := k1_
              clear k1_
              have k2 := k2_
              clear k2_
              have hn1 := hn1_
              clear hn1_
              have hn2 := hn2_
              clear hn2_
              have hB := hB_
              clear hB_
              refine hK.out _ _ hB (fun hHeld => ?_)
              clear hK K hHeld
              try simp only [List.getElem_toArray, List.getElem_cons_succ, List.getElem_cons_zero, Act.put, List.setIfInBounds_toArray, List.set_cons_zero, List.set_cons_succ]
              refine wpAnyH_ready (rs := [10]) (by kernel_rfl) (by simp) ?_
              refine AllReadyH.cons rfl (fun K hK => ?_) AllReadyH.nil
              obtain ⟨z0, z1, z2, z3, z4⟩ := k2.two
              go_simp
              have k2_ := k2.set2 (.bool bb2) (.slice A2 p2 d2)
              have k1_ := (k1.far (p := ⟨g2, 0, none⟩) (by simp; omega) (.bool bb2)).far (p := ⟨g2, 1, none⟩) (by simp; omega) (.slice A2 p2 d2)
              have hn1_ := (hn1.setCell (q := ⟨g2, 0, none⟩) k2.typed (.bool bb2)).setCell (q := ⟨g2, 1, none⟩) (k2.typed.setCell _ _) (.slice A2 p2 d2)
              have hn2_ := (hn2.setCell (q := ⟨g2, 0, none⟩) k2.typed (.bool bb2)).setCell (q := ⟨g2, 1, none⟩) (k2.typed.setCell _ _) (.slice A2 p2 d2)
              have hB_ := (hB.setCell (p := ⟨g2, 0, none⟩) hg2 (.bool bb2)).setCell (p := ⟨g2, 1, none⟩) hg2 (.slice A2 p2 d2)
              clear z0 z1 z2 z3 z4 hB k1 k2 hn1 hn2
              generalize (wn96.setCell ⟨g2, 0, none⟩ (.bool bb2)).setCell ⟨g2, 1, none⟩ (.slice A2 p2 d2) = wn97 at *
              have k1 := k1_
              clear k1_
              have k2 := k2_
              clear k2_
              have hn1 := hn1_
              clear hn1_
              have hn2 := hn2_
              clear hn2_
              have hB := hB_
              clear hB_
              refine hK.out _ _ hB (fun hHeld => ?_)
              clear hK K hHeld
              try simp only [List.getElem_toArray, List.getElem_cons_succ, List.getElem_cons_zero, Act.put, List.setIfInBounds_toArray, List.set_cons_zero, List.set_cons_succ]
              refine wpAnyH_done (by kernel_rfl) ?_ _
              refine NoPanic.normal ?_
              go_wp2_with fail
              go_meet
              exact ⟨_, _, rfl, rfl, _, _, _, _, _, _, _, _, k1, k2, hn1, hn2, hB⟩
          · go_simp
            have k1_ := Blk.new wn82 28 #[.bool false, .slice none 0 0]
            have hnx_ := hnx.alloc (.cells #[.bool false, .slice none 0 0] 28)
            have k2_ := k2.alloc (.cells #[.bool false, .slice none 0 0] 28)
            have hne : g2 < wn82.heap.size := k2.lt
            have hg1 : wr.heap.size ≤ wn82.heap.size := hB.size
            have hB_ := below_alloc hB (Nat.le_refl _) (.cells #[.bool false, .slice none 0 0] 28)
            clear hB hnx k2
            generalize wn82.alloc (.cells #[.bool false, .slice none 0 0] 28) = wn98 at *
            generalize wn82.heap.size = g1 at *
            have hnx := hnx_
            clear hnx_
            have k2 := k2_
            clear k2_
            have k1 := k1_
            clear k1_
            have hB := hB_
            clear hB_
            refine hK.out _ _ hB (fun hHeld => ?_)
            clear hK K hHeld
            try simp only [List.getElem_toArray, List.getElem_cons_succ, List.getElem_cons_zero, Act.put, List.setIfInBounds_toArray, List.set_cons_zero, List.set_cons_succ]
            refine wpAnyH_ready (rs := [1]) (by kernel_rfl) (by simp) ?_
            refine AllReadyH.cons rfl (fun K hK => ?_) AllReadyH.nil
            go_simp
            refine (HSZ.out _).mono ?_
            rintro e wn99 ⟨As, ps, ds, rfl, hns, hc99⟩
            have hnx_ := hnx.below hc99
            have k2_ := k2.under hc99
            have k1_ := k1.under hc99
            have hB_ := below_two hB hc99
            clear hc99 hB hnx k2 k1
            have hnx := hnx_
            clear hnx_
            have k2 := k2_
            clear k2_
            have k1 := k1_
            clear k1_
            have hB := hB_
            clear hB_
            refine hK.out _ _ hB (fun hHeld => ?_)
            clear hK K hHeld
            try simp only [List.getElem_toArray, List.getElem_cons_succ, List.getElem_cons_zero, Act.put, List.setIfInBounds_toArray, List.set_cons_zero, List.set_cons_succ]
            refine wpAnyH_ready (rs := [2]) (by kernel_rfl) (by simp) ?_
            refine AllReadyH.cons rfl (fun K hK => ?_) AllReadyH.nil
            go_simp
            refine (made_f (x := ((10 : Nat) : Int)) hns rfl).mono ?_
            rintro e wn100 ⟨bm, Am, pm, dm, rfl, hnm, hc100⟩
            have hnx_ := hnx.below hc100
            have k2_ := k2.under hc100
            have k1_ := k1.under hc100
            have hns_ := hns.below hc100
            have hB_ := below_two hB hc100
            clear hc100 hB hnx k2 k1 hns
            have hnx := hnx_
            clear hnx_
            have k2 := k2_
            clear k2_
            have k1 := k1_
            clear k1_
            have hns := hns_
            clear hns_
            have hB := hB_
            clear hB_
            refine hK.out _ _ hB (fun hHeld => ?_)
            clear hK K hHeld
            try simp only [List.getElem_toArray, List.getElem_cons_succ, List.getElem_cons_zero, Act.put, List.setIfInBounds_toArray, List.set_cons_zero, List.set_cons_succ]
            refine wpAnyH_ready (rs := [3]) (by kernel_rfl) (by simp) ?_
            refine AllReadyH.cons rfl (fun K hK => ?_) AllReadyH.nil
            go_simp
            refine (HDIV.out _ _ _ _ _ _ _ _ _ hnx hnm HPL.out (num_len hnm (by omega))).mono ?_
            rintro e wn101 ⟨bb1, A1, p1, d1, bb2, A2, p2, d2, rfl, hn1, hn2, hc101⟩
            clear hnx
            clear hnm
            clear hns
            have k2_ := k2.under hc101
            have k1_ := k1.under hc101
            have hB_ := below_two hB hc101
            clear hc101 hB k2 k1
            have k2 := k2_
            clear k2_
            have k1 := k1_
            clear k1_
            have hB := hB_
            clear hB_
            refine hK.out _ _ hB (fun hHeld => ?_)
            clear hK K hHeld
            try simp only [List.getElem_toArray, List.getElem_cons_succ, List.getElem_cons_zero, Act.put, List.setIfInBounds_toArray, List.set_cons_zero, List.set_cons_succ]
            refine wpAnyH_take (i := 4) (v := ?_) rfl (by kernel_rfl) (by kernel_rfl) (by kernel_rfl) (fun _ _ _ h => h) (Or.inl ⟨by rfl, ?_⟩) (by assumption) ?_
            rotate_left
            · intro W hW
              go_simp
              try rfl
            simp only [List.getElem_toArray, List.getElem_cons_succ, List.getElem_cons_zero, Act.put, List.setIfInBounds_toArray, List.set_cons_zero, List.set_cons_succ]
            refine wpAnyH_take (i := 5) (v := ?_) rfl (by kernel_rfl) (by kernel_rfl) (by kernel_rfl) (fun _ _ _ h => h) (Or.inl ⟨by rfl, ?_⟩) (by assumption) ?_
            rotate_left
            · intro W hW
              go_simp
              try rfl
            simp only [List.getElem_toArray, List.getElem_cons_succ, List.getElem_cons_zero, Act.put, List.setIfInBounds_toArray, List.set_cons_zero, List.set_cons_succ]
            refine wpAnyH_take (i := 6) (v := ?_) rfl (by kernel_rfl) (by kernel_rfl) (by kernel_rfl) (fun _ _ _ h => h) (Or.inl ⟨by rfl, ?_⟩) (by assumption) ?_
            rotate_left
            · intro W hW
              go_simp
              try rfl
            simp only [List.getElem_toArray, List.getElem_cons_succ, List.getElem_cons_zero, Act.put, List.setIfInBounds_toArray, List.set_cons_zero, List.set_cons_succ]
            skip
            refine wpAnyH_ready (rs := [9]) (by kernel_rfl) (by simp) ?_
            refine AllReadyH.cons rfl (fun K hK => ?_) AllReadyH.nil
            obtain ⟨z0, z1, z2, z3, z4⟩ := k1.two
            go_simp
            have k1_ := k1.set2 (.bool bb1) (.slice A1 p1 d1)
            have k2_ := (k2.far (p := ⟨g1, 0, none⟩) (by simp; omega) (.bool bb1)).far (p := ⟨g1, 1, none⟩) (by simp; omega) (.slice A1 p1 d1)
            have hn1_ := (hn1.setCell (q := ⟨g1, 0, none⟩) k1.typed (.bool bb1)).setCell (q := ⟨g1, 1, none⟩) (k1.typed.setCell _ _) (.slice A1 p1 d1)
            have hn2_ := (hn2.setCell (q := ⟨g1, 0, none⟩) k1.typed (.bool bb1)).setCell (q := ⟨g1, 1, none⟩) (k1.typed.setCell _ _) (.slice A1 p1 d1)
            have hB_ := (hB.setCell (p := ⟨g1, 0, none⟩) hg1 (.bool bb1)).setCell (p := ⟨g1, 1, none⟩) hg1 (.slice A1 p1 d1)
            clear z0 z1 z2 z3 z4 hB k1 k2 hn1 hn2
            generalize (wn101.setCell ⟨g1, 0, none⟩ (.bool bb1)).setCell ⟨g1, 1, none⟩ (.slice A1 p1 d1) = wn102 at *
            have k1 := k1_
            clear k1_
            have k2 := k2_
            clear k2_
            have hn1 := hn1_
            clear hn1_
            have hn2 := hn2_
            clear hn2_
            have hB := hB_
            clear hB_
            refine hK.out _ _ hB (fun hHeld => ?_)
            clear hK K hHeld
            try simp only [List.getElem_toArray, List.getElem_cons_succ, List.getElem_cons_zero, Act.put, List.setIfInBounds_toArray, List.set_cons_zero, List.set_cons_succ]
            refine wpAnyH_ready (rs := [10]) (by kernel_rfl) (by simp) ?_
            refine AllReadyH.cons rfl (fun K hK => ?_) AllReadyH.nil
            obtain ⟨z0, z1, z2, z3, z4⟩ := k2.two
            go_simp
            have k2_ := k2.set2 (.bool bb2) (.slice A2 p2 d2)
            have k1_ := (k1.far (p := ⟨g2, 0, none⟩) (by simp; omega) (.bool bb2)).far (p := ⟨g2, 1, none⟩) (by simp; omega) (.slice A2 p2 d2)
            have hn1_ := (hn1.setCell (q := ⟨g2, 0, none⟩) k2.typed (.bool bb2)).setCell (q := ⟨g2, 1, none⟩) (k2.typed.setCell _ _) (.slice A2 p2 d2)
            have hn2_ := (hn2.setCell (q := ⟨g2, 0, none⟩) k2.typed (.bool bb2)).setCell (q := ⟨g2, 1, none⟩) (k2.typed.setCell _ _) (.slice A2 p2 d2)
            have hB_ := (hB.setCell (p := ⟨g2, 0, none⟩) hg2 (.bool bb2)).setCell (p := ⟨g2, 1, none⟩) hg2 (.slice A2 p2 d2)
            clear z0 z1 z2 z3 z4 hB k1 k2 hn1 hn2
            generalize (wn102.setCell ⟨g2, 0, none⟩ (.bool bb2)).setCell ⟨g2, 1, none⟩ (.slice A2 p2 d2) = wn103 at *
            have k1 := k1_
            clear k1_
            have k2 := k2_
            clear k2_
            have hn1 := hn1_
            clear hn1_
            have hn2 := hn2_
            clear hn2_
            have hB := hB_
            clear hB_
            refine hK.out _ _ hB (fun hHeld => ?_)
            clear hK K hHeld
            try simp only [List.getElem_toArray, List.getElem_cons_succ, List.getElem_cons_zero, Act.put, List.setIfInBounds_toArray, List.set_cons_zero, List.set_cons_succ]
            refine wpAnyH_done (by kernel_rfl) ?_ _
            refine NoPanic.normal ?_
            go_wp2_with fail
            go_meet
            exact ⟨_, _, rfl, rfl, _, _, _, _, _, _, _, _, k1, k2, hn1, hn2, hB⟩
      case rest =>
        obtain ⟨g1, g2, rfl, rfl, b3, A3, p3, d3, b4, A4, p4, d4, k1, k2, hn1, hn2, hc⟩ := hcut
        have hd2 : DigIs wc (v % 10) A4 p4 d4 := by have := hn2.dig; simpa only [Int.natAbs_natCast] using this
        have hp4 : p4 ≤ 100000 := num_len hn2 (by omega)
        have hwd : ((wordf (v % 10) (0 : Int).toNat : Nat) : Int) = ((v % 10 : Nat) : Int) := by
          unfold wordf
          rw [show (0 : Int).toNat = 0 from rfl, Nat.pow_zero, Nat.div_one, Nat.mod_eq_of_lt (by omega)]
        have HW := hid (wo_n 0 (by decide) (by decide) hwd hd2 hp4)
        have kr := kr.under hc
        have hB := below_two hB hc
        obtain ⟨e8, he8⟩ : ∃ e8, IntKind.u64.wrap (48 + ((v % 10 : Nat) : Int)) % 256 = e8 := ⟨_, rfl⟩
        have hc8 : e8 = ((48 + v % 10 : Nat) : Int) := by rw [← he8, IntKind.wrap_u64]; omega
        have HC8 := hid hc8
        have hcv := conv1 wc e8
        have hgs : ¬ 9223372036854775807 < 1 + (bsS l).size := by
          have := HLEN.out
          rw [List.length_cons] at this
          rw [bsS_size]; omega
        have HV10 := hid (show v / 10 ≤ N by have := HV.out; omega)
        clear hd2 hp4 hwd hc hn2 hc8 hnv
        generalize ((v % 10 : Nat) : Int) = dg at *
        obtain ⟨r0, r1, r2, r3, r4⟩ := kr.two
        obtain ⟨s0, s1, s2, s3, s4⟩ := k1.two
        obtain ⟨t0, t1, t2, t3, t4⟩ := k2.two
        go_wp2_with fail
        refine HW.out.mono ?_
        rintro e w5 ⟨rfl, rfl⟩
        go_wp2_with fail
        have hst : (⟨#[UInt8.ofNat e8.toNat]⟩ : ByteArray) ++ bsS l = bsS (UInt8.ofNat (48 + v % 10) :: l) := by rw [HC8.out, Int.toNat_natCast]; exact bsS_add [_] l
        refine ⟨⟨v / 10, UInt8.ofNat (48 + v % 10) :: l, b3, A3, p3, d3, by rw [hst], HL2.out, HV10.out, (kr.set2 _ _).alloc _, ((hn1.setCell (q := ⟨_, 0, none⟩) kr.typed _).setCell (q := ⟨_, 1, none⟩) (kr.typed.setCell _ _) _).alloc _, ((hB.setCell (p := ⟨_, 0, none⟩) (Nat.le_refl _) _).setCell (p := ⟨_, 1, none⟩) (Nat.le_refl _) _).alloc ?_ _⟩, ?_⟩
        · simp; omega
        · have := HLEN.out
          rw [List.length_cons] at this
          simp only [lenS]
          rw [hst, bsS_size, bsS_size, List.length_cons]
          omega
end Go.Proofs.YtpomhcclnhddmaaDoor
