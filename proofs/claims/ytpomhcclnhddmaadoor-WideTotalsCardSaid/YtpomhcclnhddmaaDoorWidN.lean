/- Contract of wide.Text. -/
import Derived.Test.YtpomhcclnhddmaaDoorWidL
import Derived.Test.YtpomhcclnhddmaaDoorTxt
namespace Go.Proofs.YtpomhcclnhddmaaDoor
open Go.RowKit Go.Shelf Go.Lib TX
set_option linter.unusedVariables false
def bsS (l : List UInt8) : ByteArray := ⟨l.toArray⟩
def cellsT (N i : Nat) : Array Value := #[.int .u64 ((if 0 < i then Ni N 0 % G else 0 : Nat) : Int), .int .u64 ((if 1 < i then Ni N 1 % G else 0 : Nat) : Int), .int .u64 ((if 2 < i then Ni N 2 % G else 0 : Nat) : Int)]
theorem cellsT_at (N i j : Nat) (hj : j < 3) : (cellsT N i)[j]? = some (.int .u64 ((if j < i then Ni N j % G else 0 : Nat) : Int)) := by
  match j, hj with
  | 0, _ => rfl
  | 1, _ => rfl
  | 2, _ => rfl
theorem cellsT_set (N i : Nat) (hi : i < 3) : (cellsT N i).setIfInBounds i (.int .u64 ((Ni N i % G : Nat) : Int)) = cellsT N (i + 1) := by
  match i, hi with
  | 0, _ => simp [cellsT]
  | 1, _ => simp [cellsT]
  | 2, _ => simp [cellsT]
theorem bsS_size (l : List UInt8) : (bsS l).size = l.length := by simp [bsS, ByteArray.size]
theorem bsS_add (a b : List UInt8) : bsS a ++ bsS b = bsS (a ++ b) := by
  unfold bsS
  rw [ByteArray.mk_append_mk]
theorem bsS_drop (l : List UInt8) : (bsS l).extract 1 (bsS l).size = bsS (l.drop 1) := by
  rw [bsS_size]
  unfold bsS
  apply ByteArray.ext
  apply Array.ext'
  simp
  exact List.take_of_length_le (by simp)
theorem nd_le : ∀ (k u : Nat), u < 10 ^ (k + 1) → nDigits u ≤ k + 1
  | 0, u, h => by rw [nDigits_small (by simpa using h)]; exact Nat.le_refl _
  | k + 1, u, h => by
    by_cases hu : u < 10
    · rw [nDigits_small hu]; omega
    · rw [nDigits_big hu]
      have := nd_le k (u / 10) (by rw [Nat.pow_succ] at h; omega)
      omega
theorem dec_len {u : Nat} (h : u < 340282366920938463463374607431768211456) : (decDigits u).length ≤ 60 := by
  rw [decDigits_length]
  exact nd_le 59 u (Nat.lt_trans h (by decide))
theorem gmod (n : Nat) : n % G < 1000000000000000000 := by
  unfold G
  exact Nat.mod_lt _ (by decide)
theorem parts_g (N i : Nat) (hN : N < 340282366920938463463374607431768211456) (w : World) : Calls Tryd.prog 54 #[.int .u64 ((Ni N i / 18446744073709551616 : Nat) : Int), .int .u64 ((Ni N i % 18446744073709551616 : Nat) : Int), .int .u64 1000000000000000000] w fun e w' => e = .returned (.tuple #[.int .u64 ((Ni N (i + 1) / 18446744073709551616 : Nat) : Int), .int .u64 ((Ni N (i + 1) % 18446744073709551616 : Nat) : Int), .int .u64 ((Ni N i % G : Nat) : Int)]) ∧ ∃ q, w' = w.drewN q := by
  have hi : Ni N i ≤ N := Nat.div_le_self _ _
  have h := parts_c (Ni N i / 18446744073709551616) (Ni N i % 18446744073709551616) 1000000000000000000 (by omega) (Nat.mod_lt _ (by decide)) (by decide) (by decide) w
  rw [nat_words] at h
  rw [Ni_succ]
  unfold G
  exact h
set_option maxRecDepth 100000 in
set_option maxHeartbeats 200000 in
theorem text_c (X : Int) (hX : inW X) (w : World) (htab : Tab w) :
    Calls Tryd.prog 32 #[wV X] w fun e w' => e = .returned (.string (bsS (itoa X))) ∧ Below w.heap.size w w' := by
  have hsz : ∀ w, Calls Tryd.prog 48 #[wv (X / 18446744073709551616) (X % 18446744073709551616)] w _ := fun w => size_c X hX w
  have hN : X.natAbs < 340282366920938463463374607431768211456 := by omega
  have hng : decide (X / 18446744073709551616 < 0) = decide (X < 0) := decide_eq_decide.2 (hi_neg X)
  have hit : itoa X = if X < 0 then 45 :: decDigits X.natAbs else decDigits X.natAbs := by
    unfold itoa
    split
    · rfl
    · rw [show X.toNat = X.natAbs by omega]
  show Calls Tryd.prog 32 #[wv (X / 18446744073709551616) (X % 18446744073709551616)] w _
  rw [hit]
  clear hit
  generalize X.natAbs = N at *
  generalize X / 18446744073709551616 = a at *
  generalize X % 18446744073709551616 = b at *
  have hza : decide (a < 0) = decide (X < 0) := hng
  have HPA := hid (fun i w => parts_g N i hN w)
  have hL := lst_le N 3 (by decide)
  have HTOP := hid (dec_top (lst_top N 3 (by decide) (Ni3 hN)))
  have HPOS := hid (fun (h : 0 < lst N 3) j (hj : j ≤ lst N 3) => Ni_pos (lst_pos N 3 h) hj)
  have hgG : ∀ j, Ni N j % G < 1000000000000000000 := fun j => gmod _
  have e0 : (N / 18446744073709551616 : Nat) = Ni N 0 / 18446744073709551616 := by unfold Ni; rw [Nat.pow_zero, Nat.div_one]
  have e1 : (N % 18446744073709551616 : Nat) = Ni N 0 % 18446744073709551616 := by unfold Ni; rw [Nat.pow_zero, Nat.div_one]
  have e2 : decDigits N = decDigits (Ni N 0) := by unfold Ni; rw [Nat.pow_zero, Nat.div_one]
  rw [e0, e1] at hsz
  rw [e2]
  have HLS := hid (show ∀ i, lst N (i + 1) = if 0 < Ni N i % G then i else lst N i from fun i => rfl)
  have HL0 := hid (show lst N 0 = 0 from rfl)
  have HC := hid (fun i j hj => cellsT_at N i j hj)
  have HCS := hid (fun i hi => cellsT_set N i hi)
  have HC0 : cellsT N 0 = #[.int .u64 0, .int .u64 0, .int .u64 0] := by simp [cellsT]
  have HGR := hid (fun j h => @dec_group N j h)
  have HLEN := hid (show ∀ j, (decDigits (Ni N j)).length ≤ 60 from fun j => dec_len (Nat.lt_of_le_of_lt (Nat.div_le_self _ _) hN))
  have HS := hid hsz
  clear e0 e1 e2 hsz hN hng
  obtain ⟨fh, hfh⟩ : ∃ f : Nat → Nat, f = fun i => Ni N i / 18446744073709551616 := ⟨_, rfl⟩
  obtain ⟨fl, hfl⟩ : ∃ f : Nat → Nat, f = fun i => Ni N i % 18446744073709551616 := ⟨_, rfl⟩
  obtain ⟨fg, hfg⟩ : ∃ f : Nat → Nat, f = fun i => Ni N i % G := ⟨_, rfl⟩
  have k1 : ∀ i, Ni N i / 18446744073709551616 = fh i := fun i => by rw [hfh]
  have k2 : ∀ i, Ni N i % 18446744073709551616 = fl i := fun i => by rw [hfl]
  have k3 : ∀ i, Ni N i % G = fg i := fun i => by rw [hfg]
  simp only [k1, k2, k3] at HPA HTOP hgG HLS HC HCS HGR HS
  clear k1 k2 k3 hfh hfl hfg
  obtain ⟨fL, hfL⟩ : ∃ f : Nat → Nat, f = lst N := ⟨_, rfl⟩
  rw [← hfL] at hL HTOP HPOS HLS HL0
  obtain ⟨fC, hfC⟩ : ∃ f : Nat → Array Value, f = cellsT N := ⟨_, rfl⟩
  rw [← hfC] at HC HCS HC0
  obtain ⟨fN, hfN⟩ : ∃ f : Nat → Nat, f = Ni N := ⟨_, rfl⟩
  rw [← hfN] at HTOP HPOS HGR HLEN ⊢
  clear hfL hfC hfN
  obtain ⟨R, hR⟩ : ∃ R, R = if X < 0 then 45 :: decDigits (fN 0) else decDigits (fN 0) := ⟨_, rfl⟩
  rw [← hR]
  have HR := hid hR
  clear hR
  have HTAB := hid htab
  clear htab
  have K1 := Blk.new w 24 #[.int .i64 a, .int .u64 b]
  go_enter Tryd.func32, Tryd.ntmps32
  go_wp2_with fail
  refine (HS.out _).mono ?_; rintro e w1 ⟨rfl, hb1⟩
  have hw1 := below_two (ba1 w (oW a b)) hb1
  have K1a := (K1.under hb1).alloc (.cells (fC 0) 86)
  have K5 := Blk.new w1 86 (fC 0)
  have hw2 := below_alloc hw1 (Nat.le_refl _) (.cells (fC 0) 86)
  rw [HC0] at K1a K5 hw2
  have hgx : w.heap.size < w1.heap.size := (K1.under hb1).lt
  clear K1 hb1 hw1 HS
  go_upto_region 5 with fail
  generalize w1.alloc (.cells #[.int .u64 0, .int .u64 0, .int .u64 0] 86) = w2 at *
  generalize w1.heap.size = g5 at *
  rw [← HC0] at K5
  have HW2 := hid hw2
  have HK1 := hid K1a
  have HK5 := hid K5
  clear hw2 K1a K5
  go_loopw [3, 4, 6, 7, 15] (fun u3 u4 u6 u7 u15 wr => ∃ i : Nat, i ≤ 3 ∧ u15 = .int .i64 (i : Nat) ∧ u3 = .int .u64 (fh i : Nat) ∧ u4 = .int .u64 (fl i : Nat) ∧ u6 = .int .i64 (fL i : Nat) ∧ Blk wr w.heap.size 24 #[.int .i64 a, .int .u64 b] ∧ Blk wr g5 86 (fC i) ∧ Below w.heap.size w wr) (fun _ _ _ _ u15 _ => 3 - (RowKit.intOf u15).toNat)
  case atStart => exact ⟨0, by decide, rfl, rfl, rfl, by rw [HL0.out]; rfl, HK1.out, HK5.out, HW2.out⟩
  case round =>
    obtain ⟨i, hi, rfl, rfl, rfl, rfl, hk1, hk5, hbw⟩ := hrel
    clear HK1 HK5 HW2
    by_cases hlt : i < 3
    · have q1 : (i : Int) < 3 := by omega
      have q2 : (0 : Int) ≤ (i : Int) := by omega
      have HP := hid (HPA.out i wr)
      have HK1 := hid hk1
      have HK5 := hid hk5
      have HBW := hid hbw
      clear hk1 hk5 hbw
      go_wp2_with fail
      refine HP.out.mono ?_; rintro e w' ⟨rfl, q, rfl⟩
      have hk1 := HK1.out.drewN q
      have hk5 := HK5.out.drewN q
      have hbw : Below w.heap.size w (wr.drewN q) := ⟨HBW.out.os, HBW.out.tape, HBW.out.output, HBW.out.size, HBW.out.block⟩
      clear HK1 HK5 HBW HP
      generalize wr.drewN q = w3 at *
      have cI : w3.cell? ⟨g5, i, none⟩ = some (.int .u64 ((if i < i then fg i else 0 : Nat) : Int)) := (hk5.cell i).trans (HC.out i i hlt)
      have fI := hk5.frozen i
      have hk5' := hk5.set_ i (.int .u64 (fg i : Nat))
      rw [HCS.out i hlt] at hk5'
      have HK1 := hid (hk1.far (p := ⟨g5, i, none⟩) (by simp only []; omega) (.int .u64 (fg i : Nat)))
      have HK5 := hid hk5'
      have HBW := hid (hbw.setCell (p := ⟨g5, i, none⟩) (by simp only []; omega) (.int .u64 (fg i : Nat)))
      have HLi := HLS.out i
      clear hk1 hk5 hk5' hbw
      by_cases hg : 0 < fg i
      · rw [if_pos hg] at HLi
        have HLI := hid HLi
        have tg : (0 : Int) < (fg i : Int) := by omega
        have tg2 : 0 < fg i := hg
        clear HLi
        go_wp2
        exact ⟨⟨i + 1, by omega, by go_num, rfl, rfl, by rw [HLI.out], HK1.out, HK5.out, HBW.out⟩, by simp [RowKit.intOf]; omega⟩
      · rw [if_neg hg] at HLi
        have HLI := hid HLi
        have tg : decide ((0 : Int) < (fg i : Int)) = false := decide_eq_false (by omega)
        have tg2 : decide (0 < fg i) = false := decide_eq_false (by omega)
        clear HLi hg
        go_wp2
        exact ⟨⟨i + 1, by omega, by go_num, rfl, rfl, by rw [HLI.out], HK1.out, HK5.out, HBW.out⟩, by simp [RowKit.intOf]; omega⟩
    · obtain rfl : i = 3 := by omega
      clear hlt hi HPA HLS
      have HK1 := hid hk1
      have HK5 := hid hk5
      have HBW := hid hbw
      have HT := hid (HTAB.out.below hbw)
      clear hk1 hk5 hbw
      have hL' := hL
      generalize hLL : fL 3 = L at *
      clear hLL
      have cL : wr.cell? ⟨g5, L, none⟩ = some (.int .u64 (fg L : Nat)) := by
        rw [HK5.out.cell L, HC.out 3 L hL, if_pos hL]
      have q1 : (L : Int) < 3 := by omega
      have q2 : (0 : Int) ≤ (L : Int) := by omega
      have HF := hid (show Calls Tryd.prog 56 #[.int .u64 (fg L : Nat), .int .i64 10] wr fun e w' => e = .returned (.string (bsS (decDigits (fN L)))) ∧ Below wr.heap.size wr w' by
        rw [← HTOP.out]
        exact FormatUint_c (fg L) (by have := hgG L; omega) wr HT.out)
      go_wp2_with fail
      refine HF.out.mono ?_; rintro e w4 ⟨rfl, hb4⟩
      have HK1b := hid (HK1.out.under hb4)
      have HK5b := hid (HK5.out.under hb4)
      have HBWb := hid (below_two HBW.out hb4)
      have HTb := hid (HT.out.below hb4)
      clear HK1 HK5 HBW HT hb4 cL HF HTOP
      go_upto_region 13 with fail
      go_loopw [8, 9] (fun u8 u9 wx => ∃ j : Nat, j ≤ L ∧ u9 = .int .i64 ((j : Int) - 1) ∧ u8 = .string (bsS (decDigits (fN j))) ∧ Blk wx w.heap.size 24 #[.int .i64 a, .int .u64 b] ∧ Blk wx g5 86 (fC 3) ∧ Below w.heap.size w wx ∧ Tab wx) (fun _ u9 _ => (RowKit.intOf u9 + 1).toNat)
      case atStart => exact ⟨L, Nat.le_refl _, rfl, rfl, HK1b.out, HK5b.out, HBWb.out, HTb.out⟩
      case round =>
        obtain ⟨j, hj, rfl, rfl, hk1, hk5, hbw, ht⟩ := hrel
        clear HK1b HK5b HBWb HTb
        have HK1 := hid hk1
        have HK5 := hid hk5
        have HBW := hid hbw
        have HT := hid ht
        clear hk1 hk5 hbw ht
        by_cases hj0 : j = 0
        · subst hj0
          have t0 : decide ((0 : Int) ≤ ((0 : Nat) : Int) - 1) = false := by decide
          obtain ⟨c0, c1, f0, f1, hl⟩ := HK1.out.two
          have hlen := HLEN.out 0
          generalize hO : decDigits (fN 0) = O at *
          have hq : ¬ 9223372036854775807 < 1 + (bsS O).size := by rw [bsS_size]; omega
          clear hO hlen
          by_cases hx : X < 0
          · rw [decide_eq_true hx] at hza
            have HRR := HR.out
            rw [if_pos hx] at HRR
            have HR2 := hid HRR
            clear hx HRR HR
            go_wp2_with fail
            go_ret
            refine ⟨?_, HBW.out⟩
            rw [HR2.out]
            exact congrArg (fun x => Ending.returned (Value.string x)) (bsS_add [45] O)
          · rw [decide_eq_false hx] at hza
            have HRR := HR.out
            rw [if_neg hx] at HRR
            have HR2 := hid HRR
            clear hx HRR HR
            go_wp2_with fail
            go_ret
            exact ⟨by rw [HR2.out]; rfl, HBW.out⟩
        · obtain ⟨i, rfl⟩ : ∃ i, j = i + 1 := ⟨j - 1, by omega⟩
          have t0 : (0 : Int) ≤ (i : Int) := by omega
          have hi3 : i < 3 := by omega
          have q1 : (i : Int) < 3 := by omega
          have cI : wr.cell? ⟨g5, i, none⟩ = some (.int .u64 (fg i : Nat)) := by
            rw [HK5.out.cell i, HC.out 3 i hi3, if_pos hi3]
          have hgi := hgG i
          have HF : ∀ w, Tab w → Calls Tryd.prog 56 #[.int .u64 ((G + fg i : Nat) : Int), .int .i64 10] w fun e w' => e = .returned (.string (bsS (decDigits (G + fg i)))) ∧ Below w.heap.size w w' := fun w h => FormatUint_c (G + fg i) (by unfold G; omega) w h
          have eG : IntKind.u64.wrap (1000000000000000000 + (fg i : Int)) = ((G + fg i : Nat) : Int) := by rw [IntKind.wrap_u64]; unfold G; omega
          have HG2 := HGR.out i (HPOS.out (by omega) (i + 1) hj)
          have hlD := dec_len (u := G + fg i) (by unfold G; omega)
          have hlA := HLEN.out (i + 1)
          have hD1 : 1 ≤ (decDigits (G + fg i)).length := by rw [decDigits_length]; exact nDigits_pos _
          have hdr := bsS_drop (decDigits (G + fg i))
          generalize decDigits (G + fg i) = D at *
          generalize G + fg i = gg at *
          generalize decDigits (fN (i + 1)) = A at *
          have HG3 := hid HG2
          obtain ⟨E, hE⟩ : ∃ E, E = D.drop 1 := ⟨_, rfl⟩
          rw [← hE] at hdr HG3
          have hlE : E.length ≤ 60 := by rw [hE, List.length_drop]; omega
          have z1 : (1 : Int) ≤ ((bsS D).size : Int) := by rw [bsS_size]; omega
          have z2 : 1 ≤ (bsS D).size := by rw [bsS_size]; omega
          have hq : ¬ 9223372036854775807 < (bsS A).size + (bsS E).size := by rw [bsS_size, bsS_size]; omega
          have hsum := bsS_add A E
          have HF2 := hid (HF wr HT.out)
          clear HG2 hE hlD hlA hlE hD1 hgi HF
          go_wp2_with fail
          refine HF2.out.mono ?_; rintro e w5 ⟨rfl, hb5⟩
          have HK1c := hid (HK1.out.under hb5)
          have HK5c := hid (HK5.out.under hb5)
          have HBWc := hid (below_two HBW.out hb5)
          have HTc := hid (HT.out.below hb5)
          clear HK1 HK5 HBW HT hb5 cI HF2
          go_wp2_with fail
          exact ⟨⟨i, by omega, by go_num, by rw [HG3.out], HK1c.out, HK5c.out, HBWc.out, HTc.out⟩, by simp [RowKit.intOf]⟩
end Go.Proofs.YtpomhcclnhddmaaDoor
