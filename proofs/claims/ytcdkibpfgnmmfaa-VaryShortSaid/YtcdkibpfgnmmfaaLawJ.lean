/- Walk of the law VaryRows. -/
import Derived.Test.YtcdkibpfgnmmfaaVarW
import Derived.Test.YtcdkibpfgnmmfaaLawI
namespace Go.Proofs.Ytcdkibpfgnmmfaa
open Go.RowKit Go.Shelf VB
set_option linter.unusedVariables false
theorem rows_in {kd : IntKind} {w : World} {a : Option Addr} {len cap k : Nat} {zs : List Int} (h : RowIn kd w a len cap zs) (hk : k ≤ len) : ∃ e, Reads w e 1 a k ((zs.take k).map (Value.int kd)) := by
  have hl := h.len
  have hlen : ((zs.take k).map (Value.int kd)).length = k := by rw [List.length_map, List.length_take]; omega
  rcases Nat.eq_zero_or_pos k with h0 | h0
  · exact ⟨0, by rw [hlen, Nat.mul_one], fun hp => absurd hp (by omega)⟩
  · obtain ⟨x, hx, hc⟩ := h.at_ (show 0 < len by omega)
    obtain ⟨e, he⟩ := typed_of_cell hc
    rw [block_of_add] at he
    refine ⟨e, by rw [hlen, Nat.mul_one], fun _ => ⟨x, hx, he, ?_⟩⟩
    intro j u hu
    have hj : j < k := by have := (List.getElem?_eq_some_iff.1 hu).1; rw [hlen] at this; exact this
    obtain ⟨x', hx', hc'⟩ := h.at_ (show j < len by omega)
    rw [hx] at hx'
    cases hx'
    rw [hc', ← hu, List.getElem?_map, List.getElem?_take, if_pos hj, List.getD_eq_getElem?_getD, List.getElem?_eq_getElem (by omega)]
    rfl
theorem i64_in {w : World} {a : Option Addr} {len cap : Nat} {zs : List Int} (h : RowIn .i64 w a len cap zs) (k : Nat) (hk : k ≤ len) : ∀ z ∈ zs.take k, -9223372036854775808 ≤ z ∧ z ≤ 9223372036854775807 := by
  intro z hz
  obtain ⟨j, hj, rfl⟩ := List.getElem_of_mem hz
  have hl := h.len
  rw [List.length_take] at hj
  have := i64_wf (h.wf (show j < len by omega))
  rw [List.getD_eq_getElem?_getD, List.getElem?_eq_getElem (by omega)] at this
  rw [List.getElem_take]
  simpa using this
theorem gl_len (bs : List Nat) : ∀ (k p : Nat), p ≤ bs.length → (gl bs k p).1.length + p ≤ bs.length
  | 0, p, h => by simpa [gl] using h
  | k + 1, p, h => by
    unfold gl
    split
    · rename_i h1
      have h2 := gotN_ok h1
      have h3 := gl_len bs k _ h2.2.2
      split
      · rw [List.length_cons]; omega
      · simpa using h
    · simpa using h
theorem rowG_len (bs : List Nat) (z most : Int) : (rowG bs z most).1.length ≤ bs.length := by
  unfold rowG
  split
  · split
    · rename_i h1
      split
      · exact Nat.zero_le _
      · have h2 := gotN_ok h1
        have := gl_len bs (gotN bs z).1 _ h2.2.2
        omega
    · exact Nat.zero_le _
  · exact Nat.zero_le _
theorem rowB_len (zs : List Int) (h : ∀ z ∈ zs, -9223372036854775808 ≤ z ∧ z ≤ 9223372036854775807) (hl : zs.length ≤ 1000) : (rowB zs).length ≤ 10 + 10 * zs.length := by
  unfold rowB
  rw [List.length_append]
  have h1 := vb_len10 (n := zs.length) (by omega)
  have h2 := flat_len (zs.map fold64) (by
    intro v hv
    obtain ⟨z, hz, rfl⟩ := List.mem_map.1 hv
    exact fold64_lt (h z hz).1 (h z hz).2)
  rw [List.length_map] at h2
  omega
theorem rowB_byte (zs : List Int) : ∀ x ∈ rowB zs, x < 256 := by
  intro x hx
  unfold rowB at hx
  rcases List.mem_append.1 hx with h | h
  · exact vb_byte _ x h
  · obtain ⟨v, _, h⟩ := List.mem_flatMap.1 h
    exact vb_byte _ x h
/-- the rows of a call that puts a row -/
structure PR (w0 w : World) (C P L : Option Addr) (m f np fp k : Nat) (hs lp : List Nat) (zs : List Int) : Prop where
  low : Below w0.heap.size w0 w
  head : Head hs w0 C m f w
  own1 : ∃ bu, w.ownsRow bu 5 1 (.slice P np fp) np (bsV lp) ∧ w0.heap.size ≤ bu ∧ ∀ j, (Value.slice C (m + 12) f).ownBlock = some j → j < bu
  rd : Reads w 2 1 L k (zs.map (Value.int .i64))
section
variable {w0 w w' : World} {C P L : Option Addr} {m f np fp k : Nat} {hs lp : List Nat} {zs : List Int}
theorem PR.below (h : PR w0 w C P L m f np fp k hs lp zs) (hb : Below w.heap.size w w') : PR w0 w' C P L m f np fp k hs lp zs := by
  obtain ⟨bu, h1, h2, h3⟩ := h.own1
  exact ⟨below_of' h.low hb, h.head.below hb, ⟨bu, own_below h1 hb, h2, h3⟩, h.rd.below hb⟩
theorem PR.drewN (h : PR w0 w C P L m f np fp k hs lp zs) (q : Nat) : PR w0 (w.drewN q) C P L m f np fp k hs lp zs := h.below (below_drewN (Below.refl _ _) q)
theorem PR.reads (h : PR w0 w C P L m f np fp k hs lp zs) : Reads w 5 1 P np (bsV lp) := by
  obtain ⟨bu, h1, _⟩ := h.own1
  exact Reads.of_own h1
theorem PR.over (h : PR w0 w C P L m f np fp k hs lp zs) (hg : w.grownBy w' (Value.slice P np fp).ownBlock) : Below w0.heap.size w0 w' ∧ Head hs w0 C m f w' := by
  obtain ⟨bu, h1, h2, h3⟩ := h.own1
  exact over2 h.low h.head h1 h2 h3 hg
end
theorem most5 (k : Int) (i : Nat) (hi : i < 5) (h0 : 0 ≤ k) (h1 : k ≤ 60) : ∃ M : Int, (#[Value.int .i64 (-1), .int .i64 0, .int .i64 (k - 1), .int .i64 k, .int .i64 400])[i]? = some (.int .i64 M) ∧ M ≤ 400 := by
  match i, hi with
  | 0, _ => exact ⟨_, rfl, by omega⟩
  | 1, _ => exact ⟨_, rfl, by omega⟩
  | 2, _ => exact ⟨_, rfl, by omega⟩
  | 3, _ => exact ⟨_, rfl, by omega⟩
  | 4, _ => exact ⟨_, rfl, by omega⟩
set_option maxRecDepth 100000 in
set_option maxHeartbeats 4000000 in
theorem vRows_core (a0 : Option Addr) (len0 cap0 : Nat) (z0 : List Int) (a1 : Option Addr) (len1 cap1 : Nat) (z1 : List Int) (a2 : Int) (w : World) (w0 : RowIn .i64 w a0 len0 cap0 z0) (w1 : RowIn .u8 w a1 len1 cap1 z1) (w2 : (Lit.int .i64 a2).wf = true) :
    Calls Try.prog 6 #[.slice a0 len0 cap0, .slice a1 len1 cap1, .int .i64 a2] w fun e w' => e = .returned (.bool true) ∧ Below w.heap.size w w' := by
  obtain ⟨hbl, hb256, E, hrd⟩ := bytes_in w1
  obtain ⟨bs, hbs⟩ : ∃ bs, bs = bytesOf z1 len1 := ⟨_, rfl⟩
  rw [← hbs] at hbl hb256 hrd
  have hln := w1.len
  have hlc := hln.1
  have hcm := hln.2.2
  obtain ⟨m, hm⟩ : ∃ m, m = min len1 400 := ⟨_, rfl⟩
  have hm4 : m ≤ 400 := by omega
  have hln0 := w0.len
  have hlc0 := hln0.1
  have hcm0 := hln0.2.2
  obtain ⟨k, hk⟩ : ∃ k, k = min len0 60 := ⟨_, rfl⟩
  have hk6 : k ≤ 60 := by omega
  have hkc : k ≤ cap0 := by omega
  obtain ⟨E0, hrd0⟩ := rows_in w0 (show k ≤ len0 by omega)
  have hzr := i64_in w0 k (by omega)
  have hzl : (z0.take k).length = k := by rw [List.length_take]; omega
  obtain ⟨zs, hzs⟩ : ∃ zs, zs = z0.take k := ⟨_, rfl⟩
  rw [← hzs] at hrd0 hzr hzl
  have HWK := Lib.hid (wakes_c w)
  have HX := Lib.hid (fun w1 (hb1 : Below w.heap.size w w1) => hrd0.below hb1)
  have HHD := Lib.hid (fun w1 (hb1 : Below w.heap.size w w1) => head_in a1 len1 m cap1 bs w1 (hrd.below hb1) hlc hcm hm)
  have HKP := Lib.hid (fun w2 C f (hb2 : Below w.heap.size w w2) base (ho : Head (bs.take m) base C m f w2) => kept_c C a1 m f len1 m cap1 base.heap.size (bs.take m) bs w2 ho.2 ho.1 (hrd.below hb2) hlc hcm hm rfl)
  obtain ⟨hs, hhs⟩ : ∃ hs, hs = bs.take m := ⟨_, rfl⟩
  rw [← hhs] at HHD HKP
  have hs256 : ∀ x ∈ hs, x < 256 := by intro x hx; rw [hhs] at hx; exact hb256 x (List.mem_of_mem_take hx)
  have hsl : hs.length = m := by rw [hhs, List.length_take]; omega
  have hrb := rowB_len zs hzr (by omega)
  have hrb256 := rowB_byte zs
  have HPR := Lib.hid (fun w' C f L cl (h : Reads w' 5 1 C m (bsV hs)) (hz : Reads w' 2 1 L k (zs.map (Value.int .i64))) => PutRow_c C L m f k cl hs zs w' h (by omega) hz (by omega) hzr)
  have HRB := Lib.hid (fun w' L cl (hz : Reads w' 2 1 L k (zs.map (Value.int .i64))) => rowBytes_c L k cl zs w' hz (by omega) hzr)
  obtain ⟨lr, hlr⟩ : ∃ lr, lr = rowB zs := ⟨_, rfl⟩
  rw [← hlr] at hrb HPR HRB hrb256
  obtain ⟨nr, hnr⟩ : ∃ nr, nr = lr.length := ⟨_, rfl⟩
  have hnr6 : nr ≤ 610 := by omega
  obtain ⟨lp, hlp⟩ : ∃ lp, lp = hs ++ lr := ⟨_, rfl⟩
  rw [← hlp] at HPR
  have hnp : m + nr = lp.length := by rw [hlp, List.length_append]; omega
  have HNR := Lib.hid hnr
  have HNP := Lib.hid hnp
  have HLP := Lib.hid hlp
  have HS256 := Lib.hid hs256
  have HSL := Lib.hid hsl
  have HZL := Lib.hid hzl
  have HP256 := Lib.hid (show ∀ x ∈ lp, x < 256 by intro x hx; rw [hlp] at hx; rcases List.mem_append.1 hx with h | h; exact hs256 x h; exact hrb256 x h)
  have hmin : ∀ w, (Builtin.min_ #[3, 3] 3 #[.int .i64 (len0 : Int), .int .i64 60]).run Try.prog w = .ok (.int .i64 (k : Nat)) w := by
    intro w
    rw [run_min_int2]
    have hdec : ((60 : Int) < (len0 : Int) ∧ k = 60) ∨ (¬ (60 : Int) < (len0 : Int) ∧ k = len0) := by omega
    rcases hdec with ⟨h, e⟩ | ⟨h, e⟩
    · rw [if_pos h, e]; rfl
    · rw [if_neg h, e]
  clear w0 w1 w2 hbl hb256 hrd hbs hln hhs hs256 hm hsl hln0 hk hrd0 hzr hzl hzs hrb hrb256 hlr hnr hlp hnp
  go_enter Try.func6, Try.ntmps6
  go_wp2_with fail
  refine HWK.out.mono ?_
  rintro e w1 ⟨rfl, hb1⟩
  go_wp2_with fail
  refine (clone_i (e' := E0) a0 k cap0 zs w1 (HX.out w1 hb1) (by omega)).mono ?_
  rintro e w2 ⟨L, fl, rfl, hol, hb2⟩
  have HB2 := Lib.hid (below_of' hb1 hb2)
  have HL2 := Lib.hid (Reads.of_own hol)
  have hkfl := own_cap hol
  clear hol hb1 hb2 HWK
  go_wp2_with fail
  refine (HHD.out w2 HB2.out).mono ?_
  rintro e w3 ⟨C, f, rfl, hh3, hb3⟩
  have HB3 := Lib.hid (below_of' HB2.out hb3)
  have HH3 := Lib.hid (show Head hs w C m f w3 from ⟨hh3.1, own_base hh3.2 HB2.out.size⟩)
  have HL3 := Lib.hid (HL2.out.below hb3)
  obtain ⟨hmf, hfm⟩ := HH3.out.cap
  clear hh3 hb3 HL2 HB2 HHD
  go_wp2_with fail
  refine (HPR.out w3 C f L fl HH3.out.reads HL3.out).mono ?_
  clear HPR
  intro e w4 h
  obtain ⟨P, fp, rfl, hop, hb4⟩ := h.n HNP.out
  have HQ4 := Lib.hid (show PR w w4 C P L m f (m + nr) fp k hs lp zs from ⟨below_of' HB3.out hb4, HH3.out.below hb4, ⟨_, hop, HB3.out.size, fun j hj => (HH3.out.2.lt j hj).2⟩, HL3.out.below hb4⟩)
  clear h hop hb4 HL3 HH3 HB3
  obtain ⟨i0, hi0, hz0, hz1, hz2⟩ := info_parts u8_info
  go_wp2_with fail
  refine (clone_b C m f hs w4 HQ4.out.head.reads (by omega)).mono ?_
  rintro e w5 ⟨K, fk, rfl, hok, hb5⟩
  have HOK := Lib.hid hok
  have HB5 := Lib.hid hb5
  have HQ5 := Lib.hid (HQ4.out.below hb5)
  clear hok hb5
  go_wp2_with fail
  refine (HRB.out w5 L fl HQ5.out.rd).mono ?_
  clear HRB
  intro e w6 h
  obtain ⟨A, fa, rfl, hoa, hb6⟩ := h.n HNR.out
  have HA6 := Lib.hid (Reads.of_own hoa)
  have HOK6 := Lib.hid (own_below HOK.out hb6)
  have HB6 := Lib.hid (below_of' HB5.out hb6)
  have hs6 := HB6.out.size
  clear h hoa hb6 HOK HB5 HQ5
  go_wp2_with (at_builtin; refine wpList_append_any _ rfl (.tmp 34) (.tmp 36) 29 rfl w4.heap.size 5 i0 (.int .u8 0) 1 1 Try.underlying29 hi0 hz0 hz1 hz2 rfl (by decide) (.slice K m fk) m _ rfl HOK6.out A nr fa (bsV lr) rfl HA6.out (bsV_one _) (by simp only [maxLen]; omega) (by omega) hs6 ?_; intro v' w7 hown' hg' hnil)
  obtain ⟨D, d, rfl, _, _⟩ := own_form hown'
  have HQ7 := Lib.hid (HQ4.out.below (HB6.out.grown hg' hs6 (fun j hj => (HOK6.out.lt j hj).1)))
  have HR7 := Lib.hid (Reads.of_own hown')
  clear hown' hg' hnil HOK6 HB6 hs6 HQ4 HA6
  have hE := equal_bs (e1 := 5) (e2 := 5) P D (m + nr) (m + nr) fp d lp lp w7 HQ7.out.reads (by rw [HLP.out, bsV_app]; exact HR7.out) (by omega)
  rw [decide_eq_true rfl] at hE
  refine hE.mono ?_
  rintro e w' ⟨rfl, q, rfl⟩
  clear hE HR7
  have HQ8 := Lib.hid (HQ7.out.drewN q)
  clear HQ7
  generalize w7.drewN q = w8 at *
  have hkI : (k : Int) ≤ (cap0 : Int) := by omega
  go_wp2_with fail
  have hE := equal_i (e1 := 2) (e2 := E0) L a0 k k fl cap0 zs zs w8 HQ8.out.rd (HX.out w8 HQ8.out.low) (by omega)
  rw [decide_eq_true rfl] at hE
  refine hE.mono ?_
  rintro e w' ⟨rfl, q, rfl⟩
  clear hE HX
  have HQ9 := Lib.hid (HQ8.out.drewN q)
  clear HQ8
  generalize w8.drewN q = w9 at *
  go_wp2_with fail
  obtain ⟨cs, hcs⟩ : ∃ cs : Array Value, cs = #[Value.int .i64 (-1), .int .i64 0, .int .i64 ((k : Int) - 1), .int .i64 (k : Int), .int .i64 400] := ⟨_, rfl⟩
  have hM := fun i hi => most5 (k : Int) i hi (by omega) (by omega)
  rw [← hcs] at hM
  have HM := Lib.hid hM
  have HQ10 := Lib.hid (HQ9.out.below ((Below.refl _ w9).alloc (Nat.le_refl _) (.cells cs 3)))
  have HBK := Lib.hid (Blk.new w9 3 cs)
  rw [← hcs]
  clear hM hcs HQ9
  generalize w9.heap.size = gI at *
  generalize w9.alloc (.cells cs 3) = w10 at *
  go_loopw [56] (fun v wr => ∃ i : Nat, i ≤ 5 ∧ v = .int .i64 (i : Nat) ∧ PR w wr C P L m f (m + nr) fp k hs lp zs ∧ Blk wr gI 3 cs) (fun v _ => 5 - (intOf v).toNat)
  case atStart => exact ⟨0, Nat.zero_le _, rfl, HQ10.out, HBK.out⟩
  case round =>
    obtain ⟨i, hi, rfl, hq, hbk⟩ := hrel
    clear HQ10 HBK
    have HQ := Lib.hid hq
    have HBK := Lib.hid hbk
    clear hq hbk
    by_cases hlt : i < 5
    · obtain ⟨M, hM1, hM2⟩ := HM.out i hlt
      have cI : wr.cell? ⟨gI, i, none⟩ = some (.int .i64 M) := (HBK.out.cell i).trans hM1
      have hnr := HQ.out.head.reads
      have G1 := Lib.hid (GetRow_c C m f a2 M hs wr hnr (by omega) (by omega) hfm HS256.out (by omega))
      have G2 := Lib.hid (fun wx (h : Reads wx 5 1 C m (bsV hs)) => refRow_c C m f a2 M hs wx h (by omega) (by omega) hfm HS256.out (by omega))
      have hrl := rowG_len hs a2 M
      rw [HSL.out] at hrl
      clear hnr hM1
      generalize rowG hs a2 M = R at *
      obtain ⟨o, p, e0⟩ := R
      dsimp only at hrl
      go_wp2_with fail
      refine G1.out.mono ?_
      clear G1
      rintro e w11 ⟨C1, f1, rfl, hf1, hr1, hb1⟩
      dsimp only at hr1 hf1 ⊢
      have HQ11 := Lib.hid (HQ.out.below hb1)
      have HBK11 := Lib.hid (HBK.out.under hb1)
      have HR1 := Lib.hid hr1
      clear hr1 hb1 HQ HBK
      go_wp2_with fail
      refine (G2.out w11 HQ11.out.head.reads).mono ?_
      clear G2
      rintro e w12 ⟨C2, f2, rfl, hf2, hr2, hb2⟩
      dsimp only at hr2 hf2 ⊢
      have HQ12 := Lib.hid (HQ11.out.below hb2)
      have HBK12 := Lib.hid (HBK11.out.under hb2)
      have hE := equal_i (e1 := 2) (e2 := 2) C1 C2 o.length o.length f1 f2 o o w12 (HR1.out.below hb2) hr2 (by omega)
      rw [decide_eq_true rfl] at hE
      clear hr2 hb2 HQ11 HBK11 HR1
      go_wp2_with fail
      refine hE.mono ?_
      rintro e w' ⟨rfl, q, rfl⟩
      have HQ13 := Lib.hid (HQ12.out.drewN q)
      have HBK13 := Lib.hid (HBK12.out.drewN q)
      clear hE HQ12 HBK12
      go_wp2
      exact ⟨⟨i + 1, by omega, by go_num, HQ13.out, HBK13.out⟩, by simp [intOf]; omega⟩
    · obtain rfl : i = 5 := by omega
      clear HBK HM hlt
      have HBY := Lib.hid (show Bytes wr P (m + nr) fp by obtain ⟨bu, h1, _⟩ := HQ.out.own1; exact Bytes.of_own h1 HP256.out)
      go_wp2_with fail
      go_loopw [93] (fun v wx => ∃ i : Nat, i ≤ m + nr ∧ v = .int .i64 (i : Nat) ∧ wr.grownBy wx (Value.slice P (m + nr) fp).ownBlock ∧ Bytes wx P (m + nr) fp) (fun v _ => m + nr - (intOf v).toNat)
      case atStart => exact ⟨0, Nat.zero_le _, rfl, World.grownBy.refl _ _, HBY.out⟩
      case round =>
        obtain ⟨i, hi, rfl, hgr, hby⟩ := hrel
        by_cases hlt : i < m + nr
        · obtain ⟨g, x, y, rfl, c1, f1, l1, hx, hxy, hgr2, hby2⟩ := over_step hgr hby hlt
          have hle := hby.le
          have HG := Lib.hid hgr2
          have HY := Lib.hid hby2
          have hltI : (i : Int) < (m : Int) + (nr : Int) := by omega
          clear hgr hby hgr2 hby2 HBY
          go_wp2
          exact ⟨⟨i + 1, by omega, by go_num, HG.out, HY.out⟩, by simp [intOf]; omega⟩
        · obtain rfl : i = m + nr := by omega
          obtain ⟨hlow, hhead⟩ := HQ.out.over hgr
          have HK := Lib.hid (HKP.out _ C f hlow _ hhead)
          have HLOW := Lib.hid hlow
          clear hgr hby hlow hhead hlt HKP HBY
          go_wp2_with fail
          refine HK.out.mono ?_
          rintro e w' ⟨rfl, q, rfl⟩
          have HLOW2 := Lib.hid (below_drewN HLOW.out q)
          clear HK HLOW
          go_wp2
          go_ret
          exact ⟨rfl, HLOW2.out⟩
end Go.Proofs.Ytcdkibpfgnmmfaa
