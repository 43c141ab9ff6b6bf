/- Walk of the law VaryPuts. -/
import Derived.Test.YtcdkibpfgnmmfaaVarU
namespace Go.Proofs.Ytcdkibpfgnmmfaa
open Go.RowKit Go.Shelf VB
set_option linter.unusedVariables false
theorem u64_wf {v : Int} (h : (Lit.int .u64 v).wf = true) : 0 ≤ v ∧ v ≤ 18446744073709551615 := by
  rw [Lit.wf_int_iff, IntKind.min_u64, IntKind.max_u64] at h; exact h
theorem i64_wf {v : Int} (h : (Lit.int .i64 v).wf = true) : -9223372036854775808 ≤ v ∧ v ≤ 9223372036854775807 := by
  rw [Lit.wf_int_iff, IntKind.min_i64, IntKind.max_i64] at h; exact h
/-- append under a guard that holds -/
theorem wpList_append_anyG {P : Program} (w : World) {ops : Array Oper} {rest : List Oper} {o : Oper} {a : Act} {Q : Exit → Act → World → Prop} (hw : Region.wanted o (yielded ops a.tmps) = true) (s x : Operand) (t : TypeId)
    (ho : o.op = .call { callee := .builtin .append, args := #[s, x], argTypes := #[t, t] })
    (base : Nat) (e : TypeId) (i : TypeInfo) (z : Value) (size bytes : Nat) (ht : P.underlying t = some (.slice e)) (hi : P.info? e = some i) (hz : i.zero = some z)
    (hsize : i.size = size) (hby : i.bytes = bytes) (hzs : z.cells.size = size) (hsz : 0 < size)
    (v : Value) (n : Nat) (xs : List Value) (hs : a.eval s = v) (hown : w.ownsRow base e size v n xs)
    (A : Option Addr) (m c : Nat) (news : List Value) (hx : a.eval x = .slice A m c) (hr : Reads w e size A m news) (h1 : ∀ u ∈ news, u.oneCell' = true)
    (h63 : n + m ≤ maxLen) (hbytes : (n + m) * bytes ≤ 140737488355328) (hbase : base ≤ w.heap.size)
    (h : ∀ v' w', w'.ownsRow base e size v' (n + m) (xs ++ news) → w.grownBy w' v.ownBlock → (v'.ownBlock = v.ownBlock ∨ v'.ownBlock = some w.heap.size) → wpList P ops Q rest (a.put o.dst v') w') : wpList P ops Q (o :: rest) a w := by
  unfold wpList
  rw [if_pos hw]
  exact .inl (wp_append_any w s x t ho base e i z size bytes ht hi hz hsize hby hzs hsz v n xs hs hown A m c news hx hr h1 h63 hbytes hbase h)
set_option maxRecDepth 100000 in
set_option maxHeartbeats 4000000 in
theorem vPuts_core (a0 : Option Addr) (len0 cap0 : Nat) (z0 : List Int) (a1 a2 : Int) (w : World) (w0 : RowIn .u8 w a0 len0 cap0 z0) (w1 : (Lit.int .u64 a1).wf = true) (w2 : (Lit.int .i64 a2).wf = true) :
    Calls Try.prog 5 #[.slice a0 len0 cap0, .int .u64 a1, .int .i64 a2] w fun e w' => e = .returned (.bool true) ∧ Below w.heap.size w w' := by
  obtain ⟨hbl, hb256, E, hrd⟩ := bytes_in w0
  obtain ⟨bs, hbs⟩ : ∃ bs, bs = bytesOf z0 len0 := ⟨_, rfl⟩
  rw [← hbs] at hbl hb256 hrd
  have hln := w0.len
  have hlc := hln.1
  have hcm := hln.2.2
  obtain ⟨m, hm⟩ : ∃ m, m = min len0 400 := ⟨_, rfl⟩
  have hm4 : m ≤ 400 := by omega
  obtain ⟨v1, v2⟩ := u64_wf w1
  obtain ⟨n, rfl⟩ := Int.eq_ofNat_of_zero_le v1
  have hn64 : n < 18446744073709551616 := by omega
  obtain ⟨z1, z2⟩ := i64_wf w2
  have HWK := Lib.hid (wakes_c w)
  have HHD := Lib.hid (fun w1 (hb1 : Below w.heap.size w w1) => head_in a0 len0 m cap0 bs w1 (hrd.below hb1) hlc hcm hm)
  have HKP := Lib.hid (fun w2 C f (hb2 : Below w.heap.size w w2) base (ho : Head (bs.take m) base C m f w2) => kept_c C a0 m f len0 m cap0 base.heap.size (bs.take m) bs w2 ho.2 ho.1 (hrd.below hb2) hlc hcm hm rfl)
  obtain ⟨hs, hhs⟩ : ∃ hs, hs = bs.take m := ⟨_, rfl⟩
  rw [← hhs] at HHD HKP
  have hs256 : ∀ x ∈ hs, x < 256 := by intro x hx; rw [hhs] at hx; exact hb256 x (List.mem_of_mem_take hx)
  have hsl : hs.length = m := by rw [hhs, List.length_take]; omega
  have na10 := vb_len10 hn64
  have hf64 := fold64_lt z1 z2
  have nb10 := vb_len10 hf64
  have la256 := vb_byte n
  have lb256 := vb_byte (fold64 a2)
  have HA := Lib.hid (fun w => bytes_ref n hn64 w)
  have HB := Lib.hid (fun w => signed_c a2 z1 z2 w)
  have HSU := Lib.hid (fun w => SizeU_c n hn64 w)
  have HSI := Lib.hid (fun w => Size_c a2 z1 z2 w)
  have HPU := Lib.hid (fun w' C f (h : Reads w' 5 1 C m (bsV hs)) => PutU_c C m f hs n w' h (by omega) hn64)
  have HPI := Lib.hid (fun w' C f (h : Reads w' 5 1 C m (bsV hs)) => Put_c C m f hs a2 w' h (by omega) z1 z2)
  obtain ⟨la, hla⟩ : ∃ la, la = vb n := ⟨_, rfl⟩
  obtain ⟨lb, hlb⟩ : ∃ lb, lb = vb (fold64 a2) := ⟨_, rfl⟩
  rw [← hla] at na10 HA HPU HSU la256
  rw [← hlb] at nb10 HB HPI HSI lb256
  obtain ⟨na, hna⟩ : ∃ na, na = la.length := ⟨_, rfl⟩
  obtain ⟨nb, hnb⟩ : ∃ nb, nb = lb.length := ⟨_, rfl⟩
  rw [← hna] at na10 HSU
  rw [← hnb] at nb10 HSI
  obtain ⟨lu, hlu⟩ : ∃ lu, lu = hs ++ la := ⟨_, rfl⟩
  obtain ⟨ls, hls⟩ : ∃ ls, ls = hs ++ lb := ⟨_, rfl⟩
  rw [← hlu] at HPU
  rw [← hls] at HPI
  have hnu : m + na = lu.length := by rw [hlu, List.length_append]; omega
  have hns : m + nb = ls.length := by rw [hls, List.length_append]; omega
  have HNA := Lib.hid hna
  have HNB := Lib.hid hnb
  have HNU := Lib.hid hnu
  have HNS := Lib.hid hns
  have HLU := Lib.hid hlu
  have HLS := Lib.hid hls
  have HU256 := Lib.hid (show ∀ x ∈ lu, x < 256 by intro x hx; rw [hlu] at hx; rcases List.mem_append.1 hx with h | h; exact hs256 x h; exact la256 x h)
  have HS256 := Lib.hid (show ∀ x ∈ ls, x < 256 by intro x hx; rw [hls] at hx; rcases List.mem_append.1 hx with h | h; exact hs256 x h; exact lb256 x h)
  clear w0 hbl hb256 hrd hbs hln hhs hs256 w1 w2 hm hsl hf64 la256 lb256 hla hlb hna hnb hlu hls hnu hns v1 v2 z1 z2
  go_enter Try.func5, Try.ntmps5
  go_wp2_with fail
  refine HWK.out.mono ?_
  rintro e w1 ⟨rfl, hb1⟩
  go_wp2_with fail
  refine (HHD.out w1 hb1).mono ?_
  rintro e w2 ⟨C, f, rfl, hh2, hb2⟩
  have hbw2 := below_of' hb1 hb2
  have hh2 : Head hs w C m f w2 := ⟨hh2.1, own_base hh2.2 hb1.size⟩
  obtain ⟨hmf, hfm⟩ := hh2.cap
  clear hb1 hb2 HWK HHD
  have HH2 := Lib.hid hh2
  clear hh2
  go_wp2_with fail
  refine (HPU.out w2 C f HH2.out.reads).mono ?_
  clear HPU
  intro e w3 h
  obtain ⟨U, fu, rfl, hou, hb3⟩ := h.n HNU.out
  have HOU := Lib.hid hou
  have HH3 := Lib.hid (HH2.out.below hb3)
  have HL3 := Lib.hid (fun k hk => (HH2.out.2.lt k hk).2)
  have hbw3 := below_of' hbw2 hb3
  clear h hou
  go_wp2_with fail
  refine (HPI.out w3 C f HH3.out.reads).mono ?_
  clear HPI
  intro e w4 h
  obtain ⟨S, fs, rfl, hos, hb4⟩ := h.n HNS.out
  have HOS := Lib.hid hos
  have HH4 := Lib.hid (HH3.out.below hb4)
  have HL4 := Lib.hid (fun k hk => (HH3.out.2.lt k hk).2)
  have HU4 := Lib.hid (fun k hk => (HOU.out.lt k hk).2)
  have HOU4 := Lib.hid (own_below HOU.out hb4)
  have hbw4 := below_of' hbw3 hb4
  clear h hos
  go_wp2_with fail
  refine (HA.out w4).mono ?_
  clear HA
  intro e w5 h
  obtain ⟨A, fa, rfl, hoa, hb5⟩ := h.n HNA.out
  have HA5 := Lib.hid (Reads.of_own hoa)
  clear h hoa
  go_wp2_with fail
  refine (HB.out w5).mono ?_
  clear HB
  intro e w6 h
  obtain ⟨B, fb, rfl, hob, hb6⟩ := h.n HNB.out
  have hb46 := below_of' hb5 hb6
  have hps : PS w w6 C U S A B m f (m + na) fu (m + nb) fs na nb hs lu ls la lb :=
    ⟨below_of' hbw4 hb46, HH4.out.below hb46, ⟨_, own_below HOU4.out hb46, hbw2.size, HL3.out⟩, ⟨_, own_below HOS.out hb46, hbw3.size, HL4.out, HU4.out⟩, HA5.out.below hb6, Reads.of_own hob⟩
  have HPS := Lib.hid hps
  clear h hob hps HH2 HH3 HH4 HL3 HL4 HU4 HOU HOU4 HOS HA5 hb46 hbw2 hbw3 hbw4 hb3 hb4 hb5 hb6
  obtain ⟨i0, hi0, hz0, hz1, hz2⟩ := info_parts u8_info
  go_wp2_with fail
  refine (clone_b C m f hs w6 HPS.out.head.reads (by omega)).mono ?_
  rintro e w7 ⟨K, fK, rfl, hok, hb7⟩
  have HOK := Lib.hid hok
  have HP7 := Lib.hid (HPS.out.below hb7)
  have HB7 := Lib.hid hb7
  have hs7 := hb7.size
  clear hok hb7
  go_wp2_with (at_builtin; refine wpList_append_any _ rfl (.tmp 30) (.tmp 31) 29 rfl w6.heap.size 5 i0 (.int .u8 0) 1 1 Try.underlying29 hi0 hz0 hz1 hz2 rfl (by decide) (.slice K m fK) m _ rfl HOK.out A na fa (bsV la) rfl HP7.out.rd1 (bsV_one _) (by simp only [maxLen]; omega) (by omega) hs7 ?_; intro v' w8 hown' hg' hnil)
  obtain ⟨DK, dK, rfl, _, _⟩ := own_form hown'
  have HP8 := Lib.hid (HPS.out.below (HB7.out.grown hg' HB7.out.size (fun k hk => (HOK.out.lt k hk).1)))
  have HR8 := Lib.hid (Reads.of_own hown')
  clear hown' hg' hnil HOK HP7 HB7 hs7 HPS
  have hE := equal_bs (e1 := 5) (e2 := 5) U DK (m + na) (m + na) fu dK lu lu w8 HP8.out.reads1 (by rw [HLU.out, bsV_app]; exact HR8.out) (by omega)
  rw [decide_eq_true rfl] at hE
  refine hE.mono ?_
  rintro e w' ⟨rfl, q, rfl⟩
  clear hE HR8
  have HPS8 := Lib.hid (HP8.out.drewN q)
  clear HP8
  generalize w8.drewN q = w8' at *
  go_wp2_with fail
  refine (clone_b C m f hs w8' HPS8.out.head.reads (by omega)).mono ?_
  rintro e w9 ⟨L, fL, rfl, hok, hb7⟩
  have HOK := Lib.hid hok
  have HP7 := Lib.hid (HPS8.out.below hb7)
  have HB7 := Lib.hid hb7
  have hs7 := hb7.size
  clear hok hb7
  go_wp2_with (at_builtin; refine wpList_append_anyG _ rfl (.tmp 38) (.tmp 39) 29 rfl w8'.heap.size 5 i0 (.int .u8 0) 1 1 Try.underlying29 hi0 hz0 hz1 hz2 rfl (by decide) (.slice L m fL) m _ rfl HOK.out B nb fb (bsV lb) rfl HP7.out.rd2 (bsV_one _) (by simp only [maxLen]; omega) (by omega) hs7 ?_; intro v' w10 hown' hg' hnil)
  obtain ⟨DL, dL, rfl, _, _⟩ := own_form hown'
  have HP8 := Lib.hid (HPS8.out.below (HB7.out.grown hg' HB7.out.size (fun k hk => (HOK.out.lt k hk).1)))
  have HR8 := Lib.hid (Reads.of_own hown')
  clear hown' hg' hnil HOK HP7 HB7 hs7 HPS8
  have hE := equal_bs (e1 := 5) (e2 := 5) S DL (m + nb) (m + nb) fs dL ls ls w10 HP8.out.reads2 (by rw [HLS.out, bsV_app]; exact HR8.out) (by omega)
  rw [decide_eq_true rfl] at hE
  refine hE.mono ?_
  rintro e w' ⟨rfl, q, rfl⟩
  clear hE HR8
  have HPS10 := Lib.hid (HP8.out.drewN q)
  clear HP8
  generalize w10.drewN q = w10' at *
  go_wp2_with fail
  have HBY := Lib.hid (show Bytes w10' U (m + na) fu by obtain ⟨bu, h1, _⟩ := HPS10.out.own1; exact Bytes.of_own h1 HU256.out)
  have HBS := Lib.hid (show ∀ wx, w10'.grownBy wx (Value.slice U (m + na) fu).ownBlock → Bytes wx S (m + nb) fs by
    intro wx hg
    obtain ⟨_, _, bs, h1, _⟩ := HPS10.out.over1 hg
    exact Bytes.of_own h1 HS256.out)
  go_loopw [46] (fun v wr => ∃ i : Nat, i ≤ m + na ∧ v = .int .i64 (i : Nat) ∧ w10'.grownBy wr (Value.slice U (m + na) fu).ownBlock ∧ Bytes wr U (m + na) fu) (fun v _ => m + na - (intOf v).toNat)
  case atStart => exact ⟨0, Nat.zero_le _, rfl, World.grownBy.refl _ _, HBY.out⟩
  case round =>
    obtain ⟨i, hi, rfl, hgr, hby⟩ := hrel
    by_cases hlt : i < m + na
    · obtain ⟨g, x, y, rfl, c1, f1, l1, hx, hxy, hgr2, hby2⟩ := over_step hgr hby hlt
      have hle := hby.le
      have HG := Lib.hid hgr2
      have HY := Lib.hid hby2
      have hltI : (i : Int) < (m : Int) + (na : Int) := by omega
      clear hgr hby hgr2 hby2 HBY
      go_wp2
      exact ⟨⟨i + 1, by omega, by go_num, HG.out, HY.out⟩, by simp [intOf]; omega⟩
    · obtain rfl : i = m + na := by omega
      have HS := Lib.hid (HBS.out wr hgr)
      obtain ⟨hlow, hhead, bs', h4, h5, h6⟩ := HPS10.out.over1 hgr
      have HOV := Lib.hid (fun wx (h : wr.grownBy wx (Value.slice S (m + nb) fs).ownBlock) => over2 hlow hhead h4 h5 h6 h)
      clear hgr hby HBY HBS HPS10 hlow hhead h4 h5 h6 hlt
      go_wp2_with fail
      go_loopw [58] (fun v wx => ∃ i : Nat, i ≤ m + nb ∧ v = .int .i64 (i : Nat) ∧ wr.grownBy wx (Value.slice S (m + nb) fs).ownBlock ∧ Bytes wx S (m + nb) fs) (fun v _ => m + nb - (intOf v).toNat)
      case atStart => exact ⟨0, Nat.zero_le _, rfl, World.grownBy.refl _ _, HS.out⟩
      case round =>
        obtain ⟨i, hi, rfl, hgr, hby⟩ := hrel
        by_cases hlt : i < m + nb
        · obtain ⟨g, x, y, rfl, c1, f1, l1, hx, hxy, hgr2, hby2⟩ := over_step hgr hby hlt
          have hle := hby.le
          have HG := Lib.hid hgr2
          have HY := Lib.hid hby2
          have hltI : (i : Int) < (m : Int) + (nb : Int) := by omega
          clear hgr hby hgr2 hby2 HS HOV
          go_wp2
          exact ⟨⟨i + 1, by omega, by go_num, HG.out, HY.out⟩, by simp [intOf]; omega⟩
        · obtain rfl : i = m + nb := by omega
          obtain ⟨hlow, hhead⟩ := HOV.out _ hgr
          have HK := Lib.hid (HKP.out _ C f hlow _ hhead)
          have HLOW := Lib.hid hlow
          clear hgr hby HS HOV hlow hhead hlt HKP
          go_wp2_with fail
          refine HK.out.mono ?_
          rintro e w' ⟨rfl, q, rfl⟩
          have HLOW2 := Lib.hid (below_drewN HLOW.out q)
          clear HK HLOW
          go_wp2_with fail
          refine (HSU.out _).mono ?_
          rintro e w11 ⟨rfl, hb11⟩
          have HLOW3 := Lib.hid (below_of' HLOW2.out hb11)
          clear HSU HLOW2 hb11
          go_wp2_with fail
          refine (HSI.out _).mono ?_
          rintro e w12 ⟨rfl, hb12⟩
          have HLOW4 := Lib.hid (below_of' HLOW3.out hb12)
          clear HSI HLOW3 hb12
          go_wp2
          go_ret
          exact ⟨rfl, HLOW4.out⟩
end Go.Proofs.Ytcdkibpfgnmmfaa
