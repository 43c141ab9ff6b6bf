/- Walk of the law VaryList. -/
import Derived.Test.YtcdkibpfgnmmfaaVarZ
import Derived.Test.YtcdkibpfgnmmfaaLawJ
import Derived.Deep.RegionHeld3
namespace Go.Proofs.Ytcdkibpfgnmmfaa
open Go.RowKit Go.Shelf VB
set_option linter.unusedVariables false
theorem run_append_any2 {P : Program} {w : World} (base : Nat) (t ty e e2 : TypeId) (i : TypeInfo) (z : Value) (size bytes : Nat) (ht : P.underlying t = some (.slice e)) (hi : P.info? e = some i) (hz : i.zero = some z)
    (hsize : i.size = size) (hby : i.bytes = bytes) (hzs : z.cells.size = size) (hsz : 0 < size)
    (v : Value) (n : Nat) (xs : List Value) (hown : w.ownsRow base e size v n xs)
    (A : Option Addr) (m c : Nat) (news : List Value) (hr : Reads w e2 size A m news) (h1 : ∀ u ∈ news, u.oneCell' = true)
    (h63 : n + m ≤ maxLen) (hbytes : (n + m) * bytes ≤ 140737488355328) (hbase : base ≤ w.heap.size) :
    ∃ v' w', (Builtin.append_ #[t, t] ty #[v, .slice A m c]).run P w = .ok v' w' ∧ w'.ownsRow base e size v' (n + m) (xs ++ news) ∧ w.grownBy w' v.ownBlock ∧
      (v'.ownBlock = v.ownBlock ∨ v'.ownBlock = some w.heap.size) := by
  rcases A with _ | ad
  · have hm : m = 0 := by
      rcases Nat.eq_zero_or_pos m with h0 | h0
      · exact h0
      · obtain ⟨ad, h, _⟩ := hr.2 h0
        cases h
    subst hm
    have hn : news = [] := List.eq_nil_of_length_eq_zero (by simpa using hr.1)
    subst hn
    exact ⟨v, w, run_append_of_nil w base t ty e i size ht hi v n xs hown c, by simpa using hown, World.grownBy.refl w _, .inl rfl⟩
  · have hcells : ∀ j u, news[j]? = some u → w.cell? (ad.add j) = some u := by
      intro j u hu
      rcases Nat.eq_zero_or_pos m with h0 | h0
      · subst h0
        have hn : news = [] := List.eq_nil_of_length_eq_zero (by simpa using hr.1)
        subst hn
        simp at hu
      · obtain ⟨ad', h, _, hc⟩ := hr.2 h0
        injection h with h
        subst h
        exact hc j u hu
    obtain ⟨v', w', hrun, h2, h3, _, h5⟩ := run_append_own_at (P := P) w base t ty e i z size bytes ht hi hz hsize hby hzs hsz v n xs hown ad m c news hr.1 hcells h1 h63 hbytes hbase
    exact ⟨v', w', hrun, h2, h3, h5⟩
/-- append at a step of a region that draws, of a row whose type is not known -/
theorem step_append_any {P : Program} {w : World} {ops : Array Oper} {o : Oper} {a : Act} {K : Act → World → Prop} {Q : Exit → Act → World → Prop} {E : Prop} (hw : Region.wanted o (yielded ops a.tmps) = true) (s x : Operand) (t : TypeId)
    (ho : o.op = .call { callee := .builtin .append, args := #[s, x], argTypes := #[t, t] })
    (base : Nat) (e : TypeId) (i : TypeInfo) (z : Value) (size bytes : Nat) (ht : P.underlying t = some (.slice e)) (hi : P.info? e = some i) (hz : i.zero = some z)
    (hsize : i.size = size) (hby : i.bytes = bytes) (hzs : z.cells.size = size) (hsz : 0 < size)
    (v : Value) (n : Nat) (xs : List Value) (hs : a.eval s = v) (hown : w.ownsRow base e size v n xs)
    (A : Option Addr) (m c : Nat) (news : List Value) (hx : a.eval x = .slice A m c) {e2 : TypeId} (hr : Reads w e2 size A m news) (h1 : ∀ u ∈ news, u.oneCell' = true)
    (h63 : n + m ≤ maxLen) (hbytes : (n + m) * bytes ≤ 140737488355328) (hbase : base ≤ w.heap.size)
    (h : ∀ v' w', w'.ownsRow base e size v' (n + m) (xs ++ news) → w.grownBy w' v.ownBlock → (v'.ownBlock = v.ownBlock ∨ v'.ownBlock = some w.heap.size) → K (a.put o.dst v') w') :
    if Region.wanted o (yielded ops a.tmps) = true then Oper.wp P o a w K Q else E := by
  rw [if_pos hw]
  obtain ⟨v', w', hrun, h2, h3, h4⟩ := run_append_any2 (P := P) (w := w) base t o.type e e2 i z size bytes ht hi hz hsize hby hzs hsz v n xs hown A m c news hr h1 h63 hbytes hbase
  unfold Oper.wp execOp
  simp only [ho, resolve, invoke, builtin, Sem.run_bind, Sem.run_pure, Result.andThen_ok, List.map_toArray, List.map_cons, List.map_nil, hs, hx, hrun]
  exact h v' w' h2 h3 h4
/-- a row of bytes that came in, cut at m -/
theorem cut_in {w : World} {a : Option Addr} {len cap k : Nat} {zs : List Int} (h : RowIn .u8 w a len cap zs) (hk : k ≤ len) : ∃ e, ∃ l : List Nat, l.length = k ∧ (∀ x ∈ l, x < 256) ∧ Reads w e 1 a k (bsV l) := by
  obtain ⟨hbl, hb256, E, hrd⟩ := bytes_in h
  refine ⟨E, (bytesOf zs len).take k, by rw [List.length_take]; omega, fun x hx => hb256 x (List.mem_of_mem_take hx), ?_⟩
  have h2 := hrd.take hk
  rw [Nat.mul_one] at h2
  rw [show bsV ((bytesOf zs len).take k) = (bsV (bytesOf zs len)).take k by simp [bsV, List.map_take]]
  exact h2
set_option maxRecDepth 100000 in
set_option maxHeartbeats 4000000 in
theorem vList_core (a0 : Option Addr) (len0 cap0 : Nat) (z0 : List Int) (a1 : Option Addr) (len1 cap1 : Nat) (z1 : List Int) (a2 : Option Addr) (len2 cap2 : Nat) (z2 : List Int) (w : World) (w0 : RowIn .u8 w a0 len0 cap0 z0) (w1 : RowIn .i64 w a1 len1 cap1 z1) (w2 : RowIn .u8 w a2 len2 cap2 z2) :
    Calls Try.prog 7 #[.slice a0 len0 cap0, .slice a1 len1 cap1, .slice a2 len2 cap2] w fun e w' => e = .returned (.bool true) ∧ Below w.heap.size w w' := by
  obtain ⟨hbl, hb256, E, hrd⟩ := bytes_in w0
  obtain ⟨bs, hbs⟩ : ∃ bs, bs = bytesOf z0 len0 := ⟨_, rfl⟩
  rw [← hbs] at hbl hb256 hrd
  have hln := w0.len
  have hlc := hln.1
  have hcm := hln.2.2
  obtain ⟨m, hm⟩ : ∃ m, m = min len0 400 := ⟨_, rfl⟩
  have hm4 : m ≤ 400 := by omega
  have hln1 := w1.len
  have hlc1 := hln1.1
  have hcm1 := hln1.2.2
  obtain ⟨k, hk⟩ : ∃ k, k = min len1 60 := ⟨_, rfl⟩
  have hk6 : k ≤ 60 := by omega
  have hkc : k ≤ cap1 := by omega
  obtain ⟨E1, hrd1⟩ := rows_in w1 (show k ≤ len1 by omega)
  have hzr := i64_in w1 k (by omega)
  have hzl : (z1.take k).length = k := by rw [List.length_take]; omega
  obtain ⟨zs, hzs⟩ : ∃ zs, zs = z1.take k := ⟨_, rfl⟩
  rw [← hzs] at hrd1 hzr hzl
  have hln2 := w2.len
  have hlc2 := hln2.1
  have hcm2 := hln2.2.2
  obtain ⟨t, ht⟩ : ∃ t, t = min len2 30 := ⟨_, rfl⟩
  have ht3 : t ≤ 30 := by omega
  have htc : t ≤ cap2 := by omega
  have htl : t ≤ len2 := by omega
  obtain ⟨E2, tl, htll, ht256, hrd2⟩ := cut_in w2 htl
  have HWK := Lib.hid (wakes_c w)
  have HX := Lib.hid (fun w1 (hb1 : Below w.heap.size w w1) => hrd1.below hb1)
  have HT := Lib.hid (fun w1 (hb1 : Below w.heap.size w w1) => hrd2.below hb1)
  have HHD := Lib.hid (fun w1 (hb1 : Below w.heap.size w w1) => head_in a0 len0 m cap0 bs w1 (hrd.below hb1) hlc hcm hm)
  obtain ⟨hs, hhs⟩ : ∃ hs, hs = bs.take m := ⟨_, rfl⟩
  rw [← hhs] at HHD
  have hs256 : ∀ x ∈ hs, x < 256 := by intro x hx; rw [hhs] at hx; exact hb256 x (List.mem_of_mem_take hx)
  have hsl : hs.length = m := by rw [hhs, List.length_take]; omega
  have hrb := rowB_len zs hzr (by omega)
  have hrb256 := rowB_byte zs
  have hrb1 : 0 < (rowB zs).length := by unfold rowB; rw [List.length_append]; have := vb_len_pos zs.length; omega
  have HPR := Lib.hid (fun w' C f n bs L cl (h : Reads w' 5 1 C n (bsV bs)) (hn : n ≤ 900000) (hz : Reads w' 2 1 L k (zs.map (Value.int .i64))) => PutRow_c C L n f k cl bs zs w' h hn hz (by omega) hzr)
  have hg1 := rowG_put zs hs tl hzr (by omega)
  have hg2 := rowG_less zs hs tl (by omega)
  have hg3 := fun j hj => rowG_stop zs hs j hzr (by omega) hj
  rw [hsl, hzl] at hg1 hg2 hg3
  obtain ⟨lr, hlr⟩ : ∃ lr, lr = rowB zs := ⟨_, rfl⟩
  rw [← hlr] at hrb HPR hrb256 hrb1 hg1 hg2 hg3
  obtain ⟨nr, hnr⟩ : ∃ nr, nr = lr.length := ⟨_, rfl⟩
  rw [← hnr] at hrb1 hg1 hg3
  have hnr6 : nr ≤ 610 := by omega
  obtain ⟨lp, hlp⟩ : ∃ lp, lp = hs ++ (lr ++ tl) := ⟨_, rfl⟩
  rw [← hlp] at hg1 hg2
  have hnp : m + nr + t = lp.length := by rw [hlp, List.length_append, List.length_append]; omega
  have hp256 : ∀ x ∈ lp, x < 256 := by
    intro x hx
    rw [hlp] at hx
    rcases List.mem_append.1 hx with h | h
    · exact hs256 x h
    · rcases List.mem_append.1 h with h | h
      · exact hrb256 x h
      · exact ht256 x h
  have hcutl : ∀ j, j < nr → lp.take (m + j) = hs ++ lr.take j := by
    intro j hj
    rw [hlp, ← hsl, List.take_length_add_append, List.take_append_of_le_length (by omega)]
  obtain ⟨nx, hnx⟩ : ∃ nx, nx = m + nr := ⟨_, rfl⟩
  rw [← hnx] at hg1
  have hn1 : m < nx := by omega
  have hn2 : nx ≤ m + nr + t := by omega
  have HNX := Lib.hid hnx
  have HG1 := Lib.hid (fun w' P f (h : Reads w' 5 1 P (m + nr + t) (bsV lp)) (hf : m + nr + t ≤ f) (hfm : f ≤ maxLen) => by
    have := GetRow_c P (m + nr + t) f (m : Nat) (k : Nat) lp w' h (by omega) hf hfm hp256 (by omega)
    rw [hg1] at this
    exact this)
  have HG2 := Lib.hid (fun w' P f (hk0 : 0 < k) (h : Reads w' 5 1 P (m + nr + t) (bsV lp)) (hf : m + nr + t ≤ f) (hfm : f ≤ maxLen) => by
    have := GetRow_c P (m + nr + t) f (m : Nat) ((k : Nat) - 1) lp w' h (by omega) hf hfm hp256 (by omega)
    rw [hg2 hk0] at this
    exact this)
  have HG3 := Lib.hid (fun w' P f i (hmi : m ≤ i) (hi : i < nx) (h : Reads w' 5 1 P (m + nr + t) (bsV lp)) (hf : m + nr + t ≤ f) (hfm : f ≤ maxLen) => show Calls Try.prog 30 #[.slice P i f, .int .i64 (m : Nat), .int .i64 (k : Nat)] w' (RetR3 ([], 0, 6) w') by
    obtain ⟨j, rfl⟩ : ∃ j, i = m + j := ⟨i - m, by omega⟩
    have hj : j < nr := by omega
    have hr := h.take (k := m + j) (by omega)
    rw [Nat.mul_one, show (bsV lp).take (m + j) = bsV (lp.take (m + j)) by simp [bsV, List.map_take], hcutl j hj] at hr
    have := GetRow_c P (m + j) f (m : Nat) (k : Nat) (hs ++ lr.take j) w' hr (by omega) (by omega) hfm (fun x hx => hp256 x (List.mem_of_mem_take (by rw [hcutl j hj]; exact hx))) (by omega)
    rw [hg3 j hj] at this
    exact this)
  have HSLC := Lib.hid (fun w' cp fp (h : Reads w' 5 1 (some cp) (m + nr + t) (bsV lp)) (hf : m + nr + t ≤ fp) => show Reads w' 5 1 (some (cp.add m)) (nx - m) (bsV lr) by
      have h1 := h.cut (k := m) (cap := fp) (by omega) (by omega)
      rw [if_neg (by omega), Nat.mul_one] at h1
      have h2 := h1.take (k := nx - m) (by omega)
      rw [Nat.mul_one] at h2
      rw [show bsV lr = ((bsV lp).drop m).take (nx - m) by
        rw [hlp, ← hsl, bsV_app, List.drop_append_of_le_length (by rw [bsV_len]; omega), List.drop_of_length_le (by rw [bsV_len]; omega), List.nil_append, bsV_app, List.take_append_of_le_length (by rw [bsV_len]; omega), List.take_of_length_le (by rw [bsV_len]; omega)]]
      exact h2)
  have hmr : m + nr = (hs ++ lr).length := by rw [List.length_append]; omega
  have hlq : lp = (hs ++ lr) ++ tl := by rw [hlp, List.append_assoc]
  obtain ⟨lu, hlu⟩ : ∃ lu, lu = hs ++ lr := ⟨_, rfl⟩
  rw [← hlu] at hmr hlq
  have HLU := Lib.hid hlu
  have HLQ := Lib.hid hlq
  have HMR := Lib.hid hmr
  have HNR := Lib.hid hnr
  have HZL := Lib.hid hzl
  have HZR := Lib.hid hzr
  have hmin : ∀ w, (Builtin.min_ #[3, 3] 3 #[.int .i64 (len1 : Int), .int .i64 60]).run Try.prog w = .ok (.int .i64 (k : Nat)) w := by
    intro w
    rw [run_min_int2]
    have hdec : ((60 : Int) < (len1 : Int) ∧ k = 60) ∨ (¬ (60 : Int) < (len1 : Int) ∧ k = len1) := by omega
    rcases hdec with ⟨h, e⟩ | ⟨h, e⟩
    · rw [if_pos h, e]; rfl
    · rw [if_neg h, e]
  have hmin2 : ∀ w, (Builtin.min_ #[3, 3] 3 #[.int .i64 (len2 : Int), .int .i64 30]).run Try.prog w = .ok (.int .i64 (t : Nat)) w := by
    intro w
    rw [run_min_int2]
    have hdec : ((30 : Int) < (len2 : Int) ∧ t = 30) ∨ (¬ (30 : Int) < (len2 : Int) ∧ t = len2) := by omega
    rcases hdec with ⟨h, e⟩ | ⟨h, e⟩
    · rw [if_pos h, e]; rfl
    · rw [if_neg h, e]
  have i1 : (0 : Int) ≤ (t : Int) := by omega
  have i2 : (t : Int) ≤ (cap2 : Int) := by omega
  have j1 : (0 : Int) ≤ (m : Int) := by omega
  have j2 : (m : Int) ≤ (nx : Int) := by omega
  clear w0 w1 w2 hbl hb256 hrd hbs hln hhs hs256 hm hsl hln1 hk hrd1 hzr hzl hzs hrb hrb256 hlr hnr hlp hnp hp256 hcutl hnx hg1 hg2 hg3 hmr hlq hlu ht hln2 htll ht256 hrd2
  go_enter Try.func7, Try.ntmps7
  go_wp2_with fail
  refine HWK.out.mono ?_
  rintro e w1 ⟨rfl, hb1⟩
  go_wp2_with fail
  refine (clone_i (e' := E1) a1 k cap1 zs w1 (HX.out w1 hb1) (by omega)).mono ?_
  rintro e w2 ⟨L, fl, rfl, hol, hb2⟩
  have HB2 := Lib.hid (below_of' hb1 hb2)
  have HL2 := Lib.hid (Reads.of_own hol)
  have hkfl := own_cap hol
  clear hol hb1 hb2 HWK HX
  go_wp2_with fail
  refine (HHD.out w2 HB2.out).mono ?_
  rintro e w3 ⟨C, f, rfl, hh3, hb3⟩
  have HB3 := Lib.hid (below_of' HB2.out hb3)
  have HH3 := Lib.hid hh3.reads
  have HL3 := Lib.hid (HL2.out.below hb3)
  obtain ⟨hmf, hfm⟩ := hh3.cap
  clear hh3 hb3 HL2 HB2 HHD
  obtain ⟨i0, hi0, hz0, hz1, hz2⟩ := info_parts u8_info
  go_upto_region 5 with fail
  refine wp_region_noPanic ?_
  refine wp_region_held_drew (S := fun _ => True) (by kernel_rfl) trivial (fun hHeld => ?_)
  refine wpAnyH_take (i := 0) (v := ?_) rfl (by kernel_rfl) (by kernel_rfl) (by kernel_rfl) (fun _ _ _ h => h) (Or.inl ⟨by rfl, ?_⟩) (by assumption) ?_
  rotate_left
  · intro W hW
    go_simp
    try rfl
  simp only [List.getElem_toArray, List.getElem_cons_zero, Act.put, List.setIfInBounds_toArray, List.set_cons_zero, List.set_cons_succ]
  refine wpAnyH_take (i := 1) (v := ?_) rfl (by kernel_rfl) (by kernel_rfl) (by kernel_rfl) (fun _ _ _ h => h) (Or.inl ⟨by rfl, ?_⟩) (by assumption) ?_
  rotate_left
  · intro W hW
    go_simp
    try rfl
  simp only [List.getElem_toArray, List.getElem_cons_succ, List.getElem_cons_zero, Act.put, List.setIfInBounds_toArray, List.set_cons_zero, List.set_cons_succ]
  refine wpAnyH_take (i := 3) (v := ?_) rfl (by kernel_rfl) (by kernel_rfl) (by kernel_rfl) (fun _ _ _ h => h) (Or.inl ⟨by rfl, ?_⟩) (by assumption) ?_
  rotate_left
  · intro W hW
    go_simp
    try rfl
  simp only [List.getElem_toArray, List.getElem_cons_succ, List.getElem_cons_zero, Act.put, List.setIfInBounds_toArray, List.set_cons_zero, List.set_cons_succ]
  refine wpAnyH_take (i := 4) (v := ?_) rfl (by kernel_rfl) (by kernel_rfl) (by kernel_rfl) (fun _ _ _ h => h) (Or.inl ⟨by rfl, ?_⟩) (by assumption) ?_
  rotate_left
  · intro W hW
    go_simp
    try rfl
  simp only [List.getElem_toArray, List.getElem_cons_succ, List.getElem_cons_zero, Act.put, List.setIfInBounds_toArray, List.set_cons_zero, List.set_cons_succ]
  refine wpAnyH_take (i := 5) (v := ?_) rfl (by kernel_rfl) (by kernel_rfl) (by kernel_rfl) (fun _ _ _ h => h) (Or.inl ⟨by rfl, ?_⟩) (by assumption) ?_
  rotate_left
  · intro W hW
    go_simp
    try rfl
  simp only [List.getElem_toArray, List.getElem_cons_succ, List.getElem_cons_zero, Act.put, List.setIfInBounds_toArray, List.set_cons_zero, List.set_cons_succ]
  refine wpAnyH_take (i := 6) (v := ?_) rfl (by kernel_rfl) (by kernel_rfl) (by kernel_rfl) (fun _ _ _ h => h) (Or.inl ⟨by rfl, ?_⟩) (by assumption) ?_
  rotate_left
  · intro W hW
    go_simp
    try rfl
  simp only [List.getElem_toArray, List.getElem_cons_succ, List.getElem_cons_zero, Act.put, List.setIfInBounds_toArray, List.set_cons_zero, List.set_cons_succ]
  refine wpAnyH_take (i := 7) (v := ?_) rfl (by kernel_rfl) (by kernel_rfl) (by kernel_rfl) (fun _ _ _ h => h) (Or.inl ⟨by rfl, ?_⟩) (by assumption) ?_
  rotate_left
  · intro W hW
    go_simp
    try rfl
  simp only [List.getElem_toArray, List.getElem_cons_succ, List.getElem_cons_zero, Act.put, List.setIfInBounds_toArray, List.set_cons_zero, List.set_cons_succ]
  refine wpAnyH_ready (rs := [2]) (by kernel_rfl) (by simp) ?_
  refine AllReadyH.cons rfl (fun K hK => ?_) AllReadyH.nil
  go_simp
  refine (HPR.out _ C f m hs L fl HH3.out.drew (by omega) HL3.out.drew).mono ?_
  intro e w4 h
  rw [← HLU.out] at h
  obtain ⟨U, fu, rfl, hou, hb4⟩ := h.n HMR.out
  have hs4 := hb4.size
  have HOU := Lib.hid hou
  have HB4 := Lib.hid (show Below w3.heap.size w3 w4 from ⟨hb4.os, hb4.tape, hb4.output, hb4.size, hb4.block⟩)
  clear h hou hb4
  refine hK.out _ _ trivial (fun hHeld => ?_)
  clear hK K
  try simp only [List.getElem_toArray, List.getElem_cons_succ, List.getElem_cons_zero, Act.put, List.setIfInBounds_toArray, List.set_cons_zero, List.set_cons_succ]
  refine wpAnyH_ready (rs := [8]) (by kernel_rfl) (by simp) ?_
  refine AllReadyH.cons rfl (fun K hK => ?_) AllReadyH.nil
  refine step_append_any (e2 := E2) rfl (.tmp 32) (.tmp 37) 29 rfl w3.heap.size 5 i0 (.int .u8 0) 1 1 Try.underlying29 hi0 hz0 hz1 hz2 rfl (by decide) (.slice U (m + nr) fu) (m + nr) _ rfl HOU.out a2 t cap2 (bsV tl) rfl (HT.out _ (below_of' HB3.out HB4.out)) (bsV_one _) (by simp only [maxLen]; omega) (by omega) hs4 ?_
  intro v' w5 hown' hg' hnil
  refine hK.out _ _ trivial (fun hHeld => ?_)
  clear hK K
  try simp only [List.getElem_toArray, List.getElem_cons_succ, List.getElem_cons_zero, Act.put, List.setIfInBounds_toArray, List.set_cons_zero, List.set_cons_succ]
  refine wpAnyH_take (i := 9) (v := ?_) rfl (by kernel_rfl) (by kernel_rfl) (by kernel_rfl) (fun _ _ _ h => h) (Or.inl ⟨by rfl, ?_⟩) (by assumption) ?_
  rotate_left
  · intro W hW
    go_simp
    try rfl
  simp only [List.getElem_toArray, List.getElem_cons_succ, List.getElem_cons_zero, Act.put, List.setIfInBounds_toArray, List.set_cons_zero, List.set_cons_succ]
  refine wpAnyH_done (by kernel_rfl) ?_ _
  refine NoPanic.normal ?_
  obtain ⟨P, fp, rfl, _, hfp⟩ := own_form hown'
  have hpf := own_cap hown'
  have hb35 : Below w3.heap.size w3 w5 := HB4.out.grown hg' HB4.out.size (fun j hj => (HOU.out.lt j hj).1)
  have HBW5 := Lib.hid (below_of' HB3.out hb35)
  have HL5 := Lib.hid (HL3.out.below hb35)
  obtain ⟨cp, hP, _⟩ := (Reads.of_own hown').2 (by omega)
  subst hP
  have hrp := Reads.of_own hown'
  rw [← bsV_app, ← HLQ.out] at hrp
  have HP5 := Lib.hid hrp
  have f1' : ¬ fp = m := by omega
  have f2' : (nx : Int) ≤ (fp : Int) := by omega
  clear hown' hg' hnil hrp hb35 HB4 HB3 HL3 HH3 HOU hs4 hHeld HT HMR HLU HLQ
  go_wp2_with fail
  refine (HG1.out w5 (some cp) fp HP5.out hpf hfp).mono ?_
  clear HG1
  rintro e w6 ⟨R1, f1, rfl, hf1, hr1, hb6⟩
  dsimp only at hr1 hf1 ⊢
  rw [HZL.out] at hr1 hf1 ⊢
  have HR6 := Lib.hid hr1
  have HP6 := Lib.hid (HP5.out.below hb6)
  have HL6 := Lib.hid (HL5.out.below hb6)
  have HBW6 := Lib.hid (below_of' HBW5.out hb6)
  clear hr1 hb6 HP5 HL5 HBW5
  go_upto_region 7 with fail
  refine wp_region_noPanic ?_
  refine wp_region_held_drew (S := fun _ => True) (by kernel_rfl) trivial (fun hHeld => ?_)
  refine wpAnyH_take (i := 0) (v := ?_) rfl (by kernel_rfl) (by kernel_rfl) (by kernel_rfl) (fun _ _ _ h => h) (Or.inl ⟨by rfl, ?_⟩) (by assumption) ?_
  rotate_left
  · intro W hW
    go_simp
    try rfl
  simp only [List.getElem_toArray, List.getElem_cons_zero, Act.put, List.setIfInBounds_toArray, List.set_cons_zero, List.set_cons_succ]
  refine wpAnyH_take (i := 1) (v := ?_) rfl (by kernel_rfl) (by kernel_rfl) (by kernel_rfl) (fun _ _ _ h => h) (Or.inl ⟨by rfl, ?_⟩) (by assumption) ?_
  rotate_left
  · intro W hW
    go_simp
    try rfl
  simp only [List.getElem_toArray, List.getElem_cons_succ, List.getElem_cons_zero, Act.put, List.setIfInBounds_toArray, List.set_cons_zero, List.set_cons_succ]
  refine wpAnyH_take (i := 2) (v := ?_) rfl (by kernel_rfl) (by kernel_rfl) (by kernel_rfl) (fun _ _ _ h => h) (Or.inl ⟨by rfl, ?_⟩) (by assumption) ?_
  rotate_left
  · intro W hW
    go_simp
    try rfl
  simp only [List.getElem_toArray, List.getElem_cons_succ, List.getElem_cons_zero, Act.put, List.setIfInBounds_toArray, List.set_cons_zero, List.set_cons_succ]
  refine wpAnyH_take (i := 3) (v := ?_) rfl (by kernel_rfl) (by kernel_rfl) (by kernel_rfl) (fun _ _ _ h => h) (Or.inl ⟨by rfl, ?_⟩) (by assumption) ?_
  rotate_left
  · intro W hW
    go_simp
    try rfl
  simp only [List.getElem_toArray, List.getElem_cons_succ, List.getElem_cons_zero, Act.put, List.setIfInBounds_toArray, List.set_cons_zero, List.set_cons_succ]
  refine wpAnyH_take (i := 4) (v := ?_) rfl (by kernel_rfl) (by kernel_rfl) (by kernel_rfl) (fun _ _ _ h => h) (Or.inl ⟨by rfl, ?_⟩) (by assumption) ?_
  rotate_left
  · intro W hW
    go_simp
    try rfl
  simp only [List.getElem_toArray, List.getElem_cons_succ, List.getElem_cons_zero, Act.put, List.setIfInBounds_toArray, List.set_cons_zero, List.set_cons_succ]
  refine wpAnyH_ready (rs := [5]) (by kernel_rfl) (by simp) ?_
  refine AllReadyH.cons rfl (fun K hK => ?_) AllReadyH.nil
  go_simp
  have hE := equal_i (e1 := 2) (e2 := 2) R1 L k k f1 fl zs zs w6.drew HR6.out.drew HL6.out.drew (by omega)
  rw [decide_eq_true rfl] at hE
  refine hE.mono ?_
  rintro e w' ⟨rfl, q, rfl⟩
  refine hK.out _ _ trivial (fun hHeld => ?_)
  clear hK K
  try simp only [List.getElem_toArray, List.getElem_cons_succ, List.getElem_cons_zero, Act.put, List.setIfInBounds_toArray, List.set_cons_zero, List.set_cons_succ]
  refine wpAnyH_take (i := 6) (v := ?_) rfl (by kernel_rfl) (by kernel_rfl) (by kernel_rfl) (fun _ _ _ h => h) (Or.inl ⟨by rfl, ?_⟩) (by assumption) ?_
  rotate_left
  · intro W hW
    go_simp
    try rfl
  simp only [List.getElem_toArray, List.getElem_cons_succ, List.getElem_cons_zero, Act.put, List.setIfInBounds_toArray, List.set_cons_zero, List.set_cons_succ]
  refine wpAnyH_take (i := 7) (v := ?_) rfl (by kernel_rfl) (by kernel_rfl) (by kernel_rfl) (fun _ _ _ h => h) (Or.inl ⟨by rfl, ?_⟩) (by assumption) ?_
  rotate_left
  · intro W hW
    go_simp
    try rfl
  simp only [List.getElem_toArray, List.getElem_cons_succ, List.getElem_cons_zero, Act.put, List.setIfInBounds_toArray, List.set_cons_zero, List.set_cons_succ]
  refine wpAnyH_take (i := 8) (v := ?_) rfl (by kernel_rfl) (by kernel_rfl) (by kernel_rfl) (fun _ _ _ h => h) (Or.inl ⟨by rfl, ?_⟩) (by assumption) ?_
  rotate_left
  · intro W hW
    go_simp
    try rfl
  simp only [List.getElem_toArray, List.getElem_cons_succ, List.getElem_cons_zero, Act.put, List.setIfInBounds_toArray, List.set_cons_zero, List.set_cons_succ]
  refine wpAnyH_take (i := 9) (v := ?_) rfl (by kernel_rfl) (by kernel_rfl) (by kernel_rfl) (fun _ _ _ h => h) (Or.inl ⟨by rfl, ?_⟩) (by assumption) ?_
  rotate_left
  · intro W hW
    go_simp
    try rfl
  simp only [List.getElem_toArray, List.getElem_cons_succ, List.getElem_cons_zero, Act.put, List.setIfInBounds_toArray, List.set_cons_zero, List.set_cons_succ]
  refine wpAnyH_take (i := 11) (v := ?_) rfl (by kernel_rfl) (by kernel_rfl) (by kernel_rfl) (fun _ _ _ h => h) (Or.inl ⟨by rfl, ?_⟩) (by assumption) ?_
  rotate_left
  · intro W hW
    go_simp
    try rfl
  simp only [List.getElem_toArray, List.getElem_cons_succ, List.getElem_cons_zero, Act.put, List.setIfInBounds_toArray, List.set_cons_zero, List.set_cons_succ]
  refine wpAnyH_take (i := 12) (v := ?_) rfl (by kernel_rfl) (by kernel_rfl) (by kernel_rfl) (fun _ _ _ h => h) (Or.inl ⟨by rfl, ?_⟩) (by assumption) ?_
  rotate_left
  · intro W hW
    go_simp
    try rfl
  simp only [List.getElem_toArray, List.getElem_cons_succ, List.getElem_cons_zero, Act.put, List.setIfInBounds_toArray, List.set_cons_zero, List.set_cons_succ]
  refine wpAnyH_take (i := 13) (v := ?_) rfl (by kernel_rfl) (by kernel_rfl) (by kernel_rfl) (fun _ _ _ h => h) (Or.inl ⟨by rfl, ?_⟩) (by assumption) ?_
  rotate_left
  · intro W hW
    go_simp
    try rfl
  simp only [List.getElem_toArray, List.getElem_cons_succ, List.getElem_cons_zero, Act.put, List.setIfInBounds_toArray, List.set_cons_zero, List.set_cons_succ]
  refine wpAnyH_take (i := 14) (v := ?_) rfl (by kernel_rfl) (by kernel_rfl) (by kernel_rfl) (fun _ _ _ h => h) (Or.inl ⟨by rfl, ?_⟩) (by assumption) ?_
  rotate_left
  · intro W hW
    go_simp
    try rfl
  simp only [List.getElem_toArray, List.getElem_cons_succ, List.getElem_cons_zero, Act.put, List.setIfInBounds_toArray, List.set_cons_zero, List.set_cons_succ]
  refine wpAnyH_take (i := 15) (v := ?_) rfl (by kernel_rfl) (by kernel_rfl) (by kernel_rfl) (fun _ _ _ h => h) (Or.inl ⟨by rfl, ?_⟩) (by assumption) ?_
  rotate_left
  · intro W hW
    go_simp
    try rfl
  simp only [List.getElem_toArray, List.getElem_cons_succ, List.getElem_cons_zero, Act.put, List.setIfInBounds_toArray, List.set_cons_zero, List.set_cons_succ]
  refine wpAnyH_ready (rs := [10]) (by kernel_rfl) (by simp) ?_
  refine AllReadyH.cons rfl (fun K hK => ?_) AllReadyH.nil
  go_simp
  refine (HPR.out (w6.drewN (1 + q)) none 0 0 [] R1 f1 Reads.none_ (by decide) (HR6.out.drewN _)).mono ?_
  intro e w7 h
  rw [List.nil_append] at h
  obtain ⟨U2, fu2, rfl, hou, hb7⟩ := h.n HNR.out
  have HOU := Lib.hid (Reads.of_own hou)
  have HB7 := Lib.hid (show Below w6.heap.size w6 w7 from ⟨hb7.os, hb7.tape, hb7.output, hb7.size, hb7.block⟩)
  clear h hou hb7
  refine hK.out _ _ trivial (fun hHeld => ?_)
  clear hK K
  try simp only [List.getElem_toArray, List.getElem_cons_succ, List.getElem_cons_zero, Act.put, List.setIfInBounds_toArray, List.set_cons_zero, List.set_cons_succ]
  refine wpAnyH_ready (rs := [16]) (by kernel_rfl) (by simp) ?_
  refine AllReadyH.cons rfl (fun K hK => ?_) AllReadyH.nil
  go_simp
  have hE2 := equal_bs (e1 := 5) (e2 := 5) U2 (some (cp.add m)) nr (nx - m) fu2 (fp - m) lr lr w7 HOU.out (HSLC.out w7 cp fp (HP6.out.below HB7.out) hpf) (by omega)
  rw [decide_eq_true rfl] at hE2
  refine hE2.mono ?_
  rintro e w' ⟨rfl, q2, rfl⟩
  refine hK.out _ _ trivial (fun hHeld => ?_)
  clear hK K
  try simp only [List.getElem_toArray, List.getElem_cons_succ, List.getElem_cons_zero, Act.put, List.setIfInBounds_toArray, List.set_cons_zero, List.set_cons_succ]
  refine wpAnyH_take (i := 17) (v := ?_) rfl (by kernel_rfl) (by kernel_rfl) (by kernel_rfl) (fun _ _ _ h => h) (Or.inl ⟨by rfl, ?_⟩) (by assumption) ?_
  rotate_left
  · intro W hW
    go_simp
    try rfl
  simp only [List.getElem_toArray, List.getElem_cons_succ, List.getElem_cons_zero, Act.put, List.setIfInBounds_toArray, List.set_cons_zero, List.set_cons_succ]
  refine wpAnyH_take (i := 18) (v := ?_) rfl (by kernel_rfl) (by kernel_rfl) (by kernel_rfl) (fun _ _ _ h => h) (Or.inl ⟨by rfl, ?_⟩) (by assumption) ?_
  rotate_left
  · intro W hW
    go_simp
    try rfl
  simp only [List.getElem_toArray, List.getElem_cons_succ, List.getElem_cons_zero, Act.put, List.setIfInBounds_toArray, List.set_cons_zero, List.set_cons_succ]
  refine wpAnyH_done (by kernel_rfl) ?_ _
  refine NoPanic.normal ?_
  have HP7 := Lib.hid ((HP6.out.below HB7.out).drewN q2)
  have HBW7 := Lib.hid (below_drewN (below_of' HBW6.out HB7.out) q2)
  clear HPR HR6 HL6 HOU HSLC HP6 HBW6 HB7 hE hE2 hHeld HNR
  generalize w7.drewN q2 = w8 at *
  by_cases hk0 : 0 < k
  · have t1 : (0 : Int) < (k : Int) := by omega
    go_wp2_with fail
    refine (HG2.out w8 (some cp) fp hk0 HP7.out hpf hfp).mono ?_
    clear HG2
    rintro e w9 ⟨R2, f2, rfl, hf2, hr2, hb9⟩
    dsimp only at hr2 hf2 ⊢
    have HP9 := Lib.hid (HP7.out.below hb9)
    have HBW9 := Lib.hid (below_of' HBW7.out hb9)
    clear hr2 hb9 HP7 HBW7
    go_wp2_with fail
    go_loopw [16] (fun v wr => ∃ i : Nat, m ≤ i ∧ i ≤ nx ∧ v = .int .i64 (i : Nat) ∧ Below w9.heap.size w9 wr) (fun v _ => nx - (intOf v).toNat)
    case atStart => exact ⟨m, Nat.le_refl _, by omega, rfl, Below.refl _ _⟩
    case round =>
      obtain ⟨i, hmi, hi, rfl, hbr⟩ := hrel
      by_cases hlt : i < nx
      · have q1 : (i : Int) < (nx : Int) := by omega
        have q2 : (i : Int) ≤ (fp : Int) := by omega
        have G := Lib.hid (HG3.out _ (some cp) fp i hmi hlt (HP9.out.below hbr) hpf hfp)
        have HBR := Lib.hid hbr
        clear hbr
        go_wp2_with fail
        refine G.out.mono ?_
        rintro e w11 ⟨R2, f2, rfl, hf2, hr2, hb2⟩
        dsimp only at hr2 hf2 ⊢
        have HB2 := Lib.hid (below_of' HBR.out hb2)
        clear hr2 hb2 HBR G
        go_wp2_with fail
        exact ⟨⟨i + 1, by omega, by omega, by go_num, HB2.out⟩, by simp [intOf]; omega⟩
      · obtain rfl : i = nx := by omega
        clear hlt
        have HBR := Lib.hid (below_of' HBW9.out hbr)
        clear hbr
        go_wp2_with fail
        go_ret
        exact ⟨rfl, HBR.out⟩
  · have t1 : decide ((0 : Int) < (k : Int)) = false := decide_eq_false (by omega)
    have HP9 := HP7
    have HBW9 := HBW7
    clear HG2 HP7 HBW7
    generalize w8 = w9 at *
    go_wp2_with fail
    go_loopw [16] (fun v wr => ∃ i : Nat, m ≤ i ∧ i ≤ nx ∧ v = .int .i64 (i : Nat) ∧ Below w9.heap.size w9 wr) (fun v _ => nx - (intOf v).toNat)
    case atStart => exact ⟨m, Nat.le_refl _, by omega, rfl, Below.refl _ _⟩
    case round =>
      obtain ⟨i, hmi, hi, rfl, hbr⟩ := hrel
      by_cases hlt : i < nx
      · have q1 : (i : Int) < (nx : Int) := by omega
        have q2 : (i : Int) ≤ (fp : Int) := by omega
        have G := Lib.hid (HG3.out _ (some cp) fp i hmi hlt (HP9.out.below hbr) hpf hfp)
        have HBR := Lib.hid hbr
        clear hbr
        go_wp2_with fail
        refine G.out.mono ?_
        rintro e w11 ⟨R2, f2, rfl, hf2, hr2, hb2⟩
        dsimp only at hr2 hf2 ⊢
        have HB2 := Lib.hid (below_of' HBR.out hb2)
        clear hr2 hb2 HBR G
        go_wp2_with fail
        exact ⟨⟨i + 1, by omega, by omega, by go_num, HB2.out⟩, by simp [intOf]; omega⟩
      · obtain rfl : i = nx := by omega
        clear hlt
        have HBR := Lib.hid (below_of' HBW9.out hbr)
        clear hbr
        go_wp2_with fail
        go_ret
        exact ⟨rfl, HBR.out⟩
end Go.Proofs.Ytcdkibpfgnmmfaa
