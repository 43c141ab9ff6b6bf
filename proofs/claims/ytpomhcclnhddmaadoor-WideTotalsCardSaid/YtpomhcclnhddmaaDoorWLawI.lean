/- Walks of the laws over wide: WideTotals. -/
import Derived.Test.YtpomhcclnhddmaaDoorWidT
import Derived.Laws.Small
import Derived.Lib.SliceRun
namespace Go.Proofs.YtpomhcclnhddmaaDoor
open Go.RowKit Go.Shelf
open Go.Lib (hid)
set_option linter.unusedVariables false
/-- append of a row that lies in a block of whatever elements, or of nothing -/
theorem wpList_append_src {P : Program} (w : World) {ops : Array Oper} {rest : List Oper} {o : Oper} {a : Act} {Q : Exit → Act → World → Prop} (hgd : o.guard = none) (s x : Operand) (t : TypeId)
    (ho : o.op = .call { callee := .builtin .append, args := #[s, x], argTypes := #[t, t] })
    (base : Nat) (e : TypeId) (i : TypeInfo) (z : Value) (size bytes : Nat) (ht : P.underlying t = some (.slice e)) (hi : P.info? e = some i) (hz : i.zero = some z)
    (hsize : i.size = size) (hby : i.bytes = bytes) (hzs : z.cells.size = size) (hsz : 0 < size)
    (v : Value) (n : Nat) (xs : List Value) (hs : a.eval s = v) (hown : w.ownsRow base e size v n xs)
    (e' : TypeId) (A : Option Addr) (m c : Nat) (news : List Value) (hx : a.eval x = .slice A m c) (hr : Reads w e' size A m news) (h1 : ∀ u ∈ news, u.oneCell' = true)
    (h63 : n + m ≤ maxLen) (hbytes : (n + m) * bytes ≤ 140737488355328) (hbase : base ≤ w.heap.size)
    (h : ∀ v' w', w'.ownsRow base e size v' (n + m) (xs ++ news) → w.grownBy w' v.ownBlock → wpList P ops Q rest (a.put o.dst v') w') : wpList P ops Q (o :: rest) a w := by
  rcases Nat.eq_zero_or_pos m with h0 | h0
  · subst h0
    have hn : news = [] := List.eq_nil_of_length_eq_zero (by simpa using hr.1)
    subst hn
    exact wpList_append_any w hgd s x t ho base e i z size bytes ht hi hz hsize hby hzs hsz v n xs hs hown A 0 c [] hx ⟨by simp, fun h => absurd h (by omega)⟩ h1 h63 hbytes hbase (fun v' w' h2 h3 _ => h v' w' h2 h3)
  · obtain ⟨ad, rfl, _, hc⟩ := hr.2 h0
    exact wpList_append_own _ hgd s x t ho base e i z size bytes ht hi hz hsize hby hzs hsz v n xs hs hown ad m c news hx hr.1 hc h1 h63 hbytes hbase (fun v' w' h2 h3 _ => h v' w' h2 h3)
theorem own_empty2 (w : World) (e : TypeId) (size : Nat) : (w.alloc (.cells #[] e)).ownsRow w.heap.size e size (.slice (some ⟨w.heap.size, 0, none⟩) 0 0) 0 [] :=
  ⟨by simp, .inr ⟨w.heap.size, 0, #[], rfl, Nat.le_refl _, heap_alloc_new w _, Nat.le_refl _, Nat.zero_le _, by simp, by simp⟩⟩
theorem wide_info : (Tryd.prog.info? 24).map (fun i => (i.zero, i.size, i.bytes)) = some (some (wv 0 0), 2, 16) := by kernel_rfl
theorem info_parts3 {P : Program} {e : TypeId} {z : Value} {s b : Nat} (h : (P.info? e).map (fun i => (i.zero, i.size, i.bytes)) = some (some z, s, b)) : ∃ i, P.info? e = some i ∧ i.zero = some z ∧ i.size = s ∧ i.bytes = b := by
  cases hi : P.info? e with
  | none => rw [hi] at h; simp at h
  | some i => rw [hi] at h; simp at h; exact ⟨i, rfl, h.1, h.2.1, h.2.2⟩
theorem cellsW_one (l : List Int) : ∀ v ∈ l.flatMap cellsW, v.oneCell' = true := by
  intro v hv
  rw [List.mem_flatMap] at hv
  obtain ⟨x, _, hx⟩ := hv
  simp only [cellsW, List.mem_cons, List.not_mem_nil, or_false] at hx
  rcases hx with rfl | rfl <;> rfl
def InvT (ov : Bool) (S : Int) (Xs : List Int) (i : Nat) : Prop := (ov = false ∧ inW S ∧ sumW 0 Xs = sumW S (Xs.drop i)) ∨ (ov = true ∧ ¬ inW S ∧ sumW 0 Xs = S)
set_option maxRecDepth 100000 in
set_option maxHeartbeats 4000000 in
theorem wTotals_core {e' : TypeId} (A : Option Addr) (n c : Nat) (Zs : List Int) (w : World) (hz : Reads w e' 2 A n (Zs.flatMap cellsW)) (hX : ∀ i, i < n → inW (Zs.getD i 0)) (hnc : n ≤ c) (hc : c ≤ maxLen) (htab : Tab w) :
    Calls Tryd.prog 9 #[.slice A n c] w fun e w' => e = .returned (.bool true) ∧ Below w.heap.size w w' := by
  have hzl : Zs.length = n := by have := hz.1; rw [cellsW_len] at this; omega
  obtain ⟨m, hm⟩ : ∃ m, m = min n 20 := ⟨_, rfl⟩
  have hz2 : Reads w e' 2 A m ((Zs.take m).flatMap cellsW) := by
    have h1 := hz.take (k := m) (by omega)
    have h2 : (Zs.flatMap cellsW).take (m * 2) = (Zs.take m).flatMap cellsW := by
      conv => lhs; rw [← List.take_append_drop m Zs, List.flatMap_append]
      rw [List.take_append_of_le_length (by rw [cellsW_len, List.length_take]; omega), List.take_of_length_le (by rw [cellsW_len, List.length_take]; omega)]
    rw [h2] at h1
    exact h1
  obtain ⟨Xs, hXs⟩ : ∃ Xs, Xs = Zs.take m := ⟨_, rfl⟩
  rw [← hXs] at hz2
  have hXl : Xs.length = m := by rw [hXs, List.length_take]; omega
  have hXX : ∀ i, i < m → inW (Xs.getD i 0) := by
    intro i hi
    have e1 : Xs.getD i 0 = Zs.getD i 0 := by
      rw [hXs, List.getD_eq_getElem?_getD, List.getD_eq_getElem?_getD, List.getElem?_take_of_lt hi]
    rw [e1]
    exact hX i (by omega)
  have HZ := hid hz2
  have HX := hid hXX
  have HL := hid hXl
  have HTAB := hid htab
  have HWK := hid (fun w h => wakes_c w h)
  have hm20 : m ≤ 20 := by omega
  have hmc : m ≤ c := by omega
  have hmc2 : ((m : Nat) : Int) ≤ (c : Nat) := by omega
  have hdec : ((20 : Int) < (n : Int) ∧ m = 20) ∨ (¬ (20 : Int) < (n : Int) ∧ m = n) := by omega
  have hmin : ∀ w, (Builtin.min_ #[3, 3] 3 #[.int .i64 (n : Int), .int .i64 20]).run Tryd.prog w = .ok (.int .i64 (m : Nat)) w := by
    intro w
    rw [run_min_int2]
    rcases hdec with ⟨h, e⟩ | ⟨h, e⟩
    · rw [if_pos h, e]; rfl
    · rw [if_neg h, e]
  obtain ⟨i0, hi0, hz0, hz1, hz2'⟩ := info_parts3 wide_info
  clear hz hX hzl hz2 hXX hXl hXs htab hdec hm
  have hw := Below.refl w.heap.size w
  have ht := HTAB.out.below hw
  go_enter Tryd.func9, Tryd.ntmps9
  go_wp2_with fail
  refine (HWK.out _ ht).mono ?_
  rintro e w1 ⟨rfl, hb1⟩
  have hw := below_two hw hb1
  have hzz := HZ.out.below hw
  clear ht hb1 HWK
  go_wp2_with (at_builtin; refine wpList_append_src _ rfl (.tmp 11) (.tmp 16) 56 rfl w1.heap.size 24 i0 (wv 0 0) 2 16 Tryd.underlying56 hi0 hz0 hz1 hz2' rfl (by decide) _ 0 [] rfl (own_empty2 w1 24 2) e' A m c (Xs.flatMap cellsW) rfl (hzz.alloc _) (cellsW_one Xs) (by simp only [maxLen]; omega) (by omega) (by simp) ?_; intro v' w' hown' hg')
  rw [Nat.zero_add] at hown'
  obtain ⟨C, f, rfl, hmf, hfm⟩ := own_form hown'
  have hB2 : Below w1.heap.size w1 w' := ((Below.refl _ w1).alloc (Nat.le_refl _) _).grown hg' (by simp) (by intro k hk; cases hk; exact Nat.le_refl _)
  have hr : Reads w' 24 2 C m (Xs.flatMap cellsW) := by have := Reads.of_own hown'; simpa using this
  have hw := below_two hw hB2
  have hzz := 0
  clear hown' hg' hB2 hzz hmin hi0 hz0 hz1 hz2'
  refine (int_c 0 w' (by decide) (by decide)).mono ?_
  rintro e w2 ⟨b1, A1, p1, d1, rfl, hn, hb2⟩
  have hr := hr.below hb2
  have hw2 := below_two hw hb2
  have hn0 := hn
  clear hb2 hn hw
  go_wp2_with fail
  go_loopw [4, 21] (fun u4 u21 wr => ∃ (i : Nat) (S : Int) (ov : Bool) (b : Bool) (A : Option Addr) (p d : Nat), i ≤ m ∧ u21 = .int .i64 (i : Nat) ∧ u4 = .bool ov ∧ Hid (InvT ov S Xs i) ∧ Hid (-(2 ^ 512 : Int) ≤ S ∧ S ≤ 2 ^ 512) ∧
    Blk wr w2.heap.size 28 #[.bool b, .slice A p d] ∧ NumIs wr S b A p d ∧ Below w2.heap.size w2 wr)
    (fun _ u21 _ => m - (RowKit.intOf u21).toNat)
  case atStart => exact ⟨0, 0, false, b1, A1, p1, d1, Nat.zero_le _, rfl, rfl, hid (.inl ⟨rfl, by decide, rfl⟩), hid (by omega), Blk.new _ _ _, hn0.alloc _, (Below.refl _ _).alloc (Nat.le_refl _) _⟩
  case round =>
    obtain ⟨i, S, ov, bs, As, ps, ds, hi, rfl, rfl, HINV, HBD, ks, hn, hB⟩ := hrel
    have hr2 := hr.below hB
    have hw := below_two hw2 hB
    by_cases hlt : i < m
    · obtain ⟨ad, rfl, c0, c1⟩ := wreads_at hr2 hlt
      have hXi := HX.out i hlt
      have HST := hid (fun S => sumW_step (S := S) (show i < Xs.length by rw [HL.out]; exact hlt))
      obtain ⟨X, hXe⟩ : ∃ X, X = Xs.getD i 0 := ⟨_, rfl⟩
      rw [← hXe] at c0 c1 hXi HST
      have HOX := hid (fun w => ofn_c X hXi w)
      have HTX := hid (fun w h => text_wv X hXi w h)
      have HRT := hid (fun (w : World) b A p c (h : NumIs w X b A p c) (hp : p ≤ 100000) => Text_c h hp (by omega))
      unfold RetS at HRT
      have HXI := hid hXi
      have HBX := hid (show -(2 ^ 512 : Int) ≤ X ∧ X ≤ 2 ^ 512 by omega)
      clear hXe hXi hr2
      rw [← add_of_add] at c1
      have c2 : wr.cell? ⟨(ad.add (i * 2)).block, (ad.add (i * 2)).off + 1, none⟩ = some (.int .u64 (loW X)) := c1
      clear c1
      generalize hiW X = xh at *
      generalize loW X = xl at *
      generalize bsS (Lib.itoa X) = tx at *
      go_upto_region 8 with fail
      have kx := Blk.new wr 24 #[.int .i64 xh, .int .u64 xl]
      have ks := ks.alloc (oW xh xl)
      have hn := hn.alloc (oW xh xl)
      have hB := below_alloc hB (Nat.le_refl _) (oW xh xl)
      have hw := below_alloc hw (Nat.le_refl _) (oW xh xl)
      clear c0 c2
      generalize wr.alloc (oW xh xl) = w3 at *
      generalize wr.heap.size = gx at *
      refine wp_region_noPanic ?_
      refine wp_region_held_drew (S := (fun w' => Below w3.heap.size w3 w')) (by kernel_rfl) (Below.refl w3.heap.size w3).drew (fun hHeld => ?_)
      clear hHeld
      have hC : Below w3.heap.size w3 w3.drew := (Below.refl w3.heap.size w3).drew
      refine wpAnyH_take (i := 0) (v := ?_) rfl (by kernel_rfl) (by kernel_rfl) (by kernel_rfl) (fun _ _ _ h => h) (Or.inl ⟨by rfl, ?_⟩) (by assumption) ?_
      rotate_left
      · intro W hW
        have kx := kx.under hW
        obtain ⟨z0, z1, z2, z3, z4⟩ := kx.two
        go_simp
        try rfl
      simp only [List.getElem_toArray, List.getElem_cons_zero, Act.put, List.setIfInBounds_toArray, List.set_cons_zero, List.set_cons_succ]
      refine wpAnyH_take (i := 2) (v := ?_) rfl (by kernel_rfl) (by kernel_rfl) (by kernel_rfl) (fun _ _ _ h => h) (Or.inl ⟨by rfl, ?_⟩) (by assumption) ?_
      rotate_left
      · intro W hW
        have kx := kx.under hW
        obtain ⟨z0, z1, z2, z3, z4⟩ := kx.two
        go_simp
        try rfl
      simp only [List.getElem_toArray, List.getElem_cons_succ, List.getElem_cons_zero, Act.put, List.setIfInBounds_toArray, List.set_cons_zero, List.set_cons_succ]
      refine wpAnyH_ready (rs := [1]) (by kernel_rfl) (by simp) ?_
      refine AllReadyH.cons rfl (fun K hK => ?_) AllReadyH.nil
      go_simp
      refine (HTX.out _ (HTAB.out.below (below_two hw hC))).mono ?_
      rintro e wc1 ⟨rfl, hc1⟩
      have hC := below_two hC hc1
      refine hK.out _ _ hC (fun hHeld => ?_)
      clear hK K
      try simp only [List.getElem_toArray, List.getElem_cons_succ, List.getElem_cons_zero, Act.put, List.setIfInBounds_toArray, List.set_cons_zero, List.set_cons_succ]
      clear hHeld
      refine wpAnyH_ready (rs := [3]) (by kernel_rfl) (by simp) ?_
      refine AllReadyH.cons rfl (fun K hK => ?_) AllReadyH.nil
      go_simp
      refine (HOX.out _).mono ?_
      rintro e wc3 ⟨b3, A3, p3, d3, rfl, hn3, hc3⟩
      have hC := below_two hC hc3
      refine hK.out _ _ hC (fun hHeld => ?_)
      clear hK K
      try simp only [List.getElem_toArray, List.getElem_cons_succ, List.getElem_cons_zero, Act.put, List.setIfInBounds_toArray, List.set_cons_zero, List.set_cons_succ]
      clear hHeld
      refine wpAnyH_ready (rs := [4]) (by kernel_rfl) (by simp) ?_
      refine AllReadyH.cons rfl (fun K hK => ?_) AllReadyH.nil
      go_simp
      refine (HRT.out _ _ _ _ _ hn3 (num_len hn3 HBX.out)).mono ?_
      rintro e wc4 ⟨rfl, hc4⟩
      have hC := below_two hC hc4
      refine hK.out _ _ hC (fun hHeld => ?_)
      clear hK K
      try simp only [List.getElem_toArray, List.getElem_cons_succ, List.getElem_cons_zero, Act.put, List.setIfInBounds_toArray, List.set_cons_zero, List.set_cons_succ]
      clear hHeld
      refine wpAnyH_take (i := 5) (v := ?_) rfl (by kernel_rfl) (by kernel_rfl) (by kernel_rfl) (fun _ _ _ h => h) (Or.inl ⟨by rfl, ?_⟩) (by assumption) ?_
      rotate_left
      · intro W hW
        go_simp
        try rfl
      simp only [List.getElem_toArray, List.getElem_cons_succ, List.getElem_cons_zero, Act.put, List.setIfInBounds_toArray, List.set_cons_zero, List.set_cons_succ]
      refine wpAnyH_done (by kernel_rfl) ?_ _
      refine NoPanic.normal ?_
      have kx := kx.under hC
      have ks := ks.under hC
      have hn := hn.below hC
      have hB := below_two hB hC
      have hw := below_two hw hC
      clear hC hc1 hc3 hc4 hn3
      generalize wc4 = w5 at *
      rcases HINV.out with ⟨rfl, hS, hs⟩ | ⟨rfl, hS, hs⟩
      · have HS1 := hid (And.intro hS hs)
        clear hS hs HINV
        obtain ⟨y0, y1, y2, y3, y4⟩ := ks.two
        obtain ⟨z0, z1, z2, z3, z4⟩ := kx.two
        go_upto_region 11 with fail
        clear y0 y1 y2 y3 y4 z0 z1 z2 z3 z4
        go_cut [] (fun wx => ∃ b7 A7 p7 d7, Blk wx w2.heap.size 28 #[.bool b7, .slice A7 p7 d7] ∧ NumIs wx (S + X) b7 A7 p7 d7 ∧ Below w2.heap.size w2 wx)
        case first =>
          refine wp_region_noPanic ?_
          refine wp_region_held_drew (S := (fun _ => True)) (by kernel_rfl) trivial (fun hHeld => ?_)
          clear hHeld
          have hC : Below w5.heap.size w5 w5.drew := (Below.refl w5.heap.size w5).drew
          have ks := ks.drew
          have kx := kx.drew
          have hn := hn.drew
          generalize w5.drew = wq at *
          refine wpAnyH_ready (rs := [0, 1]) (by kernel_rfl) (by simp) ?_
          refine AllReadyH.cons rfl (fun K hK => ?_) (AllReadyH.cons rfl (fun K hK => ?_) AllReadyH.nil)
          · obtain ⟨y0, y1, y2, y3, y4⟩ := ks.two
            go_simp
            clear y0 y1 y2 y3 y4
            refine hK.out _ _ trivial (fun hHeld => ?_)
            clear hK K hHeld
            try simp only [List.getElem_toArray, List.getElem_cons_succ, List.getElem_cons_zero, Act.put, List.setIfInBounds_toArray, List.set_cons_zero, List.set_cons_succ]
            refine wpAnyH_ready (rs := [1]) (by kernel_rfl) (by simp) ?_
            refine AllReadyH.cons rfl (fun K hK => ?_) AllReadyH.nil
            obtain ⟨y0, y1, y2, y3, y4⟩ := kx.two
            go_simp
            clear y0 y1 y2 y3 y4
            refine hK.out _ _ trivial (fun hHeld => ?_)
            clear hK K hHeld
            try simp only [List.getElem_toArray, List.getElem_cons_succ, List.getElem_cons_zero, Act.put, List.setIfInBounds_toArray, List.set_cons_zero, List.set_cons_succ]
            refine wpAnyH_ready (rs := [2]) (by kernel_rfl) (by simp) ?_
            refine AllReadyH.cons rfl (fun K hK => ?_) AllReadyH.nil
            go_simp
            refine (HOX.out _).mono ?_
            rintro e wt3 ⟨b6, A6, p6, d6, rfl, hn6, hcc⟩
            have ks := ks.under hcc
            have kx := kx.under hcc
            have hn := hn.below hcc
            have hC := below_two hC hcc
            clear hcc
            refine hK.out _ _ trivial (fun hHeld => ?_)
            clear hK K hHeld
            try simp only [List.getElem_toArray, List.getElem_cons_succ, List.getElem_cons_zero, Act.put, List.setIfInBounds_toArray, List.set_cons_zero, List.set_cons_succ]
            refine wpAnyH_ready (rs := [3]) (by kernel_rfl) (by simp) ?_
            refine AllReadyH.cons rfl (fun K hK => ?_) AllReadyH.nil
            go_simp
            refine (add_c hn hn6 (Nat.le_trans (num_len hn HBD.out) (by decide)) (Nat.le_trans (num_len hn6 HBX.out) (by decide))).mono ?_
            rintro e wt4 ⟨b7, A7, p7, d7, rfl, hn7, hcc⟩
            have ks := ks.under hcc
            have hC := below_two hC hcc
            clear hcc hn6 hn kx
            refine hK.out _ _ trivial (fun hHeld => ?_)
            clear hK K hHeld
            try simp only [List.getElem_toArray, List.getElem_cons_succ, List.getElem_cons_zero, Act.put, List.setIfInBounds_toArray, List.set_cons_zero, List.set_cons_succ]
            refine wpAnyH_ready (rs := [4]) (by kernel_rfl) (by simp) ?_
            refine AllReadyH.cons rfl (fun K hK => ?_) AllReadyH.nil
            have KS9 := ks.typed
            obtain ⟨y0, y1, y2, y3, y4⟩ := ks.two
            go_simp
            clear y0 y1 y2 y3 y4
            refine hK.out _ _ trivial (fun hHeld => ?_)
            clear hK K hHeld
            try simp only [List.getElem_toArray, List.getElem_cons_succ, List.getElem_cons_zero, Act.put, List.setIfInBounds_toArray, List.set_cons_zero, List.set_cons_succ]
            refine wpAnyH_done (by kernel_rfl) ?_ _
            refine NoPanic.normal ?_
            go_wp2_with fail
            go_meet
            exact ⟨_, _, _, _, ks.set2 _ _, (hn7.setCell (q := ⟨_, 0, none⟩) KS9 _).setCell (q := ⟨_, 1, none⟩) (KS9.setCell _ _) _, ((below_two hB hC).setCell (p := ⟨_, 0, none⟩) (Nat.le_refl _) _).setCell (p := ⟨_, 1, none⟩) (Nat.le_refl _) _⟩
          · obtain ⟨y0, y1, y2, y3, y4⟩ := kx.two
            go_simp
            clear y0 y1 y2 y3 y4
            refine hK.out _ _ trivial (fun hHeld => ?_)
            clear hK K hHeld
            try simp only [List.getElem_toArray, List.getElem_cons_succ, List.getElem_cons_zero, Act.put, List.setIfInBounds_toArray, List.set_cons_zero, List.set_cons_succ]
            refine wpAnyH_ready (rs := [0, 2]) (by kernel_rfl) (by simp) ?_
            refine AllReadyH.cons rfl (fun K hK => ?_) (AllReadyH.cons rfl (fun K hK => ?_) AllReadyH.nil)
            · obtain ⟨y0, y1, y2, y3, y4⟩ := ks.two
              go_simp
              clear y0 y1 y2 y3 y4
              refine hK.out _ _ trivial (fun hHeld => ?_)
              clear hK K hHeld
              try simp only [List.getElem_toArray, List.getElem_cons_succ, List.getElem_cons_zero, Act.put, List.setIfInBounds_toArray, List.set_cons_zero, List.set_cons_succ]
              refine wpAnyH_ready (rs := [2]) (by kernel_rfl) (by simp) ?_
              refine AllReadyH.cons rfl (fun K hK => ?_) AllReadyH.nil
              go_simp
              refine (HOX.out _).mono ?_
              rintro e wt8 ⟨b6, A6, p6, d6, rfl, hn6, hcc⟩
              have ks := ks.under hcc
              have kx := kx.under hcc
              have hn := hn.below hcc
              have hC := below_two hC hcc
              clear hcc
              refine hK.out _ _ trivial (fun hHeld => ?_)
              clear hK K hHeld
              try simp only [List.getElem_toArray, List.getElem_cons_succ, List.getElem_cons_zero, Act.put, List.setIfInBounds_toArray, List.set_cons_zero, List.set_cons_succ]
              refine wpAnyH_ready (rs := [3]) (by kernel_rfl) (by simp) ?_
              refine AllReadyH.cons rfl (fun K hK => ?_) AllReadyH.nil
              go_simp
              refine (add_c hn hn6 (Nat.le_trans (num_len hn HBD.out) (by decide)) (Nat.le_trans (num_len hn6 HBX.out) (by decide))).mono ?_
              rintro e wt9 ⟨b7, A7, p7, d7, rfl, hn7, hcc⟩
              have ks := ks.under hcc
              have hC := below_two hC hcc
              clear hcc hn6 hn kx
              refine hK.out _ _ trivial (fun hHeld => ?_)
              clear hK K hHeld
              try simp only [List.getElem_toArray, List.getElem_cons_succ, List.getElem_cons_zero, Act.put, List.setIfInBounds_toArray, List.set_cons_zero, List.set_cons_succ]
              refine wpAnyH_ready (rs := [4]) (by kernel_rfl) (by simp) ?_
              refine AllReadyH.cons rfl (fun K hK => ?_) AllReadyH.nil
              have KS9 := ks.typed
              obtain ⟨y0, y1, y2, y3, y4⟩ := ks.two
              go_simp
              clear y0 y1 y2 y3 y4
              refine hK.out _ _ trivial (fun hHeld => ?_)
              clear hK K hHeld
              try simp only [List.getElem_toArray, List.getElem_cons_succ, List.getElem_cons_zero, Act.put, List.setIfInBounds_toArray, List.set_cons_zero, List.set_cons_succ]
              refine wpAnyH_done (by kernel_rfl) ?_ _
              refine NoPanic.normal ?_
              go_wp2_with fail
              go_meet
              exact ⟨_, _, _, _, ks.set2 _ _, (hn7.setCell (q := ⟨_, 0, none⟩) KS9 _).setCell (q := ⟨_, 1, none⟩) (KS9.setCell _ _) _, ((below_two hB hC).setCell (p := ⟨_, 0, none⟩) (Nat.le_refl _) _).setCell (p := ⟨_, 1, none⟩) (Nat.le_refl _) _⟩
            · go_simp
              refine (HOX.out _).mono ?_
              rintro e wt11 ⟨b6, A6, p6, d6, rfl, hn6, hcc⟩
              have ks := ks.under hcc
              have kx := kx.under hcc
              have hn := hn.below hcc
              have hC := below_two hC hcc
              clear hcc
              refine hK.out _ _ trivial (fun hHeld => ?_)
              clear hK K hHeld
              try simp only [List.getElem_toArray, List.getElem_cons_succ, List.getElem_cons_zero, Act.put, List.setIfInBounds_toArray, List.set_cons_zero, List.set_cons_succ]
              refine wpAnyH_ready (rs := [0]) (by kernel_rfl) (by simp) ?_
              refine AllReadyH.cons rfl (fun K hK => ?_) AllReadyH.nil
              obtain ⟨y0, y1, y2, y3, y4⟩ := ks.two
              go_simp
              clear y0 y1 y2 y3 y4
              refine hK.out _ _ trivial (fun hHeld => ?_)
              clear hK K hHeld
              try simp only [List.getElem_toArray, List.getElem_cons_succ, List.getElem_cons_zero, Act.put, List.setIfInBounds_toArray, List.set_cons_zero, List.set_cons_succ]
              refine wpAnyH_ready (rs := [3]) (by kernel_rfl) (by simp) ?_
              refine AllReadyH.cons rfl (fun K hK => ?_) AllReadyH.nil
              go_simp
              refine (add_c hn hn6 (Nat.le_trans (num_len hn HBD.out) (by decide)) (Nat.le_trans (num_len hn6 HBX.out) (by decide))).mono ?_
              rintro e wt13 ⟨b7, A7, p7, d7, rfl, hn7, hcc⟩
              have ks := ks.under hcc
              have hC := below_two hC hcc
              clear hcc hn6 hn kx
              refine hK.out _ _ trivial (fun hHeld => ?_)
              clear hK K hHeld
              try simp only [List.getElem_toArray, List.getElem_cons_succ, List.getElem_cons_zero, Act.put, List.setIfInBounds_toArray, List.set_cons_zero, List.set_cons_succ]
              refine wpAnyH_ready (rs := [4]) (by kernel_rfl) (by simp) ?_
              refine AllReadyH.cons rfl (fun K hK => ?_) AllReadyH.nil
              have KS9 := ks.typed
              obtain ⟨y0, y1, y2, y3, y4⟩ := ks.two
              go_simp
              clear y0 y1 y2 y3 y4
              refine hK.out _ _ trivial (fun hHeld => ?_)
              clear hK K hHeld
              try simp only [List.getElem_toArray, List.getElem_cons_succ, List.getElem_cons_zero, Act.put, List.setIfInBounds_toArray, List.set_cons_zero, List.set_cons_succ]
              refine wpAnyH_done (by kernel_rfl) ?_ _
              refine NoPanic.normal ?_
              go_wp2_with fail
              go_meet
              exact ⟨_, _, _, _, ks.set2 _ _, (hn7.setCell (q := ⟨_, 0, none⟩) KS9 _).setCell (q := ⟨_, 1, none⟩) (KS9.setCell _ _) _, ((below_two hB hC).setCell (p := ⟨_, 0, none⟩) (Nat.le_refl _) _).setCell (p := ⟨_, 1, none⟩) (Nat.le_refl _) _⟩
        case rest =>
          obtain ⟨b7, A7, p7, d7, ks, hn7, hB⟩ := hcut
          skip
          obtain ⟨y0, y1, y2, y3, y4⟩ := ks.two
          have HBS := hid (show -(2 ^ 512 : Int) ≤ S + X ∧ S + X ≤ 2 ^ 512 by have h1 := HS1.out; have h2 := HXI.out; omega)
          have HFT := hid (fits128 (S + X))
          go_wp2_with fail
          refine (Fits_c 128 (by decide) (by decide) hn7 (Nat.le_trans (num_len hn7 HBS.out) (by decide))).mono ?_
          rintro e w7 ⟨rfl, hb7⟩
          have ks := ks.under hb7
          have hn7 := hn7.below hb7
          have hB := below_two hB hb7
          rw [HFT.out]
          by_cases hin : inW (S + X)
          · rw [decide_eq_true hin]
            have HN := hid (show InvT false (S + X) Xs (i + 1) from .inl ⟨rfl, hin, by rw [HS1.out.2, HST.out S, if_pos hin]⟩)
            clear hin
            go_wp2
            exact ⟨⟨i + 1, S + X, false, b7, A7, p7, d7, by omega, by go_num, rfl, HN, HBS, ks, hn7, hB⟩, by simp [RowKit.intOf]; omega⟩
          · rw [decide_eq_false hin]
            have HN := hid (show InvT true (S + X) Xs (i + 1) from .inr ⟨rfl, hin, by rw [HS1.out.2, HST.out S, if_neg hin]⟩)
            clear hin
            go_wp2
            exact ⟨⟨i + 1, S + X, true, b7, A7, p7, d7, by omega, by go_num, rfl, HN, HBS, ks, hn7, hB⟩, by simp [RowKit.intOf]; omega⟩
      · have HN := hid (show InvT true S Xs (i + 1) from .inr ⟨rfl, hS, hs⟩)
        clear hS hs HINV
        go_wp2
        exact ⟨⟨i + 1, S, true, bs, As, ps, ds, by omega, by go_num, rfl, HN, HBD, ks, hn, hB⟩, by simp [RowKit.intOf]; omega⟩
    · obtain rfl : i = m := by omega
      have HSM : Hid (sumW 0 Xs = S) := hid (by
        rcases HINV.out with ⟨_, _, hs⟩ | ⟨_, _, hs⟩
        · rw [hs, List.drop_of_length_le (by rw [HL.out]; exact Nat.le_refl _)]; rfl
        · exact hs)
      have HTO := hid (Total_c C i f Xs wr hr2 HX.out (by omega))
      rw [HSM.out] at HTO
      clear HINV hlt hr2
      obtain ⟨y0, y1, y2, y3, y4⟩ := ks.two
      go_wp2_with fail
      refine HTO.out.mono ?_
      rintro e w8 ⟨h, l, k, rfl, HTW, hb8⟩
      have ks := (ks.under hb8).alloc (oW h l)
      have hn := (hn.below hb8).alloc (oW h l)
      have hw := below_alloc (below_two hw hb8) (Nat.le_refl _) (oW h l)
      have kp := Blk.new w8 24 #[.int .i64 h, .int .u64 l]
      clear y0 y1 y2 y3 y4 hb8
      obtain ⟨y0, y1, y2, y3, y4⟩ := ks.two
      obtain ⟨z0, z1, z2, z3, z4⟩ := kp.two
      go_wp2_with fail
      refine (is_c HTW.out hn (num_len hn HBD.out)).mono ?_
      rintro e w9 ⟨rfl, hb9⟩
      go_wp2
      go_ret
      exact ⟨rfl, below_two hw hb9⟩
end Go.Proofs.YtpomhcclnhddmaaDoor
