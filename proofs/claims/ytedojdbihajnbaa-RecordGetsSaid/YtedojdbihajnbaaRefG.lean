/- Contracts of yearbookref18: Letter, Time, Value, Name, Right, Same, SameRow, Bytes, RowBytes (seat Record). -/
import Derived.Test.YtedojdbihajnbaaFew
import Derived.Test.YtedojdbihajnbaaRecK
import Derived.Test.YtedojdbihajnbaaRecL
import Derived.Test.YtedojdbihajnbaaRecM
import Derived.Test.YtedojdbihajnbaaVarT
import Derived.Test.YtedojdbihajnbaaRecS
import Derived.Lib.ConvBytes
namespace Go.Proofs.Ytedojdbihajnbaa
open Go.RowKit Go.Shelf VB
open Go.Lib (hid)
set_option linter.unusedVariables false
set_option linter.unusedSimpArgs false
set_option maxHeartbeats 400000 in
theorem Letter_d (c : Nat) (w : World) : Calls Try.prog 39 #[.int .u8 (c : Nat)] w fun e w' => e = .returned (.bool (letB (c : Nat))) ∧ w = w' := by
  unfold letB
  by_cases h1 : (97 : Int) ≤ (c : Nat) <;> by_cases h2 : ((c : Nat) : Int) ≤ 122 <;> by_cases h3 : (48 : Int) ≤ (c : Nat) <;> by_cases h4 : ((c : Nat) : Int) ≤ 57 <;> simp only [h1, h2, h3, h4, decide_true, decide_false, Bool.and_true, Bool.and_false, Bool.true_and, Bool.false_and, Bool.or_true, Bool.or_false, Bool.true_or, Bool.false_or]
  all_goals
    go_enter Try.func39, Try.ntmps39
    go_wp2
    go_ret
    exact ⟨rfl, rfl⟩
set_option maxHeartbeats 400000 in
theorem Time_d (t : Int) (w : World) : Calls Try.prog 35 #[.int .i64 t] w fun e w' => e = .returned (.bool (timeB t)) ∧ w = w' := by
  unfold timeB
  by_cases h1 : 0 ≤ t <;> by_cases h2 : t ≤ 281474976710656 <;> simp only [h1, h2, decide_true, decide_false, Bool.and_true, Bool.and_false]
  all_goals
    go_enter Try.func35, Try.ntmps35
    go_wp2
    go_ret
    exact ⟨rfl, rfl⟩
set_option maxHeartbeats 400000 in
theorem Value_d (v : Int) (w : World) : Calls Try.prog 36 #[.int .i64 v] w fun e w' => e = .returned (.bool (valB v)) ∧ w = w' := by
  unfold valB
  by_cases h1 : -2305843009213693952 ≤ v <;> by_cases h2 : v ≤ 2305843009213693952 <;> simp only [h1, h2, decide_true, decide_false, Bool.and_true, Bool.and_false]
  all_goals
    go_enter Try.func36, Try.ntmps36
    go_wp2
    go_ret
    exact ⟨rfl, rfl⟩
set_option maxRecDepth 100000 in
set_option maxHeartbeats 1000000 in
theorem Name_d (s : ByteArray) (w : World) (hs : s.size ≤ 1000000) : Calls Try.prog 16 #[.string s] w fun e w' => e = .returned (.bool (nameB s)) ∧ w = w' := by
  obtain ⟨n, hn⟩ : ∃ n, n = s.size := ⟨_, rfl⟩
  go_enter Try.func16, Try.ntmps16
  go_wp2_with fail
  go_loopw [6] (fun u6 wr => ∃ i : Nat, i ≤ s.size ∧ u6 = .int .i64 (i : Nat) ∧ Hid (∀ j, (hj : j < s.size) → j < i → letB ((s[j]'hj).toNat : Nat) = true) ∧ w = wr) (fun u6 _ => s.size - (intOf u6).toNat)
  case atStart => exact ⟨0, Nat.zero_le _, rfl, hid (fun j hj h => absurd h (by omega)), rfl⟩
  case round =>
    obtain ⟨i, hi, rfl, hall, rfl⟩ := hrel
    by_cases hlt : i < s.size
    · have HL := hid (Letter_d (s[i]'hlt).toNat w)
      have hltI : (i : Int) < (s.size : Int) := by omega
      have HX := hid (fun (h : letB ((s[i]'hlt).toNat : Nat) = true) => (show ∀ j, (hj : j < s.size) → j < i + 1 → letB ((s[j]'hj).toNat : Nat) = true from fun j hj h2 => by
        by_cases e : j = i
        · subst e; exact h
        · exact hall.out j hj (by omega)))
      have HY := hid (fun (h : letB ((s[i]'hlt).toNat : Nat) = false) => all_break hlt h)
      go_wp2_with fail
      generalize (s[i]'hlt).toNat = x at *
      refine HL.out.mono ?_
      rintro e w2 ⟨rfl, rfl⟩
      cases hl : letB (x : Nat) with
      | true =>
        have HX2 := hid (HX.out hl)
        clear hl HX HY
        go_wp2_with fail
        go_roundw
        case rel => exact ⟨i + 1, by omega, by go_num, HX2, trivial⟩
        case measure => simp [intOf]; omega
      | false =>
        have HY2 := hid (HY.out hl)
        clear hl HX HY
        go_wp2_with fail
        go_ret
        exact ⟨ret_b HY2.out.symm, rfl⟩
    · have hi2 : i = s.size := by omega
      have HE := hid (all_end (s := s) (fun j hj => hall.out j hj (by omega)))
      clear hall
      have hcase : (s.size < 1) ∨ (1 ≤ s.size ∧ s.size ≤ 12) ∨ (1 ≤ s.size ∧ 12 < s.size) := by omega
      rcases hcase with h1 | ⟨h1, h2⟩ | ⟨h1, h2⟩
      · have t1 : decide ((1 : Int) ≤ (s.size : Int)) = false := decide_eq_false (by omega)
        have HF := hid (show nameB s = false by rw [HE.out, decide_eq_false (by omega)]; rfl)
        clear HE h1
        go_wp2_with fail
        go_ret
        exact ⟨ret_b HF.out.symm, rfl⟩
      · have t1 : decide ((1 : Int) ≤ (s.size : Int)) = true := decide_eq_true (by omega)
        have t2 : decide ((s.size : Int) ≤ 12) = true := decide_eq_true (by omega)
        have HF := hid (show nameB s = true by rw [HE.out, decide_eq_true h1, decide_eq_true h2]; rfl)
        clear HE h1 h2
        go_wp2_with fail
        go_ret
        exact ⟨ret_b HF.out.symm, rfl⟩
      · have t1 : decide ((1 : Int) ≤ (s.size : Int)) = true := decide_eq_true (by omega)
        have t2 : decide ((s.size : Int) ≤ 12) = false := decide_eq_false (by omega)
        have HF := hid (show nameB s = false by rw [HE.out, decide_eq_true h1, decide_eq_false (by omega)]; rfl)
        clear HE h1 h2
        go_wp2_with fail
        go_ret
        exact ⟨ret_b HF.out.symm, rfl⟩
end Go.Proofs.Ytedojdbihajnbaa
namespace Go.Proofs.Ytedojdbihajnbaa
open Go.RowKit Go.Shelf VB
open Go.Lib (hid)
set_option linter.unusedVariables false
set_option linter.unusedSimpArgs false
/-- what the document's Right answers -/
def rightR (m : Mu) : Bool :=
  nameB m.name && (if m.kind = 1 then decide (0 ≤ m.eps) && (decide (m.eps ≤ 1099511627776) && (decide (-40 ≤ m.scale) && (decide (m.scale ≤ 40) && (decide (m.floor = 0) && decide (m.pts.length = 0)))))
    else if m.kind = 2 then decide (m.eps = 0) && (decide (m.scale = 0) && (decide (m.floor = 0) && decide (m.pts.length = 0)))
    else if m.kind = 3 then m.pts.all ptB && (decide (1 ≤ m.pts.length) && (decide (m.pts.length ≤ 16) && (decide (m.eps = 0) && (decide (m.scale = 0) && decide (m.floor = 0)))))
    else if m.kind = 4 then timeB m.floor && (decide (m.eps = 0) && (decide (m.scale = 0) && decide (m.pts.length = 0)))
    else false)
theorem mu_ext {a b : Mu} (h1 : a.kind = b.kind) (h2 : a.name = b.name) (h3 : a.eps = b.eps) (h4 : a.floor = b.floor) (h5 : a.scale = b.scale) (h6 : a.pts = b.pts) : a = b := by
  cases a; cases b; simp only at h1 h2 h3 h4 h5 h6; subst h1 h2 h3 h4 h5 h6; rfl
theorem rightR_B (m : Mu) : rightR m = rightB m := by
  rw [Bool.eq_iff_iff]
  constructor
  · intro h
    unfold rightR at h
    rw [Bool.and_eq_true] at h
    obtain ⟨hn, h⟩ := h
    apply rightB_of
    by_cases h1 : m.kind = 1
    · rw [if_pos h1] at h
      simp only [Bool.and_eq_true, decide_eq_true_eq] at h
      obtain ⟨a, b, c, d, e, f⟩ := h
      have hp : m.pts = [] := List.eq_nil_of_length_eq_zero f
      exact ⟨mu_ext rfl rfl (by simp [bareM, h1]) (by simp [bareM, h1, e]) (by simp [bareM, h1]) (by simp [bareM, h1, hp]), hn, by omega, by omega, by omega, by omega, by omega, by omega, by omega, by omega, fun h3 => by omega, by rw [hp]; rfl⟩
    · rw [if_neg h1] at h
      by_cases h2 : m.kind = 2
      · rw [if_pos h2] at h
        simp only [Bool.and_eq_true, decide_eq_true_eq] at h
        obtain ⟨a, b, c, f⟩ := h
        have hp : m.pts = [] := List.eq_nil_of_length_eq_zero f
        exact ⟨mu_ext rfl rfl (by simp [bareM, h2, a]) (by simp [bareM, h2, c]) (by simp [bareM, h2, b]) (by simp [bareM, h2, hp]), hn, by omega, by omega, by omega, by omega, by omega, by omega, by omega, by omega, fun h3 => by omega, by rw [hp]; rfl⟩
      · rw [if_neg h2] at h
        by_cases h3 : m.kind = 3
        · rw [if_pos h3] at h
          simp only [Bool.and_eq_true, decide_eq_true_eq] at h
          obtain ⟨a, b, c, d, e, f⟩ := h
          exact ⟨mu_ext rfl rfl (by simp [bareM, h3, d]) (by simp [bareM, h3, f]) (by simp [bareM, h3, e]) (by simp [bareM, h3]), hn, by omega, by omega, by omega, by omega, by omega, by omega, by omega, by omega, fun _ => ⟨b, c⟩, a⟩
        · rw [if_neg h3] at h
          by_cases h4 : m.kind = 4
          · rw [if_pos h4] at h
            unfold timeB at h
            simp only [Bool.and_eq_true, decide_eq_true_eq] at h
            obtain ⟨⟨a, b⟩, c, d, f⟩ := h
            have hp : m.pts = [] := List.eq_nil_of_length_eq_zero f
            exact ⟨mu_ext rfl rfl (by simp [bareM, h4, c]) (by simp [bareM, h4]) (by simp [bareM, h4, d]) (by simp [bareM, h4, hp]), hn, by omega, by omega, by omega, by omega, by omega, by omega, by omega, by omega, fun h3 => by omega, by rw [hp]; rfl⟩
          · rw [if_neg h4] at h
            cases h
  · intro h
    have r := right_of h
    unfold rightR
    rw [r.name, Bool.true_and]
    have e1 : m.kind ≠ 1 → m.eps = 0 := fun h => by rw [r.bare]; simp [bareM, h]
    have e2 : m.kind ≠ 4 → m.floor = 0 := fun h => by rw [r.bare]; simp [bareM, h]
    have e3 : m.kind ≠ 1 → m.scale = 0 := fun h => by rw [r.bare]; simp [bareM, h]
    have e4 : m.kind ≠ 3 → m.pts.length = 0 := fun h => by rw [r.bare]; simp [bareM, h]
    have k1 := r.k1
    have k4 := r.k4
    by_cases h1 : m.kind = 1
    · rw [if_pos h1]
      simp only [Bool.and_eq_true, decide_eq_true_eq]
      exact ⟨r.e0, r.e1, r.s0, r.s1, e2 (by omega), e4 (by omega)⟩
    · rw [if_neg h1]
      by_cases h2 : m.kind = 2
      · rw [if_pos h2]
        simp only [Bool.and_eq_true, decide_eq_true_eq]
        exact ⟨e1 (by omega), e3 (by omega), e2 (by omega), e4 (by omega)⟩
      · rw [if_neg h2]
        by_cases h3 : m.kind = 3
        · rw [if_pos h3]
          simp only [Bool.and_eq_true, decide_eq_true_eq]
          exact ⟨r.pts, (r.len h3).1, (r.len h3).2, e1 (by omega), e3 (by omega), e2 (by omega)⟩
        · have h4 : m.kind = 4 := by omega
          rw [if_neg h3, if_pos h4]
          unfold timeB
          simp only [Bool.and_eq_true, decide_eq_true_eq]
          exact ⟨⟨r.f0, r.f1⟩, e1 (by omega), e3 (by omega), e4 (by omega)⟩
theorem nbeq (n : Nat) : decide (n = 0) = ((n : Int) == 0) := by
  rw [Bool.eq_iff_iff]
  simp
theorem ibeq (a b : Int) : decide (a = b) = (a == b) := by
  rw [Bool.eq_iff_iff]
  simp
def RetBo (b : Bool) (w : World) (e : Ending) (w' : World) : Prop := e = .returned (.bool b) ∧ Below w.heap.size w w'
set_option maxRecDepth 100000 in
set_option maxHeartbeats 2000000 in
theorem Right_d {e1 : TypeId} (m : Mu) (A : Option Addr) (c : Nat) (w : World) (hz : Reads w e1 2 A m.pts.length (m.pts.flatMap cellsP)) (hn : m.pts.length ≤ 100000000) (hs : m.name.size ≤ 1000000) :
    Calls Try.prog 12 #[vM m A c] w (RetBo (rightB m) w) := by
  rw [← rightR_B]
  obtain ⟨k, nm, ep, fl, sc, l⟩ := m
  simp only at hz hn hs
  obtain ⟨n, hn'⟩ : ∃ n, n = l.length := ⟨_, rfl⟩
  show Calls _ _ #[.agg (aM k nm ep fl sc (.slice A l.length c))] _ _
  have K0 := hid (Blk.new w 24 (aM k nm ep fl sc (.slice A n c)))
  have HB0 := hid ((Below.refl w.heap.size w).alloc (Nat.le_refl _) (.cells (aM k nm ep fl sc (.slice A n c)) 24))
  have HZ := hid (hz.alloc (.cells (aM k nm ep fl sc (.slice A n c)) 24))
  have HN := hid (fun w' => Name_d nm w' hs)
  have HL := hid (And.intro hn' hn)
  rw [← hn'] at hz HZ ⊢
  have hnn : n ≤ 100000000 := by omega
  cases hb : nameB nm with
  | false =>
    have HF := hid (show RetBo (rightR ⟨k, nm, ep, fl, sc, l⟩) w (.returned (.bool false)) (w.alloc (.cells (aM k nm ep fl sc (.slice A n c)) 24)) from ⟨ret_b (by unfold rightR; simp only; rw [hb]; rfl), HB0.out⟩)
    rw [hb] at HN
    obtain ⟨c0, c1, c2, c3, c4, c5⟩ := K0.out.sixc
    clear hb hz hn hs hn'
    go_enter Try.func12, Try.ntmps12
    go_wp2_with fail
    refine (HN.out _).mono ?_
    rintro e w2 ⟨rfl, rfl⟩
    go_wp2_with fail
    go_ret
    exact HF.out
  | true =>
    have HV := hid (show ∀ b, rightR ⟨k, nm, ep, fl, sc, l⟩ = b → RetBo (rightR ⟨k, nm, ep, fl, sc, l⟩) w (.returned (.bool b)) (w.alloc (.cells (aM k nm ep fl sc (.slice A n c)) 24)) from fun b h => ⟨ret_b h.symm, HB0.out⟩)
    have HRR := hid (show rightR ⟨k, nm, ep, fl, sc, l⟩ = (if k = 1 then decide (0 ≤ ep) && (decide (ep ≤ 1099511627776) && (decide (-40 ≤ sc) && (decide (sc ≤ 40) && (decide (fl = 0) && decide (n = 0)))))
    else if k = 2 then decide (ep = 0) && (decide (sc = 0) && (decide (fl = 0) && decide (n = 0)))
    else if k = 3 then l.all ptB && (decide (1 ≤ n) && (decide (n ≤ 16) && (decide (ep = 0) && (decide (sc = 0) && decide (fl = 0)))))
    else if k = 4 then timeB fl && (decide (ep = 0) && (decide (sc = 0) && decide (n = 0)))
    else false) by unfold rightR; simp only; rw [hb, ← hn', Bool.true_and])
    rw [hb] at HN
    clear hb hz hn hs hn'
    go_enter Try.func12, Try.ntmps12
    go_upto_region 1 with fail
    generalize w.alloc (.cells (aM k nm ep fl sc (.slice A n c)) 24) = w1 at *
    obtain ⟨c0, c1, c2, c3, c4, c5⟩ := K0.out.sixc
    go_wp2_with fail
    refine (HN.out _).mono ?_
    rintro e w2 ⟨rfl, rfl⟩
    by_cases h1 : k = 1
    · have t1 : (k == 1) = true := by simp [h1]
      have t1' : decide (k = 1) = true := by simp [h1]
      have H := hid (HRR.out.trans (if_pos h1))
      clear h1 HRR
      go_wp2_with fail
      all_goals (go_ret; refine HV.out _ (H.out.trans ?_); first | (simp [*]; done) | (simp [*]; exact nbeq _) | (simp [*]; intros; omega))
    · have t1 : (k == 1) = false := by simp [h1]
      have t1' : decide (k = 1) = false := by simp [h1]
      have H1 := hid (HRR.out.trans (if_neg h1))
      clear h1 HRR
      by_cases h2 : k = 2
      · have t2 : (k == 2) = true := by simp [h2]
        have t2' : decide (k = 2) = true := by simp [h2]
        have H := hid (H1.out.trans (if_pos h2))
        clear h2 H1
        go_wp2_with fail
        all_goals (go_ret; refine HV.out _ (H.out.trans ?_); first | (simp [*]; done) | (simp [*]; exact nbeq _) | (simp [*]; intros; omega))
      · have t2 : (k == 2) = false := by simp [h2]
        have t2' : decide (k = 2) = false := by simp [h2]
        have H2 := hid (H1.out.trans (if_neg h2))
        clear h2 H1
        by_cases h3 : k = 3
        · have t3 : (k == 3) = true := by simp [h3]
          have t3' : decide (k = 3) = true := by simp [h3]
          have H := hid (H2.out.trans (if_pos h3))
          clear h3 H2
          go_wp2_with fail
          go_loopw [68] (fun u68 wr => ∃ i : Nat, i ≤ n ∧ u68 = .int .i64 (i : Nat) ∧ Hid ((l.take i).all ptB = true) ∧ Below w1.heap.size w1 wr) (fun u68 _ => n - (intOf u68).toNat)
          case atStart => exact ⟨0, Nat.zero_le _, rfl, hid rfl, Below.refl _ _⟩
          case round =>
            obtain ⟨i, hi, rfl, hall, hbr⟩ := hrel
            by_cases hlt : i < n
            · obtain ⟨ad, rfl, d0, d1⟩ := pts_at (HZ.out.below hbr) hlt
              have d2 : wr.cell? ⟨(ad.add (i * 2)).block, (ad.add (i * 2)).off + 1, none⟩ = _ := d1
              have hst := all_step (l := l) (i := i) (by have := HL.out.1; omega)
              rw [hall.out, Bool.true_and] at hst
              have hno : ptB (l.getD i (0, 0)) = false → l.all ptB = false := by
                intro h
                rw [← Bool.not_eq_true, List.all_eq_true]
                intro hx
                have := hx (l.getD i (0, 0)) (by rw [List.getD_eq_getElem?_getD, List.getElem?_eq_getElem (by have := HL.out.1; omega)]; exact List.getElem_mem _)
                rw [h] at this
                cases this
              have HST := hid hst
              have HNO := hid hno
              clear d1 hst hno hall
              generalize l.getD i (0, 0) = q at *
              obtain ⟨T, V⟩ := q
              have HB3 := hid (fun o => HB0.out.trans ((hbr.alloc hbr.size o).mono HB0.out.size))
              have HBR := hid (fun o => hbr.alloc hbr.size o)
              have hltI : (i : Int) < (n : Int) := by omega
              have HTD := hid (fun w' => Time_d T w')
              have HVD := hid (fun w' => Value_d V w')
              clear hbr
              go_wp2_with fail
              refine (HTD.out _).mono ?_
              rintro e w3 ⟨rfl, rfl⟩
              cases htb : timeB T with
              | false =>
                have HF := hid (show ∀ o, RetBo (rightR ⟨k, nm, ep, fl, sc, l⟩) w (.returned (.bool false)) (wr.alloc o) from fun o => ⟨ret_b (by rw [H.out, HNO.out (by unfold ptB; simp only; rw [htb]; rfl)]; rfl), HB3.out o⟩)
                clear htb
                go_wp2_with fail
                go_ret
                exact HF.out _
              | true =>
                have HT1 := hid htb
                clear htb
                go_wp2_with fail
                refine (HVD.out _).mono ?_
                rintro e w3 ⟨rfl, rfl⟩
                cases hvb : valB V with
                | false =>
                  have HF := hid (show ∀ o, RetBo (rightR ⟨k, nm, ep, fl, sc, l⟩) w (.returned (.bool false)) (wr.alloc o) from fun o => ⟨ret_b (by rw [H.out, HNO.out (by unfold ptB; simp only; rw [hvb, Bool.and_false])]; rfl), HB3.out o⟩)
                  clear hvb
                  go_wp2_with fail
                  go_ret
                  exact HF.out _
                | true =>
                  have HS2 := hid (show (l.take (i + 1)).all ptB = true by rw [HST.out]; unfold ptB; simp only; rw [HT1.out, hvb]; rfl)
                  clear hvb
                  go_wp2_with fail
                  go_roundw
                  case rel => exact ⟨i + 1, by omega, by go_num, HS2, HBR.out _⟩
                  case measure => simp [intOf]; omega
            · obtain rfl : i = n := by omega
              have HA := hid (show l.all ptB = true by have := hall.out; rwa [List.take_of_length_le (by have := HL.out.1; omega)] at this)
              have HW := hid (show ∀ b, rightR ⟨k, nm, ep, fl, sc, l⟩ = b → RetBo (rightR ⟨k, nm, ep, fl, sc, l⟩) w (.returned (.bool b)) wr from fun b h => ⟨ret_b h.symm, HB0.out.trans (hbr.mono HB0.out.size)⟩)
              rw [HA.out, Bool.true_and] at H
              obtain ⟨c0, c1, c2, c3, c4, c5⟩ := (K0.out.below hbr (K0.out.lt)).sixc
              have HK := hid (show decide (1 ≤ i) = decide ((1 : Int) ≤ (i : Int)) ∧ decide (i ≤ 16) = decide ((i : Int) ≤ 16) from ⟨decide_eq_decide.2 (by omega), decide_eq_decide.2 (by omega)⟩)
              rw [HK.out.1, HK.out.2] at H
              clear hbr hall hlt hi HK hnn
              go_wp2_with fail
              all_goals (go_ret; refine HW.out _ (H.out.trans ?_); first | (simp [*]; done) | (simp [*]; exact ibeq _ _) | (simp [*]; intros; omega))
        · have t3 : (k == 3) = false := by simp [h3]
          have t3' : decide (k = 3) = false := by simp [h3]
          have H3 := hid (H2.out.trans (if_neg h3))
          clear h3 H2
          by_cases h4 : k = 4
          · have t4 : (k == 4) = true := by simp [h4]
            have t4' : decide (k = 4) = true := by simp [h4]
            have H := hid (H3.out.trans (if_pos h4))
            have HT := hid (fun w' => Time_d fl w')
            clear h4 H3
            go_wp2_with fail
            refine (HT.out _).mono ?_
            rintro e w3 ⟨rfl, rfl⟩
            cases htb : timeB fl with
            | true =>
              rw [htb] at H
              clear htb HT
              go_wp2_with fail
              all_goals (go_ret; refine HV.out _ (H.out.trans ?_); first | (simp [*]; done) | (simp [*]; exact nbeq _) | (simp [*]; intros; omega))
            | false =>
              rw [htb] at H
              clear htb HT
              go_wp2_with fail
              all_goals (go_ret; refine HV.out _ (H.out.trans ?_); first | (simp [*]; done) | (simp [*]; exact nbeq _) | (simp [*]; intros; omega))
          · have t4 : (k == 4) = false := by simp [h4]
            have t4' : decide (k = 4) = false := by simp [h4]
            have H := hid (H3.out.trans (if_neg h4))
            clear h4 H3
            go_wp2_with fail
            all_goals (go_ret; exact HV.out _ H.out)
end Go.Proofs.Ytedojdbihajnbaa
namespace Go.Proofs.Ytedojdbihajnbaa
open Go.RowKit Go.Shelf VB
open Go.Lib (hid)
set_option linter.unusedVariables false
set_option linter.unusedSimpArgs false
theorem keepc {W w1 : World} {p1 : Addr} {v1 : Value} (h : W.cell? p1 = some v1) (hb : Below W.heap.size W w1) : w1.cell? p1 = some v1 := (hb.cell (cell_lt h)).trans h
theorem decide_of_false {p : Prop} [Decidable p] (h : ¬ p) : false = decide p := (decide_eq_false h).symm
set_option maxRecDepth 100000 in
set_option maxHeartbeats 2000000 in
theorem Same_d {e1 e2 : TypeId} (x y : Mu) (A B : Option Addr) (c d : Nat) (w : World) (hx : Reads w e1 2 A x.pts.length (x.pts.flatMap cellsP)) (hy : Reads w e2 2 B y.pts.length (y.pts.flatMap cellsP)) (hn : x.pts.length ≤ 100000000) :
    Calls Try.prog 14 #[vM x A c, vM y B d] w (RetBo (decide (x = y)) w) := by
  obtain ⟨k1, n1, p1, f1, s1, l1⟩ := x
  obtain ⟨k2, n2, p2, f2, s2, l2⟩ := y
  simp only at hx hy hn
  have HB := hid (below2' w (.cells (aM k1 n1 p1 f1 s1 (.slice A l1.length c)) 24) (.cells (aM k2 n2 p2 f2 s2 (.slice B l2.length d)) 24) (Below.refl _ _))
  have KA := hid ((Blk.new w 24 (aM k1 n1 p1 f1 s1 (.slice A l1.length c))).alloc (.cells (aM k2 n2 p2 f2 s2 (.slice B l2.length d)) 24))
  have KB := hid (Blk.new_at (g := w.heap.size + 1) (w.alloc (.cells (aM k1 n1 p1 f1 s1 (.slice A l1.length c)) 24)) 24 (aM k2 n2 p2 f2 s2 (.slice B l2.length d)) (by simp))
  have HX := hid ((hx.alloc (.cells (aM k1 n1 p1 f1 s1 (.slice A l1.length c)) 24)).alloc (.cells (aM k2 n2 p2 f2 s2 (.slice B l2.length d)) 24))
  have HY := hid ((hy.alloc (.cells (aM k1 n1 p1 f1 s1 (.slice A l1.length c)) 24)).alloc (.cells (aM k2 n2 p2 f2 s2 (.slice B l2.length d)) 24))
  clear hx hy
  go_enter Try.func14, Try.ntmps14
  go_upto_region 1 with fail
  generalize (w.alloc (.cells (aM k1 n1 p1 f1 s1 (.slice A l1.length c)) 24)).alloc (.cells (aM k2 n2 p2 f2 s2 (.slice B l2.length d)) 24) = w2 at *
  by_cases hE : k1 = k2 ∧ n1 = n2 ∧ p1 = p2 ∧ f1 = f2 ∧ s1 = s2 ∧ l1.length = l2.length
  · obtain ⟨rfl, rfl, rfl, rfl, rfl, hl⟩ := hE
    rw [← hl] at HY KB
    obtain ⟨n, hn'⟩ : ∃ n, n = l1.length := ⟨_, rfl⟩
    rw [← hn'] at HX HY KA KB hn
    have HL := hid (And.intro hn' hl)
    obtain ⟨a0, a1, a2, a3, a4, a5⟩ := KA.out.sixc
    obtain ⟨b0, b1, b2, b3, b4, b5⟩ := KB.out.sixc
    have t0 : ((n : Int) != n) = false := by simp
    clear hn' hl
    go_wp2_with fail
    go_loopw [51] (fun u51 wr => ∃ i : Nat, i ≤ n ∧ u51 = .int .i64 (i : Nat) ∧ (∃ q, wr = w2.drewN q) ∧ Hid (l1.take i = l2.take i)) (fun u51 _ => n - (intOf u51).toNat)
    case atStart => exact ⟨0, Nat.zero_le _, rfl, ⟨0, rfl⟩, hid (by simp)⟩
    case round =>
      obtain ⟨i, hi, rfl, ⟨q, rfl⟩, heq⟩ := hrel
      by_cases hlt : i < n
      · obtain ⟨ad, rfl, cx, cx1⟩ := pts_at (HX.out.drewN q) hlt
        obtain ⟨bd, rfl, cy, cy1⟩ := pts_at (HY.out.drewN q) hlt
        have cx2 : (w2.drewN q).cell? ⟨(ad.add (i * 2)).block, (ad.add (i * 2)).off + 1, none⟩ = _ := cx1
        have cy2 : (w2.drewN q).cell? ⟨(bd.add (i * 2)).block, (bd.add (i * 2)).off + 1, none⟩ = _ := cy1
        have a5' : (w2.drewN q).cell? ⟨w.heap.size, 5, none⟩ = some (.slice (some ad) n c) := a5
        have b5' : (w2.drewN q).cell? ⟨w.heap.size + 1, 5, none⟩ = some (.slice (some bd) n d) := b5
        clear cx1 cy1
        have hltI : (i : Int) < (n : Int) := by omega
        have h0I : (0 : Int) ≤ (i : Int) := by omega
        have hst := take_stepP heq.out (by have := HL.out; omega) (by have := HL.out; omega)
        have hne : l1.getD i (0, 0) ≠ l2.getD i (0, 0) → l1 ≠ l2 := fun h e => h (by rw [e])
        have HST := Lib.hid hst
        have HNE := Lib.hid hne
        clear hst hne heq
        generalize l1.getD i (0, 0) = x at *
        generalize l2.getD i (0, 0) = y at *
        obtain ⟨x1, x2⟩ := x
        obtain ⟨y1, y2⟩ := y
        simp only at cx cx2 cy cy2
        have HBQ := hid (fun q => below_dn HB.out q)
        by_cases hc : x1 = y1 ∧ x2 = y2
        · have HC := hid (show (x1, x2) = (y1, y2) by rw [hc.1, hc.2])
          have t3 : (x1 == y1) = true := by simp [hc.1]
          have t4 : (x2 == y2) = true := by simp [hc.2]
          have t5 : decide (x1 = y1) = true := by simp [hc.1]
          have t6 : decide (x2 = y2) = true := by simp [hc.2]
          clear hc
          go_wp2_with fail
          go_region_held3 (fun w' => w'.cell? ⟨w.heap.size, 5, none⟩ = some (.slice (some ad) n c) ∧ w'.cell? ⟨w.heap.size + 1, 5, none⟩ = some (.slice (some bd) n d) ∧ w'.cell? (ad.add (i * 2)) = some (.int .i64 x1) ∧ w'.cell? ⟨(ad.add (i * 2)).block, (ad.add (i * 2)).off + 1, none⟩ = some (.int .i64 x2) ∧ w'.cell? (bd.add (i * 2)) = some (.int .i64 y1) ∧ w'.cell? ⟨(bd.add (i * 2)).block, (bd.add (i * 2)).off + 1, none⟩ = some (.int .i64 y2))
            (exact ⟨a5', b5', cx, cx2, cy, cy2⟩)
            (fail)
          go_wp2_with fail
          go_roundw
          case rel => exact ⟨i + 1, by omega, by go_num, ⟨_, rfl⟩, hid (HST.out HC.out)⟩
          case measure => simp [intOf]; omega
        · have HF := hid (show false = decide ((⟨k1, n1, p1, f1, s1, l1⟩ : Mu) = ⟨k1, n1, p1, f1, s1, l2⟩) from decide_of_false fun h => HNE.out (fun e => hc (by injection e with e1 e2; exact ⟨e1, e2⟩)) (by injection h))
          by_cases hc1 : x1 = y1
          · have hc2 : ¬ x2 = y2 := fun h => hc ⟨hc1, h⟩
            have t3 : (x1 == y1) = true := by simp [hc1]
            have t4 : (x2 == y2) = false := by simp [hc2]
            have t5 : decide (x1 = y1) = true := by simp [hc1]
            have t6 : decide (x2 = y2) = false := by simp [hc2]
            clear hc hc1 hc2
            go_wp2_with fail
            go_region_held3 (fun w' => w'.cell? ⟨w.heap.size, 5, none⟩ = some (.slice (some ad) n c) ∧ w'.cell? ⟨w.heap.size + 1, 5, none⟩ = some (.slice (some bd) n d) ∧ w'.cell? (ad.add (i * 2)) = some (.int .i64 x1) ∧ w'.cell? ⟨(ad.add (i * 2)).block, (ad.add (i * 2)).off + 1, none⟩ = some (.int .i64 x2) ∧ w'.cell? (bd.add (i * 2)) = some (.int .i64 y1) ∧ w'.cell? ⟨(bd.add (i * 2)).block, (bd.add (i * 2)).off + 1, none⟩ = some (.int .i64 y2))
              (exact ⟨a5', b5', cx, cx2, cy, cy2⟩)
              (fail)
            go_wp2_with fail
            go_ret
            exact ⟨ret_b HF.out, below_dn (HBQ.out q) 1⟩
          · have t3 : (x1 == y1) = false := by simp [hc1]
            have t5 : decide (x1 = y1) = false := by simp [hc1]
            clear hc hc1
            go_wp2_with fail
            go_region_held3 (fun w' => w'.cell? ⟨w.heap.size, 5, none⟩ = some (.slice (some ad) n c) ∧ w'.cell? ⟨w.heap.size + 1, 5, none⟩ = some (.slice (some bd) n d) ∧ w'.cell? (ad.add (i * 2)) = some (.int .i64 x1) ∧ w'.cell? ⟨(ad.add (i * 2)).block, (ad.add (i * 2)).off + 1, none⟩ = some (.int .i64 x2) ∧ w'.cell? (bd.add (i * 2)) = some (.int .i64 y1) ∧ w'.cell? ⟨(bd.add (i * 2)).block, (bd.add (i * 2)).off + 1, none⟩ = some (.int .i64 y2))
              (exact ⟨a5', b5', cx, cx2, cy, cy2⟩)
              (fail)
            go_wp2_with fail
            go_ret
            exact ⟨ret_b HF.out, below_dn (HBQ.out q) 1⟩
      · obtain rfl : i = n := by omega
        have HF := hid (show true = decide ((⟨k1, n1, p1, f1, s1, l1⟩ : Mu) = ⟨k1, n1, p1, f1, s1, l2⟩) by
          have h := heq.out
          rw [List.take_of_length_le (by have := HL.out.1; omega), List.take_of_length_le (by have := HL.out; omega)] at h
          rw [h]; simp)
        have HBQ := hid (below_dn HB.out q)
        clear heq hi hlt
        go_wp2_with fail
        go_ret
        exact ⟨ret_b HF.out, HBQ.out⟩
  · have HNE := hid (decide_of_false (p := (⟨k1, n1, p1, f1, s1, l1⟩ : Mu) = ⟨k2, n2, p2, f2, s2, l2⟩) (fun h => hE (by injection h with h1 h2 h3 h4 h5 h6; exact ⟨h1, h2, h3, h4, h5, by rw [h6]⟩)))
    obtain ⟨a0, a1, a2, a3, a4, a5⟩ := KA.out.sixc
    obtain ⟨b0, b1, b2, b3, b4, b5⟩ := KB.out.sixc
    have HEE := hid hE
    clear hE
    go_wp2_with fail
    all_goals first | (go_ret; exact ⟨ret_b HNE.out, HB.out⟩) | skip
    refine absurd ⟨?_, ?_, ?_, ?_, ?_, ?_⟩ HEE.out
    · assumption
    · exact strL_eq (by assumption)
    · assumption
    · assumption
    · assumption
    · have h : ((l1.length : Int) != (l2.length : Int)) = false := by assumption
      have h2 : (l1.length : Int) = (l2.length : Int) := by simpa using h
      omega
theorem map_take_step {xs ys : List MuA} {i : Nat} (hx : i < xs.length) (hy : i < ys.length) (h : (xs.take i).map Prod.fst = (ys.take i).map Prod.fst) (he : (xs.getD i zMuA).1 = (ys.getD i zMuA).1) : (xs.take (i + 1)).map Prod.fst = (ys.take (i + 1)).map Prod.fst := by
  rw [List.take_succ_eq_append_getElem hx, List.take_succ_eq_append_getElem hy, List.map_append, List.map_append, h]
  rw [List.getD_eq_getElem?_getD, List.getD_eq_getElem?_getD, List.getElem?_eq_getElem hx, List.getElem?_eq_getElem hy] at he
  simp only [Option.getD_some] at he
  simp [he]
set_option maxRecDepth 100000 in
set_option maxHeartbeats 2000000 in
theorem SameRow_d {e1 e2 : TypeId} (A B : Option Addr) (n m c d : Nat) (xs ys : List MuA) (w : World) (hx : Reads w e1 6 A n (xs.flatMap cellsM)) (hy : Reads w e2 6 B m (ys.flatMap cellsM)) (hpx : PtsIn w xs) (hpy : PtsIn w ys) (hn : n ≤ 100000000) (hm : m ≤ 100000000) :
    Calls Try.prog 23 #[.slice A n c, .slice B m d] w (RetBo (decide (xs.map Prod.fst = ys.map Prod.fst)) w) := by
  have hxl : xs.length = n := by have := hx.1; rw [cellsM_len] at this; omega
  have hyl : ys.length = m := by have := hy.1; rw [cellsM_len] at this; omega
  by_cases hnm : n = m
  · subst hnm
    have t0 : ((n : Int) != n) = false := by simp
    have HX := hid hx
    have HY := hid hy
    have HPX := hid hpx
    have HPY := hid hpy
    have HL := hid (And.intro hxl hyl)
    clear hx hy hpx hpy hxl hyl
    go_enter Try.func23, Try.ntmps23
    go_wp2_with fail
    go_loopw [13] (fun u13 wr => ∃ i : Nat, i ≤ n ∧ u13 = .int .i64 (i : Nat) ∧ Below w.heap.size w wr ∧ Hid ((xs.take i).map Prod.fst = (ys.take i).map Prod.fst)) (fun u13 _ => n - (intOf u13).toNat)
    case atStart => exact ⟨0, Nat.zero_le _, rfl, Below.refl _ _, hid (by simp)⟩
    case round =>
      obtain ⟨i, hi, rfl, hbr, heq⟩ := hrel
      by_cases hlt : i < n
      · obtain ⟨q, hqe⟩ : ∃ q, q = xs.getD i zMuA := ⟨_, rfl⟩
        obtain ⟨r, hre⟩ : ∃ q, q = ys.getD i zMuA := ⟨_, rfl⟩
        obtain ⟨ex, hx1, hx2⟩ := HPX.out i (by have := HL.out; omega)
        obtain ⟨ey, hy1, hy2⟩ := HPY.out i (by have := HL.out; omega)
        have hst := fun he => map_take_step (xs := xs) (ys := ys) (i := i) (by have := HL.out; omega) (by have := HL.out; omega) heq.out he
        have hno : ¬ (xs.getD i zMuA).1 = (ys.getD i zMuA).1 → ¬ xs.map Prod.fst = ys.map Prod.fst := fun h e => h (by
          have h1 := congrArg (fun l : List Mu => l[i]?) e
          simp only [List.getElem?_map] at h1
          rw [List.getD_eq_getElem?_getD, List.getD_eq_getElem?_getD]
          cases hx : xs[i]? <;> cases hy : ys[i]? <;> simp_all)
        rw [← hqe] at hx1 hx2 hst hno
        rw [← hre] at hy1 hy2 hst hno
        obtain ⟨p, P, cP⟩ := q
        obtain ⟨s, S, cS⟩ := r
        obtain ⟨ad, rfl, c0, c1, c2, c3, c4, c5⟩ := mu_at (HX.out.below hbr) hlt (k := p.kind) (nm := p.name) (ep := p.eps) (fl := p.floor) (sc := p.scale) (pv := .slice P p.pts.length cP) (by rw [← hqe]; rfl)
        obtain ⟨bd, rfl, d0, d1, d2, d3, d4, d5⟩ := mu_at (HY.out.below hbr) hlt (k := s.kind) (nm := s.name) (ep := s.eps) (fl := s.floor) (sc := s.scale) (pv := .slice S s.pts.length cS) (by rw [← hre]; rfl)
        have HSM := hid (fun W (h : Below wr.heap.size wr W) => Same_d p s P S cP cS W ((hx1.below hbr).below h) ((hy1.below hbr).below h) (by simpa using hx2))
        have HBR := hid hbr
        have HST := hid hst
        have HNO := hid hno
        have hltI : (i : Int) < (n : Int) := by omega
        have hi0 : (0 : Int) ≤ (i : Int) := by omega
        simp only at hst hno
        clear hbr hx1 hx2 hy1 hy2 hqe hre hst hno heq hi
        go_wp2_with fail
        refine wp_region_held_drew (S := (fun W => Below wr.heap.size wr W)) (by kernel_rfl) (below_dn (Below.refl wr.heap.size wr) 1) (fun hHeld => ?_)
        refine wpAnyH_take (i := 0) (v := ?_) rfl (by kernel_rfl) (by kernel_rfl) (by kernel_rfl) (fun _ _ _ h => h) (Or.inl ⟨by rfl, ?_⟩) (by assumption) ?_
        rotate_left
        · intro W hW
          go_simp
          try rfl
        simp only [List.getElem_toArray, List.getElem_cons_zero, Act.put, List.setIfInBounds_toArray, List.set_cons_zero, List.set_cons_succ]
        refine wpAnyH_take (i := 1) (v := ?_) rfl (by kernel_rfl) (by kernel_rfl) (by kernel_rfl) (fun _ _ _ h => h) (Or.inl ⟨by rfl, ?_⟩) (by assumption) ?_
        rotate_left
        · intro W hW
          go_simp
          try rfl
        simp only [List.getElem_toArray, List.getElem_cons_succ, List.getElem_cons_zero, Act.put, List.setIfInBounds_toArray, List.set_cons_zero, List.set_cons_succ]
        refine wpAnyH_take (i := 2) (v := ?_) rfl (by kernel_rfl) (by kernel_rfl) (by kernel_rfl) (fun _ _ _ h => h) (Or.inl ⟨by rfl, ?_⟩) (by assumption) ?_
        rotate_left
        · intro W hW
          go_simp
          try rfl
        simp only [List.getElem_toArray, List.getElem_cons_succ, List.getElem_cons_zero, Act.put, List.setIfInBounds_toArray, List.set_cons_zero, List.set_cons_succ]
        refine wpAnyH_take (i := 3) (v := ?_) rfl (by kernel_rfl) (by kernel_rfl) (by kernel_rfl) (fun _ _ _ h => h) (Or.inl ⟨by rfl, ?_⟩) (by assumption) ?_
        rotate_left
        · intro W hW
          have y0 := keepc c0 hW
          have y1 := keepc c1 hW
          have y2 := keepc c2 hW
          have y3 := keepc c3 hW
          have y4 := keepc c4 hW
          have y5 := keepc c5 hW
          go_simp
          try rfl
        simp only [List.getElem_toArray, List.getElem_cons_succ, List.getElem_cons_zero, Act.put, List.setIfInBounds_toArray, List.set_cons_zero, List.set_cons_succ]
        refine wpAnyH_take (i := 4) (v := ?_) rfl (by kernel_rfl) (by kernel_rfl) (by kernel_rfl) (fun _ _ _ h => h) (Or.inl ⟨by rfl, ?_⟩) (by assumption) ?_
        rotate_left
        · intro W hW
          go_simp
          try rfl
        simp only [List.getElem_toArray, List.getElem_cons_succ, List.getElem_cons_zero, Act.put, List.setIfInBounds_toArray, List.set_cons_zero, List.set_cons_succ]
        refine wpAnyH_take (i := 5) (v := ?_) rfl (by kernel_rfl) (by kernel_rfl) (by kernel_rfl) (fun _ _ _ h => h) (Or.inl ⟨by rfl, ?_⟩) (by assumption) ?_
        rotate_left
        · intro W hW
          go_simp
          try rfl
        simp only [List.getElem_toArray, List.getElem_cons_succ, List.getElem_cons_zero, Act.put, List.setIfInBounds_toArray, List.set_cons_zero, List.set_cons_succ]
        refine wpAnyH_take (i := 6) (v := ?_) rfl (by kernel_rfl) (by kernel_rfl) (by kernel_rfl) (fun _ _ _ h => h) (Or.inl ⟨by rfl, ?_⟩) (by assumption) ?_
        rotate_left
        · intro W hW
          go_simp
          try rfl
        simp only [List.getElem_toArray, List.getElem_cons_succ, List.getElem_cons_zero, Act.put, List.setIfInBounds_toArray, List.set_cons_zero, List.set_cons_succ]
        refine wpAnyH_take (i := 7) (v := ?_) rfl (by kernel_rfl) (by kernel_rfl) (by kernel_rfl) (fun _ _ _ h => h) (Or.inl ⟨by rfl, ?_⟩) (by assumption) ?_
        rotate_left
        · intro W hW
          have y0 := keepc d0 hW
          have y1 := keepc d1 hW
          have y2 := keepc d2 hW
          have y3 := keepc d3 hW
          have y4 := keepc d4 hW
          have y5 := keepc d5 hW
          go_simp
          try rfl
        simp only [List.getElem_toArray, List.getElem_cons_succ, List.getElem_cons_zero, Act.put, List.setIfInBounds_toArray, List.set_cons_zero, List.set_cons_succ]
        refine wpAnyH_ready (rs := [8]) (by kernel_rfl) (by simp) ?_
        refine AllReadyH.cons rfl (fun K hK => ?_) AllReadyH.nil
        go_simp
        refine (HSM.out _ hHeld).mono ?_
        rintro e w9 ⟨rfl, hb9⟩
        have hw9 : Below wr.heap.size wr w9 := hHeld.trans (hb9.mono hHeld.size)
        clear hHeld hb9
        refine hK.out _ _ hw9 (fun hHeld => ?_)
        clear hK K
        try simp only [List.getElem_toArray, List.getElem_cons_succ, List.getElem_cons_zero, Act.put, List.setIfInBounds_toArray, List.set_cons_zero, List.set_cons_succ]
        refine wpAnyH_take (i := 9) (v := ?_) rfl (by kernel_rfl) (by kernel_rfl) (by kernel_rfl) (fun _ _ _ h => h) (Or.inl ⟨by rfl, ?_⟩) (by assumption) ?_
        rotate_left
        · intro W hW
          go_simp
          try rfl
        simp only [List.getElem_toArray, List.getElem_cons_succ, List.getElem_cons_zero, Act.put, List.setIfInBounds_toArray, List.set_cons_zero, List.set_cons_succ]
        refine wpAnyH_done (by kernel_rfl) ?_ _
        have HBS := hid (HBR.out.trans (hw9.mono HBR.out.size))
        clear hw9 hHeld c0 c1 c2 c3 c4 c5 d0 d1 d2 d3 d4 d5 HSM
        by_cases hps : p = s
        · rw [decide_eq_true hps]
          have HX2 := hid (HST.out hps)
          clear hps
          go_wp2_with fail
          go_roundw
          case rel => exact ⟨i + 1, by omega, by go_num, HBS.out, hid HX2.out⟩
          case measure => simp [intOf]; omega
        · rw [decide_eq_false hps]
          have HF := hid (show false = decide (xs.map Prod.fst = ys.map Prod.fst) from decide_of_false (HNO.out hps))
          clear hps
          go_wp2_with fail
          go_ret
          exact ⟨ret_b HF.out, HBS.out⟩
      · obtain rfl : i = n := by omega
        have HF := hid (show RetBo (decide (xs.map Prod.fst = ys.map Prod.fst)) w (.returned (.bool true)) wr from ⟨ret_b (by
          have h := heq.out
          rw [List.take_of_length_le (by have := HL.out; omega), List.take_of_length_le (by have := HL.out; omega)] at h
          rw [h]; simp), hbr⟩)
        clear heq hi hlt hbr
        go_wp2_with fail
        go_ret
        exact HF.out
  · have t0 : ((n : Int) != m) = true := by simp; omega
    have HF := hid (show false = decide (xs.map Prod.fst = ys.map Prod.fst) from decide_of_false fun h => hnm (by have := congrArg List.length h; simp only [List.length_map] at this; omega))
    clear hnm hx hy hpx hpy
    go_enter Try.func23, Try.ntmps23
    go_wp2_with fail
    go_ret
    exact ⟨ret_b HF.out, Below.refl _ _⟩
end Go.Proofs.Ytedojdbihajnbaa
namespace Go.Proofs.Ytedojdbihajnbaa
open Go.RowKit Go.Shelf VB
open Go.Lib (hid)
set_option linter.unusedVariables false
set_option linter.unusedSimpArgs false
theorem conv_below (W : World) (e : TypeId) (s : ByteArray) : Below W.heap.size W (Lib.bytesWorld W e s) :=
  ⟨rfl, rfl, rfl, by rw [Lib.bytesWorld_size]; omega, fun b hb => Lib.bytesWorld_at_old W e s b hb⟩
theorem conv_reads (W : World) (s : ByteArray) : Reads (Lib.bytesWorld W 5 s) 5 1 (some ⟨W.heap.size, 0, none⟩) s.size (bsV (nmL s)) := by
  refine ⟨by rw [bsV_len, nmL_len, Nat.mul_one], fun _ => ⟨_, rfl, ⟨_, _, Lib.bytesWorld_at_new W 5 s⟩, ?_⟩⟩
  intro j u hu
  have hj : j < s.size := by
    have := (List.getElem?_eq_some_iff.1 hu).1
    rw [bsV_len, nmL_len] at this
    exact this
  have h := Lib.bytesWorld_cell W 5 s j hj
  have e1 : (⟨W.heap.size, 0, none⟩ : Addr).add j = ⟨W.heap.size, j, none⟩ := by
    cases j with
    | zero => rfl
    | succ j => simp [Addr.add]
  rw [e1, h]
  unfold bsV nmL at hu
  rw [List.map_map, List.getElem?_map] at hu
  rw [List.getD_eq_getElem?_getD]
  cases hs : s.data.toList[j]? with
  | none => rw [hs] at hu; cases hu
  | some b => rw [hs] at hu; simpa using hu
theorem own_not {w : World} {b n z g : Nat} {e t : TypeId} {v : Value} {xs : List Value} {cs : Array Value} (h : w.ownsRow b e z v n xs) (k : Blk w g t cs) (hne : t ≠ e) : some g ≠ v.ownBlock := by
  obtain ⟨_, h2⟩ := h
  rcases h2 with ⟨rfl, _⟩ | ⟨q, cap, cur, rfl, _, hh, _⟩
  · intro h; cases h
  · intro h
    injection h with h
    subst h
    unfold Blk at k
    rw [k] at hh
    injection hh with hh
    injection hh with _ h3
    exact hne h3
theorem all_pt {l : List (Int × Int)} (h : l.all ptB = true) {i : Nat} (hi : i < l.length) : ptB (l.getD i (0, 0)) = true := by
  rw [List.all_eq_true] at h
  exact h _ (by rw [List.getD_eq_getElem?_getD, List.getElem?_eq_getElem hi]; exact List.getElem_mem _)
set_option maxRecDepth 100000 in
set_option maxHeartbeats 4000000 in
theorem Bytes_d {e1 : TypeId} (m : Mu) (A : Option Addr) (c : Nat) (w : World) (hz : Reads w e1 2 A m.pts.length (m.pts.flatMap cellsP)) (hr : Right m) :
    Calls Try.prog 19 #[vM m A c] w (RetB (mutB m) w) := by
  have h16 := hr.len16
  have hnl := nameB_len hr.name
  have hpts := hr.pts
  obtain ⟨k, nm, ep, fl, sc, l⟩ := m
  have hk1 := hr.k1
  have hk4 := hr.k4
  have hf0 := hr.f0
  have hf1 := hr.f1
  have he0 := hr.e0
  have he1 := hr.e1
  have hs0 := hr.s0
  have hs1 := hr.s1
  simp only at hz h16 hnl hk1 hk4 hf0 hf1 he0 he1 hs0 hs1 hpts
  obtain ⟨kd, hkd⟩ := Int.eq_ofNat_of_zero_le (show 0 ≤ k by omega)
  obtain ⟨en, rfl⟩ := Int.eq_ofNat_of_zero_le he0
  obtain ⟨fn, rfl⟩ := Int.eq_ofNat_of_zero_le hf0
  obtain ⟨n, hn'⟩ : ∃ n, n = l.length := ⟨_, rfl⟩
  have HM := hid (show mutB ⟨k, nm, (en : Nat), (fn : Nat), sc, l⟩ = ([kd, nm.size] ++ nmL nm) ++ (if k = 1 then vb en ++ vb (fold64 sc) else if k = 2 then [] else if k = 3 then vb n ++ ptsBy l n else vb fn) by
    unfold mutB bodyB
    simp only [Int.toNat_natCast]
    rw [← hn', hkd, Int.toNat_natCast])
  show Calls _ _ #[.agg (aM k nm (en : Nat) (fn : Nat) sc (.slice A l.length c))] _ _
  rw [← hn'] at hz h16 ⊢
  have K0 := hid (Blk.new w 24 (aM k nm (en : Nat) (fn : Nat) sc (.slice A n c)))
  have HB0 := hid ((Below.refl w.heap.size w).alloc (Nat.le_refl _) (.cells (aM k nm (en : Nat) (fn : Nat) sc (.slice A n c)) 24))
  have HZ := hid hz
  obtain ⟨i0, hi0, hz0, hz1, hz2⟩ := info_parts3 byte_info
  have HI := hid (And.intro hi0 (And.intro hz0 (And.intro hz1 hz2)))
  have HL := hid (And.intro hn' (And.intro h16 (And.intro hnl hpts)))
  have u1 : k % 256 = (kd : Int) := by omega
  have u2 : (nm.size : Int) % 256 = (nm.size : Int) := by omega
  have u3 : IntKind.u64.wrap (en : Int) = (en : Int) := by rw [IntKind.wrap_u64]; omega
  have u4 : IntKind.u64.wrap (fn : Int) = (fn : Int) := by rw [IntKind.wrap_u64]; omega
  have u5 : IntKind.u64.wrap (n : Int) = (n : Int) := by rw [IntKind.wrap_u64]; omega
  have HH := hid (show (1 ≤ k ∧ k ≤ 4) ∧ (fn ≤ 281474976710656 ∧ en ≤ 1099511627776) ∧ -40 ≤ sc ∧ sc ≤ 40 by omega)
  clear hz hr hk1 hk4 hf0 hf1 he0 he1 hs0 hs1 hnl h16 hi0 hz0 hz1 hz2 hn' hpts hkd
  go_enter Try.func19, Try.ntmps19
  go_upto_region 1 with fail
  generalize w.alloc (.cells (aM k nm (en : Nat) (fn : Nat) sc (.slice A n c)) 24) = w1 at *
  obtain ⟨c0, c1, c2, c3, c4, c5⟩ := K0.out.sixc
  have hb2 := HB0.out.alloc HB0.out.size (.cells #[.int .u8 (kd : Nat), .int .u8 (nm.size : Nat)] 5)
  have HO2 := hid (own_low (own_two w1 kd nm.size) HB0.out.size)
  have HK2 := hid (K0.out.alloc (.cells #[.int .u8 (kd : Nat), .int .u8 (nm.size : Nat)] 5))
  have c1b := HK2.out.sixc.2.1
  have hconv := Lib.run_convert_string_bytes (P := Try.prog) (w1.alloc (.cells #[.int .u8 (kd : Nat), .int .u8 (nm.size : Nat)] 5)) 9 32 5 nm Try.underlying9 Try.underlying32 Try.underlying5
  have hcb := conv_below (w1.alloc (.cells #[.int .u8 (kd : Nat), .int .u8 (nm.size : Nat)] 5)) 5 nm
  have HCR := hid (conv_reads (w1.alloc (.cells #[.int .u8 (kd : Nat), .int .u8 (nm.size : Nat)] 5)) nm)
  have HKC := hid (HK2.out.under hcb)
  have HOC := hid (own_below HO2.out hcb)
  have HBC := hid (hb2.trans (hcb.mono hb2.size))
  generalize hG : Lib.bytesWorld (w1.alloc (.cells #[.int .u8 (kd : Nat), .int .u8 (nm.size : Nat)] 5)) 5 nm = wc at *
  generalize grownCap (w1.alloc (.cells #[.int .u8 (kd : Nat), .int .u8 (nm.size : Nat)] 5)) nm.size 0 5 = G at *
  simp only [World.size_alloc] at hconv HCR
  clear hb2 hcb hG HO2
  go_upto_region 2 with (at_builtin; refine wpList_append_any _ rfl (.tmp 13) (.tmp 16) 32 rfl w.heap.size 5 i0 (.int .u8 0) 1 1 Try.underlying32 HI.out.1 HI.out.2.1 HI.out.2.2.1 HI.out.2.2.2 rfl (by decide) _ 2 (bsV [kd, nm.size]) rfl HOC.out (some ⟨w1.heap.size + 1, 0, none⟩) nm.size G (bsV (nmL nm)) rfl HCR.out (bsV_one _) (by have := HL.out.2.2.1.2; simp only [maxLen]; omega) (by have := HL.out.2.2.1.2; omega) HBC.out.size ?_; intro v' w2 hown' hg' hv')
  obtain ⟨D0, g0, rfl, _, _⟩ := own_form hown'
  have HK := hid (HKC.out.grown hg' (own_not HOC.out HKC.out (by decide)))
  have HB := hid (HBC.out.grown hg' HBC.out.size (fun k hk => (HOC.out.lt k hk).1))
  obtain ⟨acc0, hacc0⟩ : ∃ acc, acc = [kd, nm.size] ++ nmL nm := ⟨_, rfl⟩
  have e0 : 2 + nm.size = acc0.length := by rw [hacc0, List.length_append, nmL_len]; rfl
  rw [← bsV_app, e0, ← hacc0] at hown'
  rw [e0]
  have HOW := hid hown'
  have HM := hid (HM.out.trans (by rw [← hacc0]))
  have HA0 := hid (show acc0.length ≤ 14 by have := HL.out.2.2.1.2; omega)
  clear hown' hg' hv' hconv HKC HOC HBC HCR HK2 c0 c1 c2 c3 c4 c5 c1b e0 hacc0 HB0 K0 u1 u2
  generalize wc.heap.size = gx at *
  obtain ⟨c0, c1, c2, c3, c4, c5⟩ := HK.out.sixc
  by_cases h1 : k = 1
  · have t1 : (k == 1) = true := by simp [h1]
    have HMM := hid (HM.out.trans (show _ = (acc0 ++ vb en) ++ vb (fold64 sc) by rw [if_pos h1, List.append_assoc]))
    clear h1 HM
    go_wp2_with fail
    refine wp_region_held_drew (S := (fun W => Blk W w.heap.size 24 (aM k nm (en : Nat) (fn : Nat) sc (.slice A n c)))) (by kernel_rfl) HK.out.drew (fun hHeld => ?_)
    have hown := HOW.out.drew
    have hb := HB.out.drew
    have v1 := vb_len10 (n := en) (by have := HH.out; omega)
    have v2 := vb_len10 (fold64_lt (n := sc) (by have := HH.out; omega) (by have := HH.out; omega))
    have v3 := HA0.out
    refine wpAnyH_take (i := 0) (v := ?_) rfl (by kernel_rfl) (by kernel_rfl) (by kernel_rfl) (fun _ _ _ h => h) (Or.inl ⟨by rfl, ?_⟩) (by assumption) ?_
    rotate_left
    · intro W hW
      go_simp
      try rfl
    simp only [List.getElem_toArray, List.getElem_cons_zero, Act.put, List.setIfInBounds_toArray, List.set_cons_zero, List.set_cons_succ]
    refine wpAnyH_take (i := 1) (v := ?_) rfl (by kernel_rfl) (by kernel_rfl) (by kernel_rfl) (fun _ _ _ h => h) (Or.inl ⟨by rfl, ?_⟩) (by assumption) ?_
    rotate_left
    · intro W hW
      go_simp
      try rfl
    simp only [List.getElem_toArray, List.getElem_cons_succ, List.getElem_cons_zero, Act.put, List.setIfInBounds_toArray, List.set_cons_zero, List.set_cons_succ]
    refine wpAnyH_take (i := 2) (v := ?_) rfl (by kernel_rfl) (by kernel_rfl) (by kernel_rfl) (fun _ _ _ h => h) (Or.inl ⟨by rfl, ?_⟩) (by assumption) ?_
    rotate_left
    · intro W hW
      obtain ⟨x0, x1, x2, x3, x4, x5⟩ := hW.sixc
      go_simp
      try rfl
    simp only [List.getElem_toArray, List.getElem_cons_succ, List.getElem_cons_zero, Act.put, List.setIfInBounds_toArray, List.set_cons_zero, List.set_cons_succ]
    refine wpAnyH_take (i := 3) (v := ?_) rfl (by kernel_rfl) (by kernel_rfl) (by kernel_rfl) (fun _ _ _ h => h) (Or.inl ⟨by rfl, ?_⟩) (by assumption) ?_
    rotate_left
    · intro W hW
      go_simp
      try rfl
    simp only [List.getElem_toArray, List.getElem_cons_succ, List.getElem_cons_zero, Act.put, List.setIfInBounds_toArray, List.set_cons_zero, List.set_cons_succ]
    refine wpAnyH_take (i := 6) (v := ?_) rfl (by kernel_rfl) (by kernel_rfl) (by kernel_rfl) (fun _ _ _ h => h) (Or.inl ⟨by rfl, ?_⟩) (by assumption) ?_
    rotate_left
    · intro W hW
      go_simp
      try rfl
    simp only [List.getElem_toArray, List.getElem_cons_succ, List.getElem_cons_zero, Act.put, List.setIfInBounds_toArray, List.set_cons_zero, List.set_cons_succ]
    refine wpAnyH_take (i := 7) (v := ?_) rfl (by kernel_rfl) (by kernel_rfl) (by kernel_rfl) (fun _ _ _ h => h) (Or.inl ⟨by rfl, ?_⟩) (by assumption) ?_
    rotate_left
    · intro W hW
      obtain ⟨x0, x1, x2, x3, x4, x5⟩ := hW.sixc
      go_simp
      try rfl
    simp only [List.getElem_toArray, List.getElem_cons_succ, List.getElem_cons_zero, Act.put, List.setIfInBounds_toArray, List.set_cons_zero, List.set_cons_succ]
    refine wpAnyH_ready (rs := [4]) (by kernel_rfl) (by simp) ?_
    refine AllReadyH.cons rfl (fun K hK => ?_) AllReadyH.nil
    go_simp
    refine (bytes_ref en (by have := HH.out; omega) _).mono ?_
    rintro e w4 ⟨D1, g1, rfl, hown1, hb1⟩
    have kt := hHeld.under hb1
    replace hown := own_below hown hb1
    replace hb := hb.trans (hb1.mono hb.size)
    have hr1 := Reads.of_own hown1
    clear hHeld hb1 hown1
    refine hK.out _ _ kt (fun hHeld => ?_)
    clear hK K
    try simp only [List.getElem_toArray, List.getElem_cons_succ, List.getElem_cons_zero, Act.put, List.setIfInBounds_toArray, List.set_cons_zero, List.set_cons_succ]
    refine wpAnyH_ready (rs := [5]) (by kernel_rfl) (by simp) ?_
    refine AllReadyH.cons rfl (fun K hK => ?_) AllReadyH.nil
    try rw [if_pos (by rfl)]
    refine wp_append_any _ (.tmp 22) (.tmp 26) 32 rfl w.heap.size 5 i0 (.int .u8 0) 1 1 Try.underlying32 HI.out.1 HI.out.2.1 HI.out.2.2.1 HI.out.2.2.2 rfl (by decide) _ acc0.length (bsV acc0) rfl hown D1 (vb en).length g1 (bsV (vb en)) rfl hr1 (bsV_one _) (by simp only [maxLen]; omega) (by omega) hb.size ?_
    intro v' w5 hown' hg' hv'
    obtain ⟨D2, g2, rfl, _, _⟩ := own_form hown'
    replace kt := kt.grown hg' (own_not hown kt (by decide))
    replace hb := hb.grown hg' hb.size (fun k hk => (hown.lt k hk).1)
    have ea : acc0.length + (vb en).length = (acc0 ++ vb en).length := List.length_append.symm
    rw [← bsV_app, ea] at hown'
    rw [ea]
    obtain ⟨acc1, hacc1⟩ : ∃ a, a = acc0 ++ vb en := ⟨_, rfl⟩
    rw [← hacc1] at hown' ea ⊢
    have Hacc1 := hid hacc1
    replace hown := hown'
    clear hg' hv' hown' hr1 hHeld hacc1
    refine hK.out _ _ kt (fun hHeld => ?_)
    clear hK K
    try simp only [List.getElem_toArray, List.getElem_cons_succ, List.getElem_cons_zero, Act.put, List.setIfInBounds_toArray, List.set_cons_zero, List.set_cons_succ]
    refine wpAnyH_ready (rs := [8]) (by kernel_rfl) (by simp) ?_
    refine AllReadyH.cons rfl (fun K hK => ?_) AllReadyH.nil
    go_simp
    refine (signed_c sc (by have := HH.out; omega) (by have := HH.out; omega) _).mono ?_
    rintro e w6 ⟨D3, g3, rfl, hown1, hb1⟩
    replace kt := hHeld.under hb1
    replace hown := own_below hown hb1
    replace hb := hb.trans (hb1.mono hb.size)
    have hr1 := Reads.of_own hown1
    clear hHeld hb1 hown1
    refine hK.out _ _ kt (fun hHeld => ?_)
    clear hK K
    try simp only [List.getElem_toArray, List.getElem_cons_succ, List.getElem_cons_zero, Act.put, List.setIfInBounds_toArray, List.set_cons_zero, List.set_cons_succ]
    refine wpAnyH_ready (rs := [9]) (by kernel_rfl) (by simp) ?_
    refine AllReadyH.cons rfl (fun K hK => ?_) AllReadyH.nil
    try rw [if_pos (by rfl)]
    refine wp_append_any _ (.tmp 27) (.tmp 30) 32 rfl w.heap.size 5 i0 (.int .u8 0) 1 1 Try.underlying32 HI.out.1 HI.out.2.1 HI.out.2.2.1 HI.out.2.2.2 rfl (by decide) _ acc1.length (bsV acc1) rfl hown D3 (vb (fold64 sc)).length g3 (bsV (vb (fold64 sc))) rfl hr1 (bsV_one _) (by simp only [maxLen]; omega) (by omega) hb.size ?_
    intro v' w7 hown' hg' hv'
    obtain ⟨D4, g4, rfl, _, _⟩ := own_form hown'
    replace kt := kt.grown hg' (own_not hown kt (by decide))
    replace hb := hb.grown hg' hb.size (fun k hk => (hown.lt k hk).1)
    have ea : acc1.length + (vb (fold64 sc)).length = (acc1 ++ vb (fold64 sc)).length := List.length_append.symm
    rw [← bsV_app, ea] at hown'
    rw [ea]
    obtain ⟨acc2, hacc2⟩ : ∃ a, a = acc1 ++ vb (fold64 sc) := ⟨_, rfl⟩
    rw [← hacc2] at hown' ea ⊢
    have Hacc2 := hid hacc2
    replace hown := hown'
    clear hg' hv' hown' hr1 hHeld hacc2
    refine hK.out _ _ kt (fun hHeld => ?_)
    clear hK K
    try simp only [List.getElem_toArray, List.getElem_cons_succ, List.getElem_cons_zero, Act.put, List.setIfInBounds_toArray, List.set_cons_zero, List.set_cons_succ]
    refine wpAnyH_take (i := 10) (v := ?_) rfl (by kernel_rfl) (by kernel_rfl) (by kernel_rfl) (fun _ _ _ h => h) (Or.inl ⟨by rfl, ?_⟩) (by assumption) ?_
    rotate_left
    · intro W hW
      go_simp
      try rfl
    simp only [List.getElem_toArray, List.getElem_cons_succ, List.getElem_cons_zero, Act.put, List.setIfInBounds_toArray, List.set_cons_zero, List.set_cons_succ]
    refine wpAnyH_done (by kernel_rfl) ?_ _
    have HF := hid (show RetB (mutB ⟨k, nm, (en : Nat), (fn : Nat), sc, l⟩) w (.returned (.slice D4 acc2.length g4)) w7 by rw [HMM.out, ← Hacc1.out, ← Hacc2.out]; exact ⟨D4, g4, rfl, hown, hb⟩)
    clear hown hb kt v1 v2 v3 ea
    go_wp2_with fail
    go_ret
    exact HF.out
  · have t1 : (k == 1) = false := by simp [h1]
    have HM2 := hid (HM.out.trans (show _ = acc0 ++ (if k = 2 then [] else if k = 3 then vb n ++ ptsBy l n else vb fn) by rw [if_neg h1]))
    have HK4 := hid h1
    clear h1 HM
    by_cases h4 : k = 4
    · have t4 : (k == 4) = true := by simp [h4]
      have HMM := hid (HM2.out.trans (show _ = acc0 ++ vb fn by rw [if_neg (by omega), if_neg (by omega)]))
      clear h4 HM2
      go_wp2_with fail
      refine (bytes_ref fn (by have := HH.out; omega) _).mono ?_
      rintro e w4 ⟨D1, g1, rfl, hown1, hb1⟩
      have hown := own_below HOW.out hb1
      have hb := HB.out.trans (hb1.mono HB.out.size)
      have hr1 := Reads.of_own hown1
      have v1 := vb_len10 (n := fn) (by have := HH.out; omega)
      have v3 := HA0.out
      clear hb1 hown1 c0 c1 c2 c3 c4 c5
      go_wp2_with (at_builtin; refine wpList_append_any _ rfl (.tmp 34) (.tmp 38) 32 rfl w.heap.size 5 i0 (.int .u8 0) 1 1 Try.underlying32 HI.out.1 HI.out.2.1 HI.out.2.2.1 HI.out.2.2.2 rfl (by decide) _ acc0.length (bsV acc0) rfl hown D1 (vb fn).length g1 (bsV (vb fn)) rfl hr1 (bsV_one _) (by simp only [maxLen]; omega) (by omega) hb.size ?_; intro v' w5 hown' hg' hv')
      obtain ⟨D2, g2, rfl, _, _⟩ := own_form hown'
      replace hb := hb.grown hg' hb.size (fun k hk => (hown.lt k hk).1)
      have ea : acc0.length + (vb fn).length = (acc0 ++ vb fn).length := List.length_append.symm
      rw [← bsV_app, ea] at hown'
      rw [ea]
      have HF := hid (show RetB (mutB ⟨k, nm, (en : Nat), (fn : Nat), sc, l⟩) w (.returned (.slice D2 (acc0 ++ vb fn).length g2)) w5 by rw [HMM.out]; exact ⟨D2, g2, rfl, hown', hb⟩)
      generalize (acc0 ++ vb fn).length = nq at *
      clear hown hown' hb hr1 hg' hv' v1 v3 ea
      go_wp2_with fail
      go_ret
      exact HF.out
    · have t4 : (k == 4) = false := by simp [h4]
      by_cases h3 : k = 3
      · have t3 : (k == 3) = true := by simp [h3]
        have HMM := hid (HM2.out.trans (show _ = acc0 ++ (vb n ++ ptsBy l n) by rw [if_neg (by omega), if_pos h3]))
        clear h3 h4 HM2 HK4
        go_wp2_with fail
        refine (bytes_ref n (by have := HL.out.2.1; omega) _).mono ?_
        rintro e w4 ⟨D1, g1, rfl, hown1, hb1⟩
        have hown := own_below HOW.out hb1
        have hb := HB.out.trans (hb1.mono HB.out.size)
        have kt := HK.out.under hb1
        have hr1 := Reads.of_own hown1
        have v1 := vb_len10 (n := n) (by have := HL.out.2.1; omega)
        have v3 := HA0.out
        clear hb1 hown1 c0 c1 c2 c3 c4 c5
        go_upto_region 9 with (at_builtin; refine wpList_append_any _ rfl (.tmp 42) (.tmp 47) 32 rfl w.heap.size 5 i0 (.int .u8 0) 1 1 Try.underlying32 HI.out.1 HI.out.2.1 HI.out.2.2.1 HI.out.2.2.2 rfl (by decide) _ acc0.length (bsV acc0) rfl hown D1 (vb n).length g1 (bsV (vb n)) rfl hr1 (bsV_one _) (by simp only [maxLen]; omega) (by omega) hb.size ?_; intro v' w5 hown' hg' hv')
        obtain ⟨D2, g2, rfl, _, _⟩ := own_form hown'
        replace kt := kt.grown hg' (own_not hown kt (by decide))
        replace hb := hb.grown hg' hb.size (fun k hk => (hown.lt k hk).1)
        have ea : acc0.length + (vb n).length = (acc0 ++ vb n).length := List.length_append.symm
        rw [← bsV_app, ea] at hown'
        rw [ea]
        obtain ⟨acc1, hacc1⟩ : ∃ a, a = acc0 ++ vb n := ⟨_, rfl⟩
        rw [← hacc1] at hown' ea ⊢
        have HACC1 := hid (show mutB ⟨k, nm, (en : Nat), (fn : Nat), sc, l⟩ = acc1 ++ ptsBy l n ∧ acc1.length ≤ 24 by
          refine ⟨by rw [HMM.out, hacc1, List.append_assoc], by omega⟩)
        have HX := hid (And.intro hown' (And.intro kt hb))
        obtain ⟨c0, c1, c2, c3, c4, c5⟩ := kt.sixc
        clear hown hown' hb kt hr1 hg' hv' v1 v3 ea HMM hacc1 HOW HK HB HA0
        have h16 := HL.out.2.1
        go_wp2_with fail
        clear c0 c1 c2 c3 c4 c5
        go_loopw [3, 52] (fun u3 u52 wr => ∃ (i : Nat) (acc : List Nat) (D : Option Addr) (g : Nat), i ≤ n ∧ u52 = .int .i64 (i : Nat) ∧ u3 = .slice D acc.length g ∧ Hid (acc = acc1 ++ ptsBy l i ∧ acc.length ≤ 24 + 20 * i) ∧ Hid (wr.ownsRow w.heap.size 5 1 (.slice D acc.length g) acc.length (bsV acc) ∧ Blk wr w.heap.size 24 (aM k nm (en : Nat) (fn : Nat) sc (.slice A n c)) ∧ Below w.heap.size w wr)) (fun _ u52 _ => n - (intOf u52).toNat)
        case atStart => exact ⟨0, acc1, D2, g2, Nat.zero_le _, rfl, rfl, hid ⟨by simp [ptsBy], by have := HACC1.out.2; omega⟩, HX⟩
        case round =>
          obtain ⟨i, acc, D, g, hi, rfl, rfl, hacc, HY⟩ := hrel
          by_cases hlt : i < n
          · obtain ⟨hown, kt, hb⟩ := HY.out
            obtain ⟨ad, rfl, p0, p1⟩ := pts_at (HZ.out.below hb) hlt
            have p2 : wr.cell? ⟨(ad.add (i * 2)).block, (ad.add (i * 2)).off + 1, none⟩ = _ := p1
            have hpt := all_pt HL.out.2.2.2 (i := i) (by have := HL.out.1; omega)
            have hpl := ptBy_len (l := l) (fun i hi => all_pt HL.out.2.2.2 hi) (i := i) (by have := HL.out.1; omega)
            have hstep : ptsBy l (i + 1) = ptsBy l i ++ ptBy l i := ptsBy_succ l i
            obtain ⟨T, V, hTV⟩ : ∃ T V, l.getD i (0, 0) = (T, V) := ⟨_, _, rfl⟩
            rw [hTV] at p0 p2 hpt
            have hbd := pt_bounds hpt
            have HBD := hid hbd
            have hc5 := kt.sixc.2.2.2.2.2
            have hltI : (i : Int) < (n : Int) := by omega
            have HP := hid (And.intro hTV (And.intro hpl hstep))
            have HO := hid (And.intro (hown.alloc (.cells #[.int .i64 T, .int .i64 V] 51)) (And.intro (kt.alloc (.cells #[.int .i64 T, .int .i64 V] 51)) (And.intro (Blk.new wr 51 #[.int .i64 T, .int .i64 V]) (hb.alloc hb.size (.cells #[.int .i64 T, .int .i64 V] 51)))))
            clear hown kt hb p1 hTV hpt hpl hstep hbd HY HX
            by_cases hi0 : i = 0
            · have z1 : ((i : Int) == 0) = true := by simp [hi0]
              have HE := hid (show ptBy l i = vb T.toNat ++ vb (fold64 V) by unfold ptBy; rw [if_pos hi0]; have := HP.out.1; rw [hi0] at this; rw [this])
              clear hi0
              obtain ⟨tn, htn⟩ := Int.eq_ofNat_of_zero_le (show 0 ≤ T by have := HBD.out; omega)
              have u6 : IntKind.u64.wrap T = (tn : Int) := by rw [IntKind.wrap_u64]; have := HBD.out; omega
              have HTN := hid htn
              clear htn
              go_wp2_with fail
              refine wp_region_held_drew (S := (fun W => Blk W w.heap.size 24 (aM k nm (en : Nat) (fn : Nat) sc (.slice (some ad) n c)) ∧ Blk W wr.heap.size 51 #[.int .i64 T, .int .i64 V] ∧ Below w.heap.size w W)) (by kernel_rfl) ⟨HO.out.2.1.drew, HO.out.2.2.1.drew, below_dn HO.out.2.2.2 1⟩ (fun hHeld => ?_)
              have hown := HO.out.1.drew
              have hb := below_dn HO.out.2.2.2 1
              have v3 := hacc.out.2
              have v5 := HL.out.2.1
              have v4 := HBD.out
              refine wpAnyH_take (i := 0) (v := ?_) rfl (by kernel_rfl) (by kernel_rfl) (by kernel_rfl) (fun _ _ _ h => h) (Or.inl ⟨by rfl, ?_⟩) (by assumption) ?_
              rotate_left
              · intro W hW
                go_simp
                try rfl
              simp only [List.getElem_toArray, List.getElem_cons_zero, Act.put, List.setIfInBounds_toArray, List.set_cons_zero, List.set_cons_succ]
              refine wpAnyH_take (i := 1) (v := ?_) rfl (by kernel_rfl) (by kernel_rfl) (by kernel_rfl) (fun _ _ _ h => h) (Or.inl ⟨by rfl, ?_⟩) (by assumption) ?_
              rotate_left
              · intro W hW
                go_simp
                try rfl
              simp only [List.getElem_toArray, List.getElem_cons_succ, List.getElem_cons_zero, Act.put, List.setIfInBounds_toArray, List.set_cons_zero, List.set_cons_succ]
              refine wpAnyH_take (i := 2) (v := ?_) rfl (by kernel_rfl) (by kernel_rfl) (by kernel_rfl) (fun _ _ _ h => h) (Or.inl ⟨by rfl, ?_⟩) (by assumption) ?_
              rotate_left
              · intro W hW
                obtain ⟨x0, x1, x2, x3, x4, x5⟩ := hW.1.sixc
                obtain ⟨y0, y1, y2, y3, y4⟩ := hW.2.1.two
                go_simp
                try rfl
              simp only [List.getElem_toArray, List.getElem_cons_succ, List.getElem_cons_zero, Act.put, List.setIfInBounds_toArray, List.set_cons_zero, List.set_cons_succ]
              refine wpAnyH_take (i := 3) (v := ?_) rfl (by kernel_rfl) (by kernel_rfl) (by kernel_rfl) (fun _ _ _ h => h) (Or.inl ⟨by rfl, ?_⟩) (by assumption) ?_
              rotate_left
              · intro W hW
                go_simp
                try rfl
              simp only [List.getElem_toArray, List.getElem_cons_succ, List.getElem_cons_zero, Act.put, List.setIfInBounds_toArray, List.set_cons_zero, List.set_cons_succ]
              refine wpAnyH_take (i := 6) (v := ?_) rfl (by kernel_rfl) (by kernel_rfl) (by kernel_rfl) (fun _ _ _ h => h) (Or.inl ⟨by rfl, ?_⟩) (by assumption) ?_
              rotate_left
              · intro W hW
                go_simp
                try rfl
              simp only [List.getElem_toArray, List.getElem_cons_succ, List.getElem_cons_zero, Act.put, List.setIfInBounds_toArray, List.set_cons_zero, List.set_cons_succ]
              refine wpAnyH_take (i := 7) (v := ?_) rfl (by kernel_rfl) (by kernel_rfl) (by kernel_rfl) (fun _ _ _ h => h) (Or.inl ⟨by rfl, ?_⟩) (by assumption) ?_
              rotate_left
              · intro W hW
                obtain ⟨x0, x1, x2, x3, x4, x5⟩ := hW.1.sixc
                obtain ⟨y0, y1, y2, y3, y4⟩ := hW.2.1.two
                go_simp
                try rfl
              simp only [List.getElem_toArray, List.getElem_cons_succ, List.getElem_cons_zero, Act.put, List.setIfInBounds_toArray, List.set_cons_zero, List.set_cons_succ]
              have w1b := vb_len10 (n := tn) (by have := HTN.out; omega)
              have w2b := vb_len10 (fold64_lt (n := V) (by omega) (by omega))
              refine wpAnyH_ready (rs := [4]) (by kernel_rfl) (by simp) ?_
              refine AllReadyH.cons rfl (fun K hK => ?_) AllReadyH.nil
              go_simp
              refine (bytes_ref tn (by have := HTN.out; omega) _).mono ?_
              rintro e w6 ⟨D3, g3, rfl, hown1, hb1⟩
              have kt := And.intro (hHeld.1.under hb1) (And.intro (hHeld.2.1.under hb1) (hHeld.2.2.trans (hb1.mono hHeld.2.2.size)))
              replace hown := own_below hown hb1
              replace hb := hb.trans (hb1.mono hb.size)
              have hr1 := Reads.of_own hown1
              clear hHeld hb1 hown1
              refine hK.out _ _ kt (fun hHeld => ?_)
              clear hK K
              try simp only [List.getElem_toArray, List.getElem_cons_succ, List.getElem_cons_zero, Act.put, List.setIfInBounds_toArray, List.set_cons_zero, List.set_cons_succ]
              refine wpAnyH_ready (rs := [5]) (by kernel_rfl) (by simp) ?_
              refine AllReadyH.cons rfl (fun K hK => ?_) AllReadyH.nil
              try rw [if_pos (by rfl)]
              refine wp_append_any _ (.tmp 59) (.tmp 63) 32 rfl w.heap.size 5 i0 (.int .u8 0) 1 1 Try.underlying32 HI.out.1 HI.out.2.1 HI.out.2.2.1 HI.out.2.2.2 rfl (by decide) _ acc.length (bsV acc) rfl hown D3 (vb tn).length g3 (bsV (vb tn)) rfl hr1 (bsV_one _) (by simp only [maxLen]; omega) (by omega) hb.size ?_
              intro v' w7 hown' hg' hv'
              obtain ⟨D4, g4, rfl, _, _⟩ := own_form hown'
              replace kt := And.intro (kt.1.grown hg' (own_not hown kt.1 (by decide))) (And.intro (kt.2.1.grown hg' (own_not hown kt.2.1 (by decide))) (kt.2.2.grown hg' kt.2.2.size (fun k hk => (hown.lt k hk).1)))
              replace hb := hb.grown hg' hb.size (fun k hk => (hown.lt k hk).1)
              have ea : acc.length + (vb tn).length = (acc ++ vb tn).length := List.length_append.symm
              rw [← bsV_app, ea] at hown'
              rw [ea]
              obtain ⟨acc3, hacc3⟩ : ∃ a, a = acc ++ vb tn := ⟨_, rfl⟩
              rw [← hacc3] at hown' ea ⊢
              have Hacc3 := hid hacc3
              replace hown := hown'
              clear hg' hv' hown' hr1 hHeld hacc3
              refine hK.out _ _ kt (fun hHeld => ?_)
              clear hK K
              try simp only [List.getElem_toArray, List.getElem_cons_succ, List.getElem_cons_zero, Act.put, List.setIfInBounds_toArray, List.set_cons_zero, List.set_cons_succ]
              refine wpAnyH_ready (rs := [8]) (by kernel_rfl) (by simp) ?_
              refine AllReadyH.cons rfl (fun K hK => ?_) AllReadyH.nil
              go_simp
              refine (signed_c V (by omega) (by omega) _).mono ?_
              rintro e w8 ⟨D5, g5, rfl, hown1, hb1⟩
              have kt := And.intro (hHeld.1.under hb1) (And.intro (hHeld.2.1.under hb1) (hHeld.2.2.trans (hb1.mono hHeld.2.2.size)))
              replace hown := own_below hown hb1
              replace hb := hb.trans (hb1.mono hb.size)
              have hr1 := Reads.of_own hown1
              clear hHeld hb1 hown1
              refine hK.out _ _ kt (fun hHeld => ?_)
              clear hK K
              try simp only [List.getElem_toArray, List.getElem_cons_succ, List.getElem_cons_zero, Act.put, List.setIfInBounds_toArray, List.set_cons_zero, List.set_cons_succ]
              refine wpAnyH_ready (rs := [9]) (by kernel_rfl) (by simp) ?_
              refine AllReadyH.cons rfl (fun K hK => ?_) AllReadyH.nil
              try rw [if_pos (by rfl)]
              refine wp_append_any _ (.tmp 64) (.tmp 67) 32 rfl w.heap.size 5 i0 (.int .u8 0) 1 1 Try.underlying32 HI.out.1 HI.out.2.1 HI.out.2.2.1 HI.out.2.2.2 rfl (by decide) _ acc3.length (bsV acc3) rfl hown D5 (vb (fold64 V)).length g5 (bsV (vb (fold64 V))) rfl hr1 (bsV_one _) (by simp only [maxLen]; omega) (by omega) hb.size ?_
              intro v' wq hown' hg' hv'
              obtain ⟨D6, g6, rfl, _, _⟩ := own_form hown'
              replace kt := And.intro (kt.1.grown hg' (own_not hown kt.1 (by decide))) (And.intro (kt.2.1.grown hg' (own_not hown kt.2.1 (by decide))) (kt.2.2.grown hg' kt.2.2.size (fun k hk => (hown.lt k hk).1)))
              replace hb := hb.grown hg' hb.size (fun k hk => (hown.lt k hk).1)
              have ea : acc3.length + (vb (fold64 V)).length = (acc3 ++ vb (fold64 V)).length := List.length_append.symm
              rw [← bsV_app, ea] at hown'
              rw [ea]
              obtain ⟨acc4, hacc4⟩ : ∃ a, a = acc3 ++ vb (fold64 V) := ⟨_, rfl⟩
              rw [← hacc4] at hown' ea ⊢
              have Hacc4 := hid hacc4
              replace hown := hown'
              clear hg' hv' hown' hr1 hHeld hacc4
              refine hK.out _ _ kt (fun hHeld => ?_)
              clear hK K
              try simp only [List.getElem_toArray, List.getElem_cons_succ, List.getElem_cons_zero, Act.put, List.setIfInBounds_toArray, List.set_cons_zero, List.set_cons_succ]
              refine wpAnyH_take (i := 10) (v := ?_) rfl (by kernel_rfl) (by kernel_rfl) (by kernel_rfl) (fun _ _ _ h => h) (Or.inl ⟨by rfl, ?_⟩) (by assumption) ?_
              rotate_left
              · intro W hW
                go_simp
                try rfl
              simp only [List.getElem_toArray, List.getElem_cons_succ, List.getElem_cons_zero, Act.put, List.setIfInBounds_toArray, List.set_cons_zero, List.set_cons_succ]
              have hT : T.toNat = tn := by rw [HTN.out]; rfl
              rw [hT] at HE
              clear w1b w2b hT
              refine wpAnyH_done (by kernel_rfl) ?_ _
              have HN := hid (show (acc4 = acc1 ++ ptsBy l (i + 1) ∧ acc4.length ≤ 24 + 20 * (i + 1)) ∧ wq.ownsRow w.heap.size 5 1 (.slice D6 acc4.length g6) acc4.length (bsV acc4) ∧ Blk wq w.heap.size 24 (aM k nm (en : Nat) (fn : Nat) sc (.slice (some ad) n c)) ∧ Below w.heap.size w wq by
                have e4 : acc4 = acc ++ ptBy l i := by rw [Hacc4.out, Hacc3.out, HE.out, List.append_assoc]
                refine ⟨⟨by rw [e4, HP.out.2.2, hacc.out.1, List.append_assoc], by rw [e4, List.length_append]; have := hacc.out.2; have := HP.out.2.1; omega⟩, hown, kt.1, hb⟩)
              clear hown hb kt v3 v4 v5 ea hc5 p0 p2 HO
              go_wp2_with fail
              go_roundw
              case rel => exact ⟨i + 1, acc4, D6, g6, by omega, by go_num, rfl, hid HN.out.1, hid HN.out.2⟩
              case measure => simp [intOf]; omega
            · obtain ⟨j, hj⟩ : ∃ j, i = j + 1 := ⟨i - 1, by omega⟩
              obtain ⟨T0, V0, hTV0⟩ : ∃ T V, l.getD j (0, 0) = (T, V) := ⟨_, _, rfl⟩
              have hpt0 := all_pt HL.out.2.2.2 (i := j) (by have := HL.out.1; omega)
              rw [hTV0] at hpt0
              have HB0 := hid (pt_bounds hpt0)
              have HE := hid (show ptBy l i = vb (fold64 (T - T0)) ++ vb (fold64 (V - V0)) by unfold ptBy; rw [if_neg hi0, HP.out.1, show i - 1 = j by omega, hTV0])
              have z1 : ((i : Int) == 0) = false := by simp [hi0]
              have HJ := hid (And.intro hj hTV0)
              have z2 : IntKind.i64.wrap ((i : Int) - 1) = (j : Int) := by rw [IntKind.wrap_i64]; omega
              have z3 : (j : Int) < (n : Int) := by omega
              have z5 : IntKind.i64.wrap (T - T0) = T - T0 := by have := HBD.out; have := HB0.out; rw [IntKind.wrap_i64]; omega
              have z6 : IntKind.i64.wrap (V - V0) = V - V0 := by have := HBD.out; have := HB0.out; rw [IntKind.wrap_i64]; omega
              clear hi0 hj hTV0 hpt0
              go_wp2_with fail
              refine wp_region_held_drew (S := (fun W => Blk W w.heap.size 24 (aM k nm (en : Nat) (fn : Nat) sc (.slice (some ad) n c)) ∧ Blk W wr.heap.size 51 #[.int .i64 T, .int .i64 V] ∧ Below w.heap.size w W)) (by kernel_rfl) ⟨HO.out.2.1.drew, HO.out.2.2.1.drew, below_dn HO.out.2.2.2 1⟩ (fun hHeld => ?_)
              have hown := HO.out.1.drew
              have hb := below_dn HO.out.2.2.2 1
              have v3 := hacc.out.2
              have v5 := HL.out.2.1
              have v4 := HBD.out
              refine wpAnyH_take (i := 0) (v := ?_) rfl (by kernel_rfl) (by kernel_rfl) (by kernel_rfl) (fun _ _ _ h => h) (Or.inl ⟨by rfl, ?_⟩) (by assumption) ?_
              rotate_left
              · intro W hW
                go_simp
                try rfl
              simp only [List.getElem_toArray, List.getElem_cons_zero, Act.put, List.setIfInBounds_toArray, List.set_cons_zero, List.set_cons_succ]
              refine wpAnyH_take (i := 1) (v := ?_) rfl (by kernel_rfl) (by kernel_rfl) (by kernel_rfl) (fun _ _ _ h => h) (Or.inl ⟨by rfl, ?_⟩) (by assumption) ?_
              rotate_left
              · intro W hW
                go_simp
                try rfl
              simp only [List.getElem_toArray, List.getElem_cons_succ, List.getElem_cons_zero, Act.put, List.setIfInBounds_toArray, List.set_cons_zero, List.set_cons_succ]
              refine wpAnyH_take (i := 2) (v := ?_) rfl (by kernel_rfl) (by kernel_rfl) (by kernel_rfl) (fun _ _ _ h => h) (Or.inl ⟨by rfl, ?_⟩) (by assumption) ?_
              rotate_left
              · intro W hW
                obtain ⟨x0, x1, x2, x3, x4, x5⟩ := hW.1.sixc
                obtain ⟨y0, y1, y2, y3, y4⟩ := hW.2.1.two
                go_simp
                try rfl
              simp only [List.getElem_toArray, List.getElem_cons_succ, List.getElem_cons_zero, Act.put, List.setIfInBounds_toArray, List.set_cons_zero, List.set_cons_succ]
              refine wpAnyH_take (i := 3) (v := ?_) rfl (by kernel_rfl) (by kernel_rfl) (by kernel_rfl) (fun _ _ _ h => h) (Or.inl ⟨by rfl, ?_⟩) (by assumption) ?_
              rotate_left
              · intro W hW
                go_simp
                try rfl
              simp only [List.getElem_toArray, List.getElem_cons_succ, List.getElem_cons_zero, Act.put, List.setIfInBounds_toArray, List.set_cons_zero, List.set_cons_succ]
              refine wpAnyH_take (i := 4) (v := ?_) rfl (by kernel_rfl) (by kernel_rfl) (by kernel_rfl) (fun _ _ _ h => h) (Or.inl ⟨by rfl, ?_⟩) (by assumption) ?_
              rotate_left
              · intro W hW
                obtain ⟨x0, x1, x2, x3, x4, x5⟩ := hW.1.sixc
                obtain ⟨y0, y1, y2, y3, y4⟩ := hW.2.1.two
                go_simp
                try rfl
              simp only [List.getElem_toArray, List.getElem_cons_succ, List.getElem_cons_zero, Act.put, List.setIfInBounds_toArray, List.set_cons_zero, List.set_cons_succ]
              refine wpAnyH_take (i := 5) (v := ?_) rfl (by kernel_rfl) (by kernel_rfl) (by kernel_rfl) (fun _ _ _ h => h) (Or.inl ⟨by rfl, ?_⟩) (by assumption) ?_
              rotate_left
              · intro W hW
                go_simp
                try rfl
              simp only [List.getElem_toArray, List.getElem_cons_succ, List.getElem_cons_zero, Act.put, List.setIfInBounds_toArray, List.set_cons_zero, List.set_cons_succ]
              refine wpAnyH_take (i := 6) (v := ?_) rfl (by kernel_rfl) (by kernel_rfl) (by kernel_rfl) (fun _ _ _ h => h) (Or.inl ⟨by rfl, ?_⟩) (by assumption) ?_
              rotate_left
              · intro W hW
                go_simp
                try rfl
              simp only [List.getElem_toArray, List.getElem_cons_succ, List.getElem_cons_zero, Act.put, List.setIfInBounds_toArray, List.set_cons_zero, List.set_cons_succ]
              refine wpAnyH_take (i := 7) (v := ?_) rfl (by kernel_rfl) (by kernel_rfl) (by kernel_rfl) (fun _ _ _ h => h) (Or.inl ⟨by rfl, ?_⟩) (by assumption) ?_
              rotate_left
              · intro W hW
                go_simp
                try rfl
              simp only [List.getElem_toArray, List.getElem_cons_succ, List.getElem_cons_zero, Act.put, List.setIfInBounds_toArray, List.set_cons_zero, List.set_cons_succ]
              refine wpAnyH_take (i := 8) (v := ?_) rfl (by kernel_rfl) (by kernel_rfl) (by kernel_rfl) (fun _ _ _ h => h) (Or.inl ⟨by rfl, ?_⟩) (by assumption) ?_
              rotate_left
              · intro W hW
                go_simp
                try rfl
              simp only [List.getElem_toArray, List.getElem_cons_succ, List.getElem_cons_zero, Act.put, List.setIfInBounds_toArray, List.set_cons_zero, List.set_cons_succ]
              refine wpAnyH_take (i := 9) (v := ?_) rfl (by kernel_rfl) (by kernel_rfl) (by kernel_rfl) (fun _ _ _ h => h) (Or.inl ⟨by rfl, ?_⟩) (by assumption) ?_
              rotate_left
              · intro W hW
                obtain ⟨q0, q1, q2, q3⟩ := pts_at (HZ.out.below hW.2.2) (show j < n by omega)
                cases q1
                rw [HJ.out.2] at q2 q3
                have q4 : W.cell? ⟨(ad.add (j * 2)).block, (ad.add (j * 2)).off + 1, none⟩ = _ := q3
                clear q3
                go_simp
                try rfl
              simp only [List.getElem_toArray, List.getElem_cons_succ, List.getElem_cons_zero, Act.put, List.setIfInBounds_toArray, List.set_cons_zero, List.set_cons_succ]
              refine wpAnyH_take (i := 10) (v := ?_) rfl (by kernel_rfl) (by kernel_rfl) (by kernel_rfl) (fun _ _ _ h => h) (Or.inl ⟨by rfl, ?_⟩) (by assumption) ?_
              rotate_left
              · intro W hW
                go_simp
                try rfl
              simp only [List.getElem_toArray, List.getElem_cons_succ, List.getElem_cons_zero, Act.put, List.setIfInBounds_toArray, List.set_cons_zero, List.set_cons_succ]
              refine wpAnyH_take (i := 13) (v := ?_) rfl (by kernel_rfl) (by kernel_rfl) (by kernel_rfl) (fun _ _ _ h => h) (Or.inl ⟨by rfl, ?_⟩) (by assumption) ?_
              rotate_left
              · intro W hW
                go_simp
                try rfl
              simp only [List.getElem_toArray, List.getElem_cons_succ, List.getElem_cons_zero, Act.put, List.setIfInBounds_toArray, List.set_cons_zero, List.set_cons_succ]
              refine wpAnyH_take (i := 14) (v := ?_) rfl (by kernel_rfl) (by kernel_rfl) (by kernel_rfl) (fun _ _ _ h => h) (Or.inl ⟨by rfl, ?_⟩) (by assumption) ?_
              rotate_left
              · intro W hW
                obtain ⟨x0, x1, x2, x3, x4, x5⟩ := hW.1.sixc
                obtain ⟨y0, y1, y2, y3, y4⟩ := hW.2.1.two
                go_simp
                try rfl
              simp only [List.getElem_toArray, List.getElem_cons_succ, List.getElem_cons_zero, Act.put, List.setIfInBounds_toArray, List.set_cons_zero, List.set_cons_succ]
              refine wpAnyH_take (i := 15) (v := ?_) rfl (by kernel_rfl) (by kernel_rfl) (by kernel_rfl) (fun _ _ _ h => h) (Or.inl ⟨by rfl, ?_⟩) (by assumption) ?_
              rotate_left
              · intro W hW
                go_simp
                try rfl
              simp only [List.getElem_toArray, List.getElem_cons_succ, List.getElem_cons_zero, Act.put, List.setIfInBounds_toArray, List.set_cons_zero, List.set_cons_succ]
              refine wpAnyH_take (i := 16) (v := ?_) rfl (by kernel_rfl) (by kernel_rfl) (by kernel_rfl) (fun _ _ _ h => h) (Or.inl ⟨by rfl, ?_⟩) (by assumption) ?_
              rotate_left
              · intro W hW
                obtain ⟨x0, x1, x2, x3, x4, x5⟩ := hW.1.sixc
                obtain ⟨y0, y1, y2, y3, y4⟩ := hW.2.1.two
                go_simp
                try rfl
              simp only [List.getElem_toArray, List.getElem_cons_succ, List.getElem_cons_zero, Act.put, List.setIfInBounds_toArray, List.set_cons_zero, List.set_cons_succ]
              refine wpAnyH_take (i := 17) (v := ?_) rfl (by kernel_rfl) (by kernel_rfl) (by kernel_rfl) (fun _ _ _ h => h) (Or.inl ⟨by rfl, ?_⟩) (by assumption) ?_
              rotate_left
              · intro W hW
                go_simp
                try rfl
              simp only [List.getElem_toArray, List.getElem_cons_succ, List.getElem_cons_zero, Act.put, List.setIfInBounds_toArray, List.set_cons_zero, List.set_cons_succ]
              refine wpAnyH_take (i := 18) (v := ?_) rfl (by kernel_rfl) (by kernel_rfl) (by kernel_rfl) (fun _ _ _ h => h) (Or.inl ⟨by rfl, ?_⟩) (by assumption) ?_
              rotate_left
              · intro W hW
                go_simp
                try rfl
              simp only [List.getElem_toArray, List.getElem_cons_succ, List.getElem_cons_zero, Act.put, List.setIfInBounds_toArray, List.set_cons_zero, List.set_cons_succ]
              refine wpAnyH_take (i := 19) (v := ?_) rfl (by kernel_rfl) (by kernel_rfl) (by kernel_rfl) (fun _ _ _ h => h) (Or.inl ⟨by rfl, ?_⟩) (by assumption) ?_
              rotate_left
              · intro W hW
                go_simp
                try rfl
              simp only [List.getElem_toArray, List.getElem_cons_succ, List.getElem_cons_zero, Act.put, List.setIfInBounds_toArray, List.set_cons_zero, List.set_cons_succ]
              refine wpAnyH_take (i := 20) (v := ?_) rfl (by kernel_rfl) (by kernel_rfl) (by kernel_rfl) (fun _ _ _ h => h) (Or.inl ⟨by rfl, ?_⟩) (by assumption) ?_
              rotate_left
              · intro W hW
                go_simp
                try rfl
              simp only [List.getElem_toArray, List.getElem_cons_succ, List.getElem_cons_zero, Act.put, List.setIfInBounds_toArray, List.set_cons_zero, List.set_cons_succ]
              refine wpAnyH_take (i := 21) (v := ?_) rfl (by kernel_rfl) (by kernel_rfl) (by kernel_rfl) (fun _ _ _ h => h) (Or.inl ⟨by rfl, ?_⟩) (by assumption) ?_
              rotate_left
              · intro W hW
                obtain ⟨q0, q1, q2, q3⟩ := pts_at (HZ.out.below hW.2.2) (show j < n by omega)
                cases q1
                rw [HJ.out.2] at q2 q3
                have q4 : W.cell? ⟨(ad.add (j * 2)).block, (ad.add (j * 2)).off + 1, none⟩ = _ := q3
                clear q3
                go_simp
                try rfl
              simp only [List.getElem_toArray, List.getElem_cons_succ, List.getElem_cons_zero, Act.put, List.setIfInBounds_toArray, List.set_cons_zero, List.set_cons_succ]
              refine wpAnyH_take (i := 22) (v := ?_) rfl (by kernel_rfl) (by kernel_rfl) (by kernel_rfl) (fun _ _ _ h => h) (Or.inl ⟨by rfl, ?_⟩) (by assumption) ?_
              rotate_left
              · intro W hW
                go_simp
                try rfl
              simp only [List.getElem_toArray, List.getElem_cons_succ, List.getElem_cons_zero, Act.put, List.setIfInBounds_toArray, List.set_cons_zero, List.set_cons_succ]
              have v6 := HB0.out
              have w1b := vb_len10 (fold64_lt (n := T - T0) (by omega) (by omega))
              have w2b := vb_len10 (fold64_lt (n := V - V0) (by omega) (by omega))
              refine wpAnyH_ready (rs := [11]) (by kernel_rfl) (by simp) ?_
              refine AllReadyH.cons rfl (fun K hK => ?_) AllReadyH.nil
              go_simp
              refine (signed_c (T - T0) (by omega) (by omega) _).mono ?_
              rintro e w6 ⟨D3, g3, rfl, hown1, hb1⟩
              have kt := And.intro (hHeld.1.under hb1) (And.intro (hHeld.2.1.under hb1) (hHeld.2.2.trans (hb1.mono hHeld.2.2.size)))
              replace hown := own_below hown hb1
              replace hb := hb.trans (hb1.mono hb.size)
              have hr1 := Reads.of_own hown1
              clear hHeld hb1 hown1
              refine hK.out _ _ kt (fun hHeld => ?_)
              clear hK K
              try simp only [List.getElem_toArray, List.getElem_cons_succ, List.getElem_cons_zero, Act.put, List.setIfInBounds_toArray, List.set_cons_zero, List.set_cons_succ]
              refine wpAnyH_ready (rs := [12]) (by kernel_rfl) (by simp) ?_
              refine AllReadyH.cons rfl (fun K hK => ?_) AllReadyH.nil
              try rw [if_pos (by rfl)]
              refine wp_append_any _ (.tmp 69) (.tmp 80) 32 rfl w.heap.size 5 i0 (.int .u8 0) 1 1 Try.underlying32 HI.out.1 HI.out.2.1 HI.out.2.2.1 HI.out.2.2.2 rfl (by decide) _ acc.length (bsV acc) rfl hown D3 (vb (fold64 (T - T0))).length g3 (bsV (vb (fold64 (T - T0)))) rfl hr1 (bsV_one _) (by simp only [maxLen]; omega) (by omega) hb.size ?_
              intro v' w7 hown' hg' hv'
              obtain ⟨D4, g4, rfl, _, _⟩ := own_form hown'
              replace kt := And.intro (kt.1.grown hg' (own_not hown kt.1 (by decide))) (And.intro (kt.2.1.grown hg' (own_not hown kt.2.1 (by decide))) (kt.2.2.grown hg' kt.2.2.size (fun k hk => (hown.lt k hk).1)))
              replace hb := hb.grown hg' hb.size (fun k hk => (hown.lt k hk).1)
              have ea : acc.length + (vb (fold64 (T - T0))).length = (acc ++ vb (fold64 (T - T0))).length := List.length_append.symm
              rw [← bsV_app, ea] at hown'
              rw [ea]
              obtain ⟨acc3, hacc3⟩ : ∃ a, a = acc ++ vb (fold64 (T - T0)) := ⟨_, rfl⟩
              rw [← hacc3] at hown' ea ⊢
              have Hacc3 := hid hacc3
              replace hown := hown'
              clear hg' hv' hown' hr1 hHeld hacc3
              refine hK.out _ _ kt (fun hHeld => ?_)
              clear hK K
              try simp only [List.getElem_toArray, List.getElem_cons_succ, List.getElem_cons_zero, Act.put, List.setIfInBounds_toArray, List.set_cons_zero, List.set_cons_succ]
              refine wpAnyH_ready (rs := [23]) (by kernel_rfl) (by simp) ?_
              refine AllReadyH.cons rfl (fun K hK => ?_) AllReadyH.nil
              go_simp
              refine (signed_c (V - V0) (by omega) (by omega) _).mono ?_
              rintro e w8 ⟨D5, g5, rfl, hown1, hb1⟩
              have kt := And.intro (hHeld.1.under hb1) (And.intro (hHeld.2.1.under hb1) (hHeld.2.2.trans (hb1.mono hHeld.2.2.size)))
              replace hown := own_below hown hb1
              replace hb := hb.trans (hb1.mono hb.size)
              have hr1 := Reads.of_own hown1
              clear hHeld hb1 hown1
              refine hK.out _ _ kt (fun hHeld => ?_)
              clear hK K
              try simp only [List.getElem_toArray, List.getElem_cons_succ, List.getElem_cons_zero, Act.put, List.setIfInBounds_toArray, List.set_cons_zero, List.set_cons_succ]
              refine wpAnyH_ready (rs := [24]) (by kernel_rfl) (by simp) ?_
              refine AllReadyH.cons rfl (fun K hK => ?_) AllReadyH.nil
              try rw [if_pos (by rfl)]
              refine wp_append_any _ (.tmp 81) (.tmp 92) 32 rfl w.heap.size 5 i0 (.int .u8 0) 1 1 Try.underlying32 HI.out.1 HI.out.2.1 HI.out.2.2.1 HI.out.2.2.2 rfl (by decide) _ acc3.length (bsV acc3) rfl hown D5 (vb (fold64 (V - V0))).length g5 (bsV (vb (fold64 (V - V0)))) rfl hr1 (bsV_one _) (by simp only [maxLen]; omega) (by omega) hb.size ?_
              intro v' wq hown' hg' hv'
              obtain ⟨D6, g6, rfl, _, _⟩ := own_form hown'
              replace kt := And.intro (kt.1.grown hg' (own_not hown kt.1 (by decide))) (And.intro (kt.2.1.grown hg' (own_not hown kt.2.1 (by decide))) (kt.2.2.grown hg' kt.2.2.size (fun k hk => (hown.lt k hk).1)))
              replace hb := hb.grown hg' hb.size (fun k hk => (hown.lt k hk).1)
              have ea : acc3.length + (vb (fold64 (V - V0))).length = (acc3 ++ vb (fold64 (V - V0))).length := List.length_append.symm
              rw [← bsV_app, ea] at hown'
              rw [ea]
              obtain ⟨acc4, hacc4⟩ : ∃ a, a = acc3 ++ vb (fold64 (V - V0)) := ⟨_, rfl⟩
              rw [← hacc4] at hown' ea ⊢
              have Hacc4 := hid hacc4
              replace hown := hown'
              clear hg' hv' hown' hr1 hHeld hacc4
              refine hK.out _ _ kt (fun hHeld => ?_)
              clear hK K
              try simp only [List.getElem_toArray, List.getElem_cons_succ, List.getElem_cons_zero, Act.put, List.setIfInBounds_toArray, List.set_cons_zero, List.set_cons_succ]
              refine wpAnyH_take (i := 25) (v := ?_) rfl (by kernel_rfl) (by kernel_rfl) (by kernel_rfl) (fun _ _ _ h => h) (Or.inl ⟨by rfl, ?_⟩) (by assumption) ?_
              rotate_left
              · intro W hW
                go_simp
                try rfl
              simp only [List.getElem_toArray, List.getElem_cons_succ, List.getElem_cons_zero, Act.put, List.setIfInBounds_toArray, List.set_cons_zero, List.set_cons_succ]
              clear w1b w2b v6 z2 z3 z5 z6
              refine wpAnyH_done (by kernel_rfl) ?_ _
              have HN := hid (show (acc4 = acc1 ++ ptsBy l (i + 1) ∧ acc4.length ≤ 24 + 20 * (i + 1)) ∧ wq.ownsRow w.heap.size 5 1 (.slice D6 acc4.length g6) acc4.length (bsV acc4) ∧ Blk wq w.heap.size 24 (aM k nm (en : Nat) (fn : Nat) sc (.slice (some ad) n c)) ∧ Below w.heap.size w wq by
                have e4 : acc4 = acc ++ ptBy l i := by rw [Hacc4.out, Hacc3.out, HE.out, List.append_assoc]
                refine ⟨⟨by rw [e4, HP.out.2.2, hacc.out.1, List.append_assoc], by rw [e4, List.length_append]; have := hacc.out.2; have := HP.out.2.1; omega⟩, hown, kt.1, hb⟩)
              clear hown hb kt v3 v4 v5 ea hc5 p0 p2 HO
              go_wp2_with fail
              go_roundw
              case rel => exact ⟨i + 1, acc4, D6, g6, by omega, by go_num, rfl, hid HN.out.1, hid HN.out.2⟩
              case measure => simp [intOf]; omega
          · obtain rfl : i = n := by omega
            obtain ⟨hown, kt, hb⟩ := HY.out
            have HF := hid (show RetB (mutB ⟨k, nm, (en : Nat), (fn : Nat), sc, l⟩) w (.returned (.slice D acc.length g)) wr by
              rw [HACC1.out.1, ← hacc.out.1]
              exact ⟨D, g, rfl, hown, hb⟩)
            clear hown kt hb hlt hi hacc HY HX
            go_wp2_with fail
            go_ret
            exact HF.out
      · have t3 : (k == 3) = false := by simp [h3]
        have HF := hid (show RetB (mutB ⟨k, nm, (en : Nat), (fn : Nat), sc, l⟩) w (.returned (.slice D0 acc0.length g0)) w2 by
          rw [HM2.out, if_pos (by have := HH.out; have := HK4.out; omega), List.append_nil]
          exact ⟨D0, g0, rfl, HOW.out, HB.out⟩)
        clear h3 h4 HM2 HK4
        go_wp2_with fail
        go_ret
        exact HF.out
end Go.Proofs.Ytedojdbihajnbaa
namespace Go.Proofs.Ytedojdbihajnbaa
open Go.RowKit Go.Shelf VB
open Go.Lib (hid)
set_option linter.unusedVariables false
set_option linter.unusedSimpArgs false
set_option maxRecDepth 100000 in
set_option maxHeartbeats 2000000 in
theorem RowBytes_d {e1 : TypeId} (A : Option Addr) (n c : Nat) (ms : List MuA) (w : World) (hz : Reads w e1 6 A n (ms.flatMap cellsM)) (hp : PtsIn w ms) (hr : ∀ j, j < ms.length → rightB (ms.getD j zMuA).1 = true) (hn : n ≤ 10000) :
    Calls Try.prog 22 #[.slice A n c] w (RetB (rowMB ms) w) := by
  have hl : ms.length = n := by have := hz.1; rw [cellsM_len] at this; omega
  obtain ⟨i0, hi0, hz0, hz1, hz2⟩ := info_parts3 byte_info
  have HI := hid (And.intro hi0 (And.intro hz0 (And.intro hz1 hz2)))
  have HZ := hid hz
  have HP := hid hp
  have HR := hid hr
  have HL := hid hl
  have u5 : IntKind.u64.wrap (n : Int) = (n : Int) := by rw [IntKind.wrap_u64]; omega
  clear hz hp hr hl hi0 hz0 hz1 hz2
  go_enter Try.func22, Try.ntmps22
  go_wp2_with fail
  refine (bytes_ref n (by omega) _).mono ?_
  rintro e w2 ⟨D, g, rfl, hown, hb⟩
  obtain ⟨acc0, ha0⟩ : ∃ a, a = vb n := ⟨_, rfl⟩
  rw [← ha0] at hown ⊢
  have HX := hid (And.intro hown hb)
  have HA := hid (show acc0 = vb n ∧ acc0.length ≤ 10 by rw [ha0]; exact ⟨rfl, vb_len10 (by omega)⟩)
  clear hown hb ha0
  go_wp2_with fail
  go_loopw [3, 12] (fun u3 u12 wr => ∃ (i : Nat) (acc : List Nat) (D : Option Addr) (g : Nat), i ≤ n ∧ u12 = .int .i64 (i : Nat) ∧ u3 = .slice D acc.length g ∧ Hid (acc = acc0 ++ ((ms.take i).flatMap fun q => mutB q.1) ∧ acc.length ≤ 10 + 400 * i) ∧ Hid (wr.ownsRow w.heap.size 5 1 (.slice D acc.length g) acc.length (bsV acc) ∧ Below w.heap.size w wr)) (fun _ u12 _ => n - (intOf u12).toNat)
  case atStart => exact ⟨0, acc0, D, g, Nat.zero_le _, rfl, rfl, hid ⟨by simp, by have := HA.out.2; omega⟩, HX⟩
  case round =>
    obtain ⟨i, acc, D, g, hi, rfl, rfl, hacc, HY⟩ := hrel
    obtain ⟨hown, hb⟩ := HY.out
    by_cases hlt : i < n
    · obtain ⟨q, hqe⟩ : ∃ q, q = ms.getD i zMuA := ⟨_, rfl⟩
      obtain ⟨ep, hp1, hp2⟩ := HP.out i (by have := HL.out; omega)
      have hrr := HR.out i (by have := HL.out; omega)
      rw [← hqe] at hp1 hp2 hrr
      obtain ⟨m, B, cB⟩ := q
      simp only at hrr
      obtain ⟨ad, rfl, c0, c1, c2, c3, c4, c5⟩ := mu_at (HZ.out.below hb) hlt (k := m.kind) (nm := m.name) (ep := m.eps) (fl := m.floor) (sc := m.scale) (pv := .slice B m.pts.length cB) (by rw [← hqe]; rfl)
      have hltI : (i : Int) < (n : Int) := by omega
      have HO := hid (And.intro (hown.alloc (.cells (aM m.kind m.name m.eps m.floor m.scale (.slice B m.pts.length cB)) 24)) (hb.alloc hb.size (.cells (aM m.kind m.name m.eps m.floor m.scale (.slice B m.pts.length cB)) 24)))
      have HRR := hid (right_of hrr)
      have HPP := hid hp1
      have HST := hid (show (ms.take (i + 1)).flatMap (fun q => mutB q.1) = (ms.take i).flatMap (fun q => mutB q.1) ++ mutB m by
        have hi' : i < ms.length := by have := HL.out; omega
        rw [List.take_succ_eq_append_getElem hi', List.flatMap_append]
        have : ms[i] = (m, B, cB) := by have h := hqe; rw [List.getD_eq_getElem?_getD, List.getElem?_eq_getElem hi'] at h; exact h.symm
        rw [this]; simp)
      clear hown hb HY hqe hp1 hp2 hrr hi
      go_wp2_with fail
      refine (Bytes_d m B cB _ (HPP.out.below HO.out.2) HRR.out).mono ?_
      rintro e w4 ⟨D1, g1, rfl, hown1, hb1⟩
      have hown := own_below HO.out.1 hb1
      have hb := HO.out.2.trans (hb1.mono HO.out.2.size)
      have hr1 := Reads.of_own hown1
      have v1 := mutB_len HRR.out
      have v3 := hacc.out.2
      clear hb1 hown1 c0 c1 c2 c3 c4 c5
      go_wp2_with (at_builtin; refine wpList_append_any _ rfl (.tmp 16) (.tmp 18) 32 rfl w.heap.size 5 i0 (.int .u8 0) 1 1 Try.underlying32 HI.out.1 HI.out.2.1 HI.out.2.2.1 HI.out.2.2.2 rfl (by decide) _ acc.length (bsV acc) rfl hown D1 (mutB m).length g1 (bsV (mutB m)) rfl hr1 (bsV_one _) (by simp only [maxLen]; omega) (by omega) hb.size ?_; intro v' w5 hown' hg' hv')
      obtain ⟨D2, g2, rfl, _, _⟩ := own_form hown'
      replace hb := hb.grown hg' hb.size (fun k hk => (hown.lt k hk).1)
      have ea : acc.length + (mutB m).length = (acc ++ mutB m).length := List.length_append.symm
      rw [← bsV_app, ea] at hown'
      rw [ea]
      have HNX := hid (show ((acc ++ mutB m) = acc0 ++ ((ms.take (i + 1)).flatMap fun q => mutB q.1) ∧ (acc ++ mutB m).length ≤ 10 + 400 * (i + 1)) ∧ w5.ownsRow w.heap.size 5 1 (.slice D2 (acc ++ mutB m).length g2) (acc ++ mutB m).length (bsV (acc ++ mutB m)) ∧ Below w.heap.size w w5 from
        ⟨⟨by rw [HST.out, hacc.out.1, List.append_assoc], by omega⟩, hown', hb⟩)
      obtain ⟨acc1, hacc1⟩ : ∃ a, a = acc ++ mutB m := ⟨_, rfl⟩
      rw [← hacc1] at HNX ⊢
      clear hown hown' hb hr1 hg' hv' v1 v3 ea hacc1
      go_wp2_with fail
      go_roundw
      case rel => exact ⟨i + 1, acc1, D2, g2, by omega, by go_num, rfl, hid HNX.out.1, hid HNX.out.2⟩
      case measure => simp [intOf]; omega
    · obtain rfl : i = n := by omega
      have HF := hid (show RetB (rowMB ms) w (.returned (.slice D acc.length g)) wr by
        have e : acc = rowMB ms := by rw [hacc.out.1]; unfold rowMB; rw [HL.out, HA.out.1, List.take_of_length_le (by rw [HL.out]; exact Nat.le_refl _)]
        rw [e] at hown ⊢
        exact ⟨D, g, rfl, hown, hb⟩)
      clear hown hb hlt hi hacc HY HX
      go_wp2_with fail
      go_ret
      exact HF.out
end Go.Proofs.Ytedojdbihajnbaa
