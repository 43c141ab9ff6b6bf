/- The document's Row of a manifest (printed by gen_refp.py). The document's Right of a manifest (printed by gen_refq.py). -/
import Derived.Test.YtgdnpmjmkcccoaaZRefO
namespace Go.Proofs.Ytgdnpmjmkcccoaa
open Go.RowKit Go.Shelf VB
open Go.Lib (hid)
set_option linter.unusedVariables false
set_option linter.unusedSimpArgs false
def rowTl (x : Ro) : Prop := (∀ e ∈ x.en, x.fl ≤ e.ls) ∧ ptsOk (lstE x.en) x.fl x.op ∧ (lstP x.op (lstE x.en) < 0 ∨ x.la = lstP x.op (lstE x.en))
def rowR (x : Ro) : Prop := nameB x.nm = true ∧ betB x.ep 0 1099511627776 = true ∧ -40 ≤ x.sc ∧ x.sc ≤ 40 ∧ timeB x.fl = true ∧ -1 ≤ x.la ∧ x.la ≤ 281474976710656 ∧ ixR x.en ∧ x.op.length ≤ 31 ∧ rowTl x
theorem lstE_take {l : List En} {k : Nat} {x : En} (h : l[k]? = some x) : lstE (l.take (k + 1)) = x.ls := by
  rw [List.take_succ_eq_append_getElem (List.getElem?_eq_some_iff.1 h).1, (List.getElem?_eq_some_iff.1 h).2, lstE_snoc]
theorem behP_end {l : List (Int × Int)} {b : Int} : behP l b l.length = lstP l b := by
  unfold behP lstP
  by_cases h : l.length = 0
  · rw [if_pos h, List.eq_nil_of_length_eq_zero h]; rfl
  · rw [if_neg h, List.getLast?_eq_getElem?, List.getD_eq_getElem?_getD, List.getElem?_eq_getElem (by omega)]; rfl
theorem timeB_in {t : Int} (h : timeB t = true) : 0 ≤ t ∧ t ≤ 281474976710656 := by unfold timeB at h; simpa using h
set_option maxRecDepth 100000 in
set_option maxHeartbeats 8000000 in
theorem Row22_d (x : RoA) (w : World) (h : RoFr w x) :
    Calls Try.prog 39 #[vR x] w (RetIff (rowR x.d) w) := by
  have hen := h.en
  have hef : ∀ e ∈ x.en, EnFr w e := fun e he => ⟨⟨_, h.ens e he⟩, h.pgc e he, by have := h.pgl e he; omega⟩
  have hop := h.op
  have hel := h.henl
  have hol := h.hopl
  have hnm := h.hnm
  obtain ⟨nm, ep, fl, la, sc, en, ea, ec, op, oa, oc⟩ := x
  simp only at hen hef hop hel hol hnm
  obtain ⟨n, hn⟩ : ∃ n, n = en.length := ⟨_, rfl⟩
  obtain ⟨m, hm⟩ : ∃ m, m = op.length := ⟨_, rfl⟩
  show Calls _ _ #[.agg (aR nm ep fl la sc (.slice ea en.length ec) (.slice oa op.length oc))] _ _
  obtain ⟨es, hes⟩ : ∃ es, es = en.map Prod.fst := ⟨_, rfl⟩
  obtain ⟨R, hR⟩ : ∃ R : Prop, R = rowR (RoA.d ⟨nm, ep, fl, la, sc, en, ea, ec, op, oa, oc⟩) := ⟨_, rfl⟩
  rw [← hR]
  rw [← hn] at hen hel ⊢
  rw [← hm] at hop hol ⊢
  have HR := hid (show R ↔ nameB nm = true ∧ betB ep 0 1099511627776 = true ∧ -40 ≤ sc ∧ sc ≤ 40 ∧ timeB fl = true ∧ -1 ≤ la ∧ la ≤ 281474976710656 ∧ ixR es ∧ m ≤ 31 ∧ rowTl ⟨nm, ep, fl, la, sc, es, op⟩ by rw [hR, hes, hm]; exact Iff.rfl)
  obtain ⟨w1, hw1⟩ : ∃ w1, w1 = w.alloc (.cells (aR nm ep fl la sc (.slice ea n ec) (.slice oa m oc)) 42) := ⟨_, rfl⟩
  have hb1 : Below w.heap.size w w1 := by rw [hw1]; exact (Below.refl _ _).alloc (Nat.le_refl _) _
  have K := hid (show Blk w1 w.heap.size 42 (aR nm ep fl la sc (.slice ea n ec) (.slice oa m oc)) by rw [hw1]; exact Blk.new _ _ _)
  have HB := hid hb1
  have HNO := hid (fun (W : World) (hW : Below w.heap.size w W) (h : ¬ R) => RetIff.no (p := R) hW h)
  have HYES := hid (fun (W : World) (hW : Below w.heap.size w W) (h : R) => RetIff.yes (p := R) hW h)
  have HEN := hid hen
  have HOP := hid hop
  have HES := hid (And.intro hn (And.intro hm hes))
  have HRT := hid (fun W (hW : Below w.heap.size w W) => Right21_d ea n ec en W (hen.below hW) (fun e he => (hef e he).below hW) (by omega))
  rw [← hes] at HRT
  have HNAME := hid (fun W => Name_d nm W (by omega))
  obtain ⟨c0, c1, c2, c3, c4, c5, c6⟩ := K.out.seven
  clear h hen hop hef hn hm hes hR hb1 hnm
  rw [hw1] at c0 c1 c2 c3 c4 c5 c6
  go_enter Try.func39, Try.ntmps39
  go_wp2_with fail
  rw [← hw1]
  clear hw1 c0 c1 c2 c3 c4 c5 c6
  obtain ⟨c0, c1, c2, c3, c4, c5, c6⟩ := K.out.seven
  refine (HNAME.out _).mono ?_
  rintro e w2 ⟨rfl, rfl⟩
  cases b1 : nameB nm with
  | false =>
    have HBX := hid b1
    have HX := hid (HNO.out w1 HB.out (fun h => by have h1 := (HR.out.1 h).1; rw [HBX.out] at h1; cases h1))
    go_wp2_with fail
    go_ret
    exact HX.out
  | true =>
    have HB1 := hid b1
    clear b1
    go_wp2_with fail
    refine (Eps_d ep _).mono ?_
    rintro e w3 ⟨rfl, rfl⟩
    cases b2 : betB ep 0 1099511627776 with
    | false =>
      have HBX := hid b2
      have HX := hid (HNO.out w1 HB.out (fun h => by have h1 := (HR.out.1 h).2.1; rw [HBX.out] at h1; cases h1))
      go_wp2_with fail
      go_ret
      exact HX.out
    | true =>
      have HB2 := hid b2
      clear b2
      by_cases h3 : sc < -40
      · have HBX := hid h3
        have HX := hid (HNO.out w1 HB.out (fun h => by have h1 := (HR.out.1 h).2.2.1; have h2 := HBX.out; omega))
        go_wp2_with fail
        go_ret
        exact HX.out
      · by_cases h4 : 40 < sc
        · have HBX := hid h4
          have HX := hid (HNO.out w1 HB.out (fun h => by have h1 := (HR.out.1 h).2.2.2.1; have h2 := HBX.out; omega))
          go_wp2_with fail
          go_ret
          exact HX.out
        · have H34 := hid (And.intro h3 h4)
          go_wp2_with fail
          refine (Time_d fl _).mono ?_
          rintro e w4 ⟨rfl, rfl⟩
          cases b5 : timeB fl with
          | false =>
            have HBX := hid b5
            have HX := hid (HNO.out w1 HB.out (fun h => by have h1 := (HR.out.1 h).2.2.2.2.1; rw [HBX.out] at h1; cases h1))
            go_wp2_with fail
            go_ret
            exact HX.out
          | true =>
            have HB5 := hid b5
            clear b5 h3 h4
            by_cases h6 : la < -1
            · have HBX := hid h6
              have HX := hid (HNO.out w1 HB.out (fun h => by have h1 := (HR.out.1 h).2.2.2.2.2.1; have h2 := HBX.out; omega))
              go_wp2_with fail
              go_ret
              exact HX.out
            · by_cases h7 : 281474976710656 < la
              · have HBX := hid h7
                have HX := hid (HNO.out w1 HB.out (fun h => by have h1 := (HR.out.1 h).2.2.2.2.2.2.1; have h2 := HBX.out; omega))
                go_wp2_with fail
                go_ret
                exact HX.out
              · have H67 := hid (And.intro h6 h7)
                go_wp2_with fail
                refine (HRT.out _ HB.out).mono ?_
                rintro e w5 ⟨b8, rfl, hb8, hbw⟩
                have HB8 := hid hb8
                replace K := hid (K.out.under hbw)
                replace HB := hid (HB.out.trans (hbw.mono HB.out.size))
                clear hb8 hbw HNAME HRT c0 c1 c2 c3 c4 c5 c6 h6 h7
                obtain ⟨c0, c1, c2, c3, c4, c5, c6⟩ := K.out.seven
                cases b8 with
                | false =>
                  have HX := hid (HNO.out w5 HB.out (fun h => Bool.false_ne_true (HB8.out.2 (HR.out.1 h).2.2.2.2.2.2.2.1)))
                  go_wp2_with fail
                  go_ret
                  exact HX.out
                | true =>
                  by_cases h9 : (31 : Int) < (m : Int)
                  · have HX := hid (HNO.out w5 HB.out (fun h => by have h1 := (HR.out.1 h).2.2.2.2.2.2.2.2.1; omega))
                    go_wp2_with fail
                    go_ret
                    exact HX.out
                  · have hm31 : m ≤ 31 := by omega
                    have HT := hid (show R ↔ (∀ e ∈ es, fl ≤ e.ls) ∧ ptsOk (lstE es) fl op ∧ (lstP op (lstE es) < 0 ∨ la = lstP op (lstE es)) from
                      ⟨fun h => (HR.out.1 h).2.2.2.2.2.2.2.2.2, fun h => HR.out.2 ⟨HB1.out, HB2.out, by have := H34.out.1; omega, by have := H34.out.2; omega, HB5.out, by have := H67.out.1; omega, by have := H67.out.2; omega, HB8.out.1 rfl, hm31, h⟩⟩)
                    have HFL := hid (timeB_in HB5.out)
                    clear HB1 HB2 H34 HB5 H67 HB8 h9
                    go_wp2_with fail
                    go_loopw [3, 57] (fun u3 u57 wr => ∃ k : Nat, k ≤ n ∧ u57 = .int .i64 (k : Nat) ∧ u3 = .int .i64 (lstE (es.take k)) ∧ Hid (Below w5.heap.size w5 wr) ∧ Hid (R ↔ (∀ e ∈ es.drop k, fl ≤ e.ls) ∧ ptsOk (lstE es) fl op ∧ (lstP op (lstE es) < 0 ∨ la = lstP op (lstE es)))) (fun _ u57 _ => n - (intOf u57).toNat)
                    case atStart => exact ⟨0, Nat.zero_le _, rfl, rfl, hid (Below.refl _ _), HT⟩
                    case round =>
                      obtain ⟨k, hk, rfl, rfl, hbk, hrl⟩ := hrel
                      obtain ⟨wk, rfl⟩ : ∃ wk : World, wk = wr := ⟨_, rfl⟩
                      have c2' := below_cell hbk.out c2
                      have c6' := below_cell hbk.out c6
                      by_cases hlt : k < n
                      · obtain ⟨ad, x, rfl, hx, hxl, d0, d1, d2, d3, d4⟩ := en_at ((HEN.out.below HB.out).below hbk.out) hlt
                        have hxe : es[k]? = some x.1 := by rw [HES.out.2.2, List.getElem?_map, hx]; rfl
                        have hdp : es.drop k = x.1 :: es.drop (k + 1) := by rw [List.drop_eq_getElem_cons (List.getElem?_eq_some_iff.1 hxe).1, (List.getElem?_eq_some_iff.1 hxe).2]
                        have hls := lstE_take hxe
                        have hltI : (k : Int) < (n : Int) := by omega
                        have h0I : (0 : Int) ≤ (k : Int) := by omega
                        rw [hdp] at hrl
                        obtain ⟨⟨xf, xl, xc, xb, xp⟩, xA, xC⟩ := x
                        simp only at d0 d1 d2 d3 d4 hls hrl
                        have HLS := hid hls
                        have HRL := hid hrl.out
                        have HBN := hid (hbk.out.alloc hbk.out.size (.cells (aE xf xl xc (.slice xA xp.length xC) xb) 45))
                        have c2n : (wk.alloc (.cells (aE xf xl xc (.slice xA xp.length xC) xb) 45)).cell? ⟨w.heap.size, 2, none⟩ = some (.int .i64 fl) := below_cell HBN.out c2
                        clear hx hxl hxe hdp hls hrl hbk
                        by_cases hq : xl < fl
                        · have HX := hid (HNO.out _ (HB.out.trans (HBN.out.mono HB.out.size)) (fun h => by have := (HRL.out.1 h).1 _ List.mem_cons_self; simp only at this; omega))
                          go_wp2_with fail
                          go_ret
                          exact HX.out
                        · have HX := hid (show R ↔ (∀ e ∈ es.drop (k + 1), fl ≤ e.ls) ∧ ptsOk (lstE es) fl op ∧ (lstP op (lstE es) < 0 ∨ la = lstP op (lstE es)) from
                            ⟨fun h => ⟨fun e he => (HRL.out.1 h).1 e (List.mem_cons_of_mem _ he), (HRL.out.1 h).2⟩, fun h => HRL.out.2 ⟨fun e he => by
                              rcases List.mem_cons.1 he with rfl | he
                              · simp only; omega
                              · exact h.1 e he, h.2⟩⟩)
                          clear HRL
                          go_wp2_with fail
                          go_roundw
                          case rel => exact ⟨k + 1, by omega, by go_num, by rw [HLS.out], HBN, HX⟩
                          case measure => simp [intOf]; omega
                      · obtain rfl : k = n := by omega
                        have HP := hid (show R ↔ ptsOk (lstE es) fl op ∧ (lstP op (lstE es) < 0 ∨ la = lstP op (lstE es)) by
                          rw [hrl.out, show es.drop k = [] from List.drop_eq_nil_of_le (by rw [HES.out.2.2, List.length_map, ← HES.out.1]; exact Nat.le_refl _)]
                          exact ⟨fun h => h.2, fun h => ⟨(fun e he => by cases he), h⟩⟩)
                        have hle : lstE (es.take k) = lstE es := by rw [List.take_of_length_le (by rw [HES.out.2.2, List.length_map, ← HES.out.1]; exact Nat.le_refl _)]
                        rw [hle]
                        have HBK := hid hbk.out
                        clear hrl hlt hle hbk
                        generalize lstE es = b at *
                        go_wp2_with fail
                        go_loopw [3, 72] (fun u3 u72 wr => ∃ j : Nat, j ≤ m ∧ u72 = .int .i64 (j : Nat) ∧ u3 = .int .i64 (behP op b j) ∧ Hid (Below w5.heap.size w5 wr) ∧ Hid (R ↔ ptsOk (behP op b j) fl (op.drop j) ∧ (lstP op b < 0 ∨ la = lstP op b))) (fun _ u72 _ => m - (intOf u72).toNat)
                        case atStart => exact ⟨0, Nat.zero_le _, rfl, rfl, HBK, HP⟩
                        case round =>
                          obtain ⟨j, hj, rfl, rfl, hbj, hrl⟩ := hrel
                          obtain ⟨wj, rfl⟩ : ∃ wj : World, wj = wr := ⟨_, rfl⟩
                          have c3'' := below_cell hbj.out c3
                          clear c2' c6'
                          by_cases hjm : j < m
                          · obtain ⟨ap, rfl, p0, p1⟩ := pts_at ((HOP.out.below HB.out).below hbj.out) hjm
                            replace p1 : wj.cell? ⟨(ap.add (j * 2)).block, (ap.add (j * 2)).off + 1, none⟩ = _ := p1
                            have hdp : op.drop j = (op.getD j (0, 0)) :: op.drop (j + 1) := by
                              rw [List.drop_eq_getElem_cons (by rw [← HES.out.2.1]; exact hjm), List.getD_eq_getElem?_getD, List.getElem?_eq_getElem (by rw [← HES.out.2.1]; exact hjm)]; rfl
                            have hb1 : behP op b (j + 1) = (op.getD j (0, 0)).1 := by unfold behP; rw [if_neg (by omega), Nat.add_sub_cancel]
                            rw [hdp] at hrl
                            obtain ⟨bb, hbb⟩ : ∃ bb, bb = behP op b j := ⟨_, rfl⟩
                            rw [← hbb] at hrl ⊢
                            generalize op.getD j (0, 0) = q at *
                            obtain ⟨T, V⟩ := q
                            simp only at p0 p1 hb1
                            have HB1 := hid hb1
                            have HRL := hid (show R ↔ ((bb < T ∧ fl ≤ T ∧ T ≤ 281474976710656 ∧ -2305843009213693952 ≤ V ∧ V ≤ 2305843009213693952) ∧ ptsOk T fl (op.drop (j + 1))) ∧ (lstP op b < 0 ∨ la = lstP op b) from hrl.out)
                            have hba := hbj.out.alloc hbj.out.size (.cells #[.int .i64 T, .int .i64 V] 47)
                            have KP := hid (Blk.new wj 47 #[.int .i64 T, .int .i64 V])
                            have HPT := hid (Point_d T V (wj.alloc (.cells #[.int .i64 T, .int .i64 V] 47)))
                            have HBA := hid hba
                            have f0 : (wj.alloc (.cells #[.int .i64 T, .int .i64 V] 47)).cell? ⟨wj.heap.size, 0, none⟩ = some (.int .i64 T) := KP.out.cell 0
                            have f1 : (wj.alloc (.cells #[.int .i64 T, .int .i64 V] 47)).cell? ⟨wj.heap.size, 1, none⟩ = some (.int .i64 V) := KP.out.cell 1
                            have hjI : (j : Int) < (m : Int) := by omega
                            have hj0 : (0 : Int) ≤ (j : Int) := by omega
                            clear hdp hb1 hrl hbb hba hbj c3''
                            go_wp2_with fail
                            refine HPT.out.mono ?_
                            rintro e w6 ⟨bp, rfl, hbp, hbw⟩
                            have HBP := hid hbp
                            have HBW := hid (HBA.out.trans (hbw.mono HBA.out.size))
                            have f0' : w6.cell? ⟨wj.heap.size, 0, none⟩ = some (.int .i64 T) := (KP.out.under hbw).cell 0
                            have c2n : w6.cell? ⟨w.heap.size, 2, none⟩ = some (.int .i64 fl) := below_cell HBW.out c2
                            clear hbp hbw f0 f1 HPT KP p0 p1
                            cases bp with
                            | false =>
                              have HX := hid (HNO.out _ (HB.out.trans (HBW.out.mono HB.out.size)) (fun h => by
                                obtain ⟨⟨⟨h1, h2, h3, h4, h5⟩, _⟩, _⟩ := HRL.out.1 h
                                have := HFL.out.1
                                exact Bool.false_ne_true (HBP.out.2 ⟨⟨by omega, h3⟩, h4, h5⟩)))
                              go_wp2_with fail
                              go_ret
                              exact HX.out
                            | true =>
                              have hpv := HBP.out.1 rfl
                              by_cases q1 : T < fl
                              · have HX := hid (HNO.out _ (HB.out.trans (HBW.out.mono HB.out.size)) (fun h => by
                                  obtain ⟨⟨⟨h1, h2, _⟩, _⟩, _⟩ := HRL.out.1 h
                                  omega))
                                clear hpv
                                go_wp2_with fail
                                go_ret
                                exact HX.out
                              · by_cases q2 : T ≤ bb
                                · have HX := hid (HNO.out _ (HB.out.trans (HBW.out.mono HB.out.size)) (fun h => by
                                    obtain ⟨⟨⟨h1, h2, _⟩, _⟩, _⟩ := HRL.out.1 h
                                    omega))
                                  clear hpv
                                  go_wp2_with fail
                                  go_ret
                                  exact HX.out
                                · have HX := hid (show R ↔ ptsOk (behP op b (j + 1)) fl (op.drop (j + 1)) ∧ (lstP op b < 0 ∨ la = lstP op b) by
                                    rw [HB1.out]
                                    exact ⟨fun h => ⟨(HRL.out.1 h).1.2, (HRL.out.1 h).2⟩, fun h => HRL.out.2 ⟨⟨⟨by omega, by omega, hpv.1.2, hpv.2.1, hpv.2.2⟩, h.1⟩, h.2⟩⟩)
                                  clear hpv HRL
                                  go_wp2_with fail
                                  go_roundw
                                  case rel => exact ⟨j + 1, by omega, by go_num, by rw [HB1.out], HBW, HX⟩
                                  case measure => simp [intOf]; omega
                          · obtain rfl : j = m := by omega
                            have hend : behP op b j = lstP op b := by rw [HES.out.2.1]; exact behP_end
                            have HX := hid (show R ↔ (lstP op b < 0 ∨ la = lstP op b) by
                              rw [hrl.out, show op.drop j = [] from List.drop_eq_nil_of_le (by rw [← HES.out.2.1]; exact Nat.le_refl _)]
                              exact ⟨fun h => h.2, fun h => ⟨trivial, h⟩⟩)
                            rw [hend]
                            have HBJ := hid (HB.out.trans (hbj.out.mono HB.out.size))
                            clear hend hrl hbj hjm
                            generalize lstP op b = ll at *
                            by_cases q1 : ll < 0
                            · have HY := hid (HYES.out _ HBJ.out (HX.out.2 (.inl q1)))
                              go_wp2_with fail
                              go_ret
                              exact HY.out
                            · by_cases q2 : la = ll
                              · have q3 : (la == ll) = true := by simp [q2]
                                have HY := hid (HYES.out _ HBJ.out (HX.out.2 (.inr q2)))
                                clear q2
                                go_wp2_with fail
                                go_ret
                                exact HY.out
                              · have q3 : (la == ll) = false := by simp [q2]
                                have HY := hid (HNO.out _ HBJ.out (fun h => (HX.out.1 h).elim q1 q2))
                                clear q2
                                go_wp2_with fail
                                go_ret
                                exact HY.out
end Go.Proofs.Ytgdnpmjmkcccoaa
namespace Go.Proofs.Ytgdnpmjmkcccoaa
open Go.RowKit Go.Shelf VB
open Go.Lib (hid)
set_option linter.unusedVariables false
set_option linter.unusedSimpArgs false
structure StepRw (l : List Ro) (i : Nat) (x : Ro) : Prop where
  row : rowR x
  nm : ∀ y, 0 < i → l[i - 1]? = some y → nmLt y.nm x.nm = true
def rightR (l : List Ro) : Prop := (∀ i x, l[i]? = some x → StepRw l i x) ∧ (pgsR l).Nodup ∧ l.length ≤ 8
theorem not_nodup {l acc rest : List Int} {p : Int} (h : l = acc ++ (p :: rest)) (hp : p ∈ acc) : ¬ l.Nodup := by
  intro hn
  rw [h] at hn
  exact (List.nodup_append.1 hn).2.2 p hp p List.mem_cons_self rfl
set_option maxRecDepth 100000 in
set_option maxHeartbeats 8000000 in
theorem Right22_d (A : Option Addr) (n c : Nat) (rows : List RoA) (w : World) (h : ManIn w A n c rows) (hf : ∀ x ∈ rows, RoFr w x) :
    Calls Try.prog 12 #[.agg #[.slice A n c]] w (RetIff (rightR (rows.map RoA.d)) w) := by
  obtain ⟨i0, hi0, hz0, hz1, hz2⟩ := info_parts3 int_info2
  have HI := hid (And.intro hi0 (And.intro hz0 (And.intro hz1 hz2)))
  have hln := h.len
  have hn16 := h.hn
  have htot := pgs_total h
  obtain ⟨l, hl⟩ : ∃ l, l = rows.map RoA.d := ⟨_, rfl⟩
  obtain ⟨R, hR⟩ : ∃ R : Prop, R = rightR l := ⟨_, rfl⟩
  rw [← hl] at htot ⊢
  rw [← hR]
  have HR := hid (show R ↔ (∀ i x, l[i]? = some x → StepRw l i x) ∧ (pgsR l).Nodup ∧ l.length ≤ 8 by rw [hR]; exact Iff.rfl)
  have HNO := hid (fun (W : World) (hW : Below w.heap.size w W) (h : ¬ R) => RetIff.no (p := R) hW h)
  have HYES := hid (fun (W : World) (hW : Below w.heap.size w W) (h : R) => RetIff.yes (p := R) hW h)
  obtain ⟨w1, hw1⟩ : ∃ w1, w1 = w.alloc (.cells #[.slice A n c] 24) := ⟨_, rfl⟩
  have hb1 : Below w.heap.size w w1 := by rw [hw1]; exact (Below.refl _ _).alloc (Nat.le_refl _) _
  have K := hid (show Blk w1 w.heap.size 24 #[.slice A n c] by rw [hw1]; exact Blk.new _ _ _)
  have HM := hid (h.below hb1)
  have HF := hid (fun x hx => (hf x hx).below hb1)
  have HB := hid hb1
  have HL := hid (And.intro hl hln)
  have k0 : w1.cell? ⟨w.heap.size, 0, none⟩ = some (.slice A n c) := K.out.cell 0
  clear hi0 hz0 hz1 hz2 h hf hb1 hl hln hR
  rw [hw1] at k0
  go_enter Try.func12, Try.ntmps12
  go_wp2_with fail
  rw [← hw1]
  clear hw1 k0
  have k0 : w1.cell? ⟨w.heap.size, 0, none⟩ = some (.slice A n c) := K.out.cell 0
  go_loopw [3, 13] (fun u3 u13 wr => ∃ (i : Nat) (acc : List Int) (C : Option Addr) (f : Nat), i ≤ n ∧ u13 = .int .i64 (i : Nat) ∧ u3 = .slice C acc.length f ∧ Hid (Below w1.heap.size w1 wr ∧ wr.ownsRow w1.heap.size 3 1 (.slice C acc.length f) acc.length (acc.map (Value.int .i64))) ∧ Hid (pgsR l = acc ++ pgsR (l.drop i) ∧ acc.Nodup ∧ ∀ j x, j < i → l[j]? = some x → StepRw l j x)) (fun _ u13 _ => n - (intOf u13).toNat)
  case atStart => exact ⟨0, [], none, 0, Nat.zero_le _, rfl, rfl, hid ⟨Below.refl _ _, World.ownsRow_nil _ _ _ _⟩, hid ⟨rfl, List.nodup_nil, fun j x h => absurd h (Nat.not_lt_zero _)⟩⟩
  case round =>
    obtain ⟨i, acc, C, f, hi, rfl, rfl, hbo, hst⟩ := hrel
    obtain ⟨wo, rfl⟩ : ∃ wo : World, wo = wr := ⟨_, rfl⟩
    have k0' := below_cell hbo.out.1 k0
    by_cases hlt : i < n
    · obtain ⟨er, hrw⟩ := (HM.out.below hbo.out.1).rows
      obtain ⟨ad, x, rfl, hx, hxl, c0, c1, c2, c3, c4, c5, c6⟩ := row_at hrw hlt
      have hxf := (HF.out x (List.mem_of_getElem? hx)).below hbo.out.1
      have hxe : l[i]? = some x.d := by rw [HL.out.1, List.getElem?_map, hx]; rfl
      obtain ⟨w2, hw2⟩ : ∃ w2, w2 = wo.alloc (.cells (aR x.nm x.ep x.fl x.la x.sc (.slice x.ea x.en.length x.ec) (.slice x.oa x.op.length x.oc)) 42) := ⟨_, rfl⟩
      have hb2 : Below wo.heap.size wo w2 := by rw [hw2]; exact (Below.refl _ _).alloc (Nat.le_refl _) _
      have KX := hid (show Blk w2 wo.heap.size 42 (aR x.nm x.ep x.fl x.la x.sc (.slice x.ea x.en.length x.ec) (.slice x.oa x.op.length x.oc)) by rw [hw2]; exact Blk.new _ _ _)
      have HXF := hid (hxf.below hb2)
      have HRW := hid (fun W (hW : Below w2.heap.size w2 W) => Row22_d x W (HXF.out.below hW))
      have HXE := hid hxe
      have HX1 := hid (HF.out x (List.mem_of_getElem? hx))
      have HST := hid hst.out
      have HBO := hid (And.intro (hbo.out.1.trans (hb2.mono hbo.out.1.size)) (own_below hbo.out.2 hb2))
      have HRWS := hid ((HM.out.below hbo.out.1).below hb2)
      have hltI : (i : Int) < (n : Int) := by omega
      have h0I : (0 : Int) ≤ (i : Int) := by omega
      have k2 : w2.cell? ⟨w.heap.size, 0, none⟩ = some (.slice (some ad) n c) := below_cell HBO.out.1 k0
      obtain ⟨x0, x1, x2, x3, x4, x5, x6⟩ := KX.out.seven
      clear hrw hx hxl hxf hxe hst hbo hb2
      rw [hw2] at x0 x1 x2 x3 x4 x5 x6 k2
      go_upto_region 5 with fail
      rw [← hw2]
      clear c0 c1 c2 c3 c4 c5 c6 k0' x0 x1 x2 x3 x4 x5 x6 k2 hw2
      obtain ⟨y0, y1, y2, y3, y4, y5, y6⟩ := KX.out.seven
      have q2 : w2.cell? ⟨w.heap.size, 0, none⟩ = some (.slice (some ad) n c) := below_cell HBO.out.1 k0
      have hwB := (Below.refl w2.heap.size w2).drew
      by_cases hi0 : (0 : Int) < (i : Int)
      · obtain ⟨i', hi'⟩ : ∃ i', i' = i - 1 := ⟨_, rfl⟩
        obtain ⟨er2, hrw2⟩ := HRWS.out.rows
        obtain ⟨ad', z, hadd, hz, hzl, p0, _, _, _, _, _, _⟩ := row_at hrw2 (show i' < n by omega)
        injection hadd with hadd
        subst hadd
        have hze : l[i']? = some z.d := by rw [HL.out.1, List.getElem?_map, hz]; rfl
        obtain ⟨pn, hpn⟩ : ∃ pn, pn = z.nm := ⟨_, rfl⟩
        rw [← hpn] at p0
        obtain ⟨lt, hlt2⟩ : ∃ lt, lt = nmLt pn x.nm := ⟨_, rfl⟩
        have hlt3 : Op.bytesLess pn.toList x.nm.toList = lt := hlt2.symm
        have HPREV := hid (show l[i - 1]? = some z.d ∧ nmLt z.nm x.nm = lt by rw [← hi', ← hpn]; exact ⟨hze, hlt2.symm⟩)
        have hw0 : IntKind.i64.wrap ((i : Int) - 1) = (i' : Int) := by rw [IntKind.wrap_i64]; omega
        have hiI : (i' : Int) < (n : Int) := by omega
        have hi0' : (0 : Int) ≤ (i' : Int) := by omega
        have HPOS := hid (show 0 < i by omega)
        have t8 : decide ((0 : Int) < (i : Int)) = true := decide_eq_true hi0
        have t9 : decide (0 < i) = true := decide_eq_true HPOS.out
        have t10 : 0 < i := HPOS.out
        clear hi0 hz hzl hze hpn hlt2 hi' hrw2
        refine wp_region_noPanic ?_
        refine wp_region_held_drew (S := (fun W => Below w2.heap.size w2 W)) (by kernel_rfl) hwB (fun hHeld => ?_)
        refine wpAnyH_take (i := 0) (v := ?_) rfl (by kernel_rfl) (by kernel_rfl) (by kernel_rfl) (fun _ _ _ h => h) (Or.inl ⟨by rfl, ?_⟩) (by assumption) ?_
        rotate_left
        · intro W hW
          have z0 := below_cell hW y0
          have z1 := below_cell hW y1
          have z2 := below_cell hW y2
          have z3 := below_cell hW y3
          have z4 := below_cell hW y4
          have z5 := below_cell hW y5
          have z6 := below_cell hW y6
          go_simp
          try rfl
        simp only [List.getElem_toArray, List.getElem_cons_zero, Act.put, List.setIfInBounds_toArray, List.set_cons_zero, List.set_cons_succ]
        refine wpAnyH_ready (rs := [1]) (by kernel_rfl) (by simp) ?_
        refine AllReadyH.cons rfl (fun K hK => ?_) AllReadyH.nil
        go_simp
        refine (HRW.out _ hwB).mono ?_
        rintro d w3 ⟨b, rfl, hbi, hb3⟩
        refine hK.out _ _ (hwB.trans hb3) (fun hHeld => ?_)
        clear hK K
        try simp only [List.getElem_toArray, List.getElem_cons_succ, List.getElem_cons_zero, Act.put, List.setIfInBounds_toArray, List.set_cons_zero, List.set_cons_succ]
        have hw3 : Below w2.heap.size w2 w3 := hwB.trans hb3
        have HBI := hid hbi
        clear hb3 hHeld hbi
        cases b with
        | false =>
          refine wpAnyH_take (i := 2) (v := ?_) rfl (by kernel_rfl) (by kernel_rfl) (by kernel_rfl) (fun _ _ _ h => h) (Or.inl ⟨by rfl, ?_⟩) (by assumption) ?_
          rotate_left
          · intro W hW
            go_simp
            try rfl
          simp only [List.getElem_toArray, List.getElem_cons_succ, List.getElem_cons_zero, Act.put, List.setIfInBounds_toArray, List.set_cons_zero, List.set_cons_succ]
          refine wpAnyH_take (i := 3) (v := ?_) rfl (by kernel_rfl) (by kernel_rfl) (by kernel_rfl) (fun _ _ _ h => h) (Or.inl ⟨by rfl, ?_⟩) (by assumption) ?_
          rotate_left
          · intro W hW
            go_simp
            try rfl
          simp only [List.getElem_toArray, List.getElem_cons_succ, List.getElem_cons_zero, Act.put, List.setIfInBounds_toArray, List.set_cons_zero, List.set_cons_succ]
          refine wpAnyH_take (i := 4) (v := undef) rfl (by kernel_rfl) (by kernel_rfl) (by kernel_rfl) (fun _ _ _ h => h) (Or.inr ⟨by rfl, rfl⟩) (by assumption) ?_
          simp only [List.getElem_toArray, List.getElem_cons_succ, List.getElem_cons_zero, Act.put, List.setIfInBounds_toArray, List.set_cons_zero, List.set_cons_succ]
          refine wpAnyH_take (i := 5) (v := undef) rfl (by kernel_rfl) (by kernel_rfl) (by kernel_rfl) (fun _ _ _ h => h) (Or.inr ⟨by rfl, rfl⟩) (by assumption) ?_
          simp only [List.getElem_toArray, List.getElem_cons_succ, List.getElem_cons_zero, Act.put, List.setIfInBounds_toArray, List.set_cons_zero, List.set_cons_succ]
          refine wpAnyH_take (i := 6) (v := undef) rfl (by kernel_rfl) (by kernel_rfl) (by kernel_rfl) (fun _ _ _ h => h) (Or.inr ⟨by rfl, rfl⟩) (by assumption) ?_
          simp only [List.getElem_toArray, List.getElem_cons_succ, List.getElem_cons_zero, Act.put, List.setIfInBounds_toArray, List.set_cons_zero, List.set_cons_succ]
          refine wpAnyH_take (i := 7) (v := undef) rfl (by kernel_rfl) (by kernel_rfl) (by kernel_rfl) (fun _ _ _ h => h) (Or.inr ⟨by rfl, rfl⟩) (by assumption) ?_
          simp only [List.getElem_toArray, List.getElem_cons_succ, List.getElem_cons_zero, Act.put, List.setIfInBounds_toArray, List.set_cons_zero, List.set_cons_succ]
          refine wpAnyH_take (i := 8) (v := undef) rfl (by kernel_rfl) (by kernel_rfl) (by kernel_rfl) (fun _ _ _ h => h) (Or.inr ⟨by rfl, rfl⟩) (by assumption) ?_
          simp only [List.getElem_toArray, List.getElem_cons_succ, List.getElem_cons_zero, Act.put, List.setIfInBounds_toArray, List.set_cons_zero, List.set_cons_succ]
          refine wpAnyH_take (i := 9) (v := undef) rfl (by kernel_rfl) (by kernel_rfl) (by kernel_rfl) (fun _ _ _ h => h) (Or.inr ⟨by rfl, rfl⟩) (by assumption) ?_
          simp only [List.getElem_toArray, List.getElem_cons_succ, List.getElem_cons_zero, Act.put, List.setIfInBounds_toArray, List.set_cons_zero, List.set_cons_succ]
          refine wpAnyH_take (i := 10) (v := undef) rfl (by kernel_rfl) (by kernel_rfl) (by kernel_rfl) (fun _ _ _ h => h) (Or.inr ⟨by rfl, rfl⟩) (by assumption) ?_
          simp only [List.getElem_toArray, List.getElem_cons_succ, List.getElem_cons_zero, Act.put, List.setIfInBounds_toArray, List.set_cons_zero, List.set_cons_succ]
          refine wpAnyH_take (i := 11) (v := undef) rfl (by kernel_rfl) (by kernel_rfl) (by kernel_rfl) (fun _ _ _ h => h) (Or.inr ⟨by rfl, rfl⟩) (by assumption) ?_
          simp only [List.getElem_toArray, List.getElem_cons_succ, List.getElem_cons_zero, Act.put, List.setIfInBounds_toArray, List.set_cons_zero, List.set_cons_succ]
          refine wpAnyH_take (i := 12) (v := undef) rfl (by kernel_rfl) (by kernel_rfl) (by kernel_rfl) (fun _ _ _ h => h) (Or.inr ⟨by rfl, rfl⟩) (by assumption) ?_
          simp only [List.getElem_toArray, List.getElem_cons_succ, List.getElem_cons_zero, Act.put, List.setIfInBounds_toArray, List.set_cons_zero, List.set_cons_succ]
          refine wpAnyH_take (i := 13) (v := undef) rfl (by kernel_rfl) (by kernel_rfl) (by kernel_rfl) (fun _ _ _ h => h) (Or.inr ⟨by rfl, rfl⟩) (by assumption) ?_
          simp only [List.getElem_toArray, List.getElem_cons_succ, List.getElem_cons_zero, Act.put, List.setIfInBounds_toArray, List.set_cons_zero, List.set_cons_succ]
          refine wpAnyH_take (i := 14) (v := undef) rfl (by kernel_rfl) (by kernel_rfl) (by kernel_rfl) (fun _ _ _ h => h) (Or.inr ⟨by rfl, rfl⟩) (by assumption) ?_
          simp only [List.getElem_toArray, List.getElem_cons_succ, List.getElem_cons_zero, Act.put, List.setIfInBounds_toArray, List.set_cons_zero, List.set_cons_succ]
          refine wpAnyH_take (i := 15) (v := undef) rfl (by kernel_rfl) (by kernel_rfl) (by kernel_rfl) (fun _ _ _ h => h) (Or.inr ⟨by rfl, rfl⟩) (by assumption) ?_
          simp only [List.getElem_toArray, List.getElem_cons_succ, List.getElem_cons_zero, Act.put, List.setIfInBounds_toArray, List.set_cons_zero, List.set_cons_succ]
          refine wpAnyH_take (i := 16) (v := undef) rfl (by kernel_rfl) (by kernel_rfl) (by kernel_rfl) (fun _ _ _ h => h) (Or.inr ⟨by rfl, rfl⟩) (by assumption) ?_
          simp only [List.getElem_toArray, List.getElem_cons_succ, List.getElem_cons_zero, Act.put, List.setIfInBounds_toArray, List.set_cons_zero, List.set_cons_succ]
          refine wpAnyH_take (i := 17) (v := undef) rfl (by kernel_rfl) (by kernel_rfl) (by kernel_rfl) (fun _ _ _ h => h) (Or.inr ⟨by rfl, rfl⟩) (by assumption) ?_
          simp only [List.getElem_toArray, List.getElem_cons_succ, List.getElem_cons_zero, Act.put, List.setIfInBounds_toArray, List.set_cons_zero, List.set_cons_succ]
          refine wpAnyH_take (i := 18) (v := ?_) rfl (by kernel_rfl) (by kernel_rfl) (by kernel_rfl) (fun _ _ _ h => h) (Or.inl ⟨by rfl, ?_⟩) (by assumption) ?_
          rotate_left
          · intro W hW
            go_simp
            try rfl
          simp only [List.getElem_toArray, List.getElem_cons_succ, List.getElem_cons_zero, Act.put, List.setIfInBounds_toArray, List.set_cons_zero, List.set_cons_succ]
          refine wpAnyH_done (by kernel_rfl) ?_ _
          refine NoPanic.normal ?_
          have HX := hid (HNO.out w3 (HB.out.trans ((HBO.out.1.trans (hw3.mono HBO.out.1.size)).mono HB.out.size)) (fun h => Bool.false_ne_true (HBI.out.2 ((HR.out.1 h).1 i _ HXE.out).row)))
          go_wp2_with fail
          go_ret
          exact HX.out
        | true =>
          refine wpAnyH_take (i := 2) (v := ?_) rfl (by kernel_rfl) (by kernel_rfl) (by kernel_rfl) (fun _ _ _ h => h) (Or.inl ⟨by rfl, ?_⟩) (by assumption) ?_
          rotate_left
          · intro W hW
            go_simp
            try rfl
          simp only [List.getElem_toArray, List.getElem_cons_succ, List.getElem_cons_zero, Act.put, List.setIfInBounds_toArray, List.set_cons_zero, List.set_cons_succ]
          refine wpAnyH_take (i := 3) (v := ?_) rfl (by kernel_rfl) (by kernel_rfl) (by kernel_rfl) (fun _ _ _ h => h) (Or.inl ⟨by rfl, ?_⟩) (by assumption) ?_
          rotate_left
          · intro W hW
            go_simp
            try rfl
          simp only [List.getElem_toArray, List.getElem_cons_succ, List.getElem_cons_zero, Act.put, List.setIfInBounds_toArray, List.set_cons_zero, List.set_cons_succ]
          refine wpAnyH_take (i := 4) (v := ?_) rfl (by kernel_rfl) (by kernel_rfl) (by kernel_rfl) (fun _ _ _ h => h) (Or.inl ⟨by rfl, ?_⟩) (by assumption) ?_
          rotate_left
          · intro W hW
            go_simp
            try rfl
          simp only [List.getElem_toArray, List.getElem_cons_succ, List.getElem_cons_zero, Act.put, List.setIfInBounds_toArray, List.set_cons_zero, List.set_cons_succ]
          refine wpAnyH_take (i := 5) (v := ?_) rfl (by kernel_rfl) (by kernel_rfl) (by kernel_rfl) (fun _ _ _ h => h) (Or.inl ⟨by rfl, ?_⟩) (by assumption) ?_
          rotate_left
          · intro W hW
            go_simp
            try rfl
          simp only [List.getElem_toArray, List.getElem_cons_succ, List.getElem_cons_zero, Act.put, List.setIfInBounds_toArray, List.set_cons_zero, List.set_cons_succ]
          refine wpAnyH_take (i := 6) (v := ?_) rfl (by kernel_rfl) (by kernel_rfl) (by kernel_rfl) (fun _ _ _ h => h) (Or.inl ⟨by rfl, ?_⟩) (by assumption) ?_
          rotate_left
          · intro W hW
            go_simp
            try rfl
          simp only [List.getElem_toArray, List.getElem_cons_succ, List.getElem_cons_zero, Act.put, List.setIfInBounds_toArray, List.set_cons_zero, List.set_cons_succ]
          refine wpAnyH_take (i := 7) (v := ?_) rfl (by kernel_rfl) (by kernel_rfl) (by kernel_rfl) (fun _ _ _ h => h) (Or.inl ⟨by rfl, ?_⟩) (by assumption) ?_
          rotate_left
          · intro W hW
            have z0 := below_cell hW y0
            have zq := below_cell hW q2
            have zp := below_cell hW p0
            go_simp
            try rfl
          simp only [List.getElem_toArray, List.getElem_cons_succ, List.getElem_cons_zero, Act.put, List.setIfInBounds_toArray, List.set_cons_zero, List.set_cons_succ]
          refine wpAnyH_take (i := 8) (v := ?_) rfl (by kernel_rfl) (by kernel_rfl) (by kernel_rfl) (fun _ _ _ h => h) (Or.inl ⟨by rfl, ?_⟩) (by assumption) ?_
          rotate_left
          · intro W hW
            have z0 := below_cell hW y0
            have zq := below_cell hW q2
            have zp := below_cell hW p0
            go_simp
            try rfl
          simp only [List.getElem_toArray, List.getElem_cons_succ, List.getElem_cons_zero, Act.put, List.setIfInBounds_toArray, List.set_cons_zero, List.set_cons_succ]
          refine wpAnyH_take (i := 9) (v := ?_) rfl (by kernel_rfl) (by kernel_rfl) (by kernel_rfl) (fun _ _ _ h => h) (Or.inl ⟨by rfl, ?_⟩) (by assumption) ?_
          rotate_left
          · intro W hW
            have z0 := below_cell hW y0
            have zq := below_cell hW q2
            have zp := below_cell hW p0
            go_simp
            try rfl
          simp only [List.getElem_toArray, List.getElem_cons_succ, List.getElem_cons_zero, Act.put, List.setIfInBounds_toArray, List.set_cons_zero, List.set_cons_succ]
          refine wpAnyH_take (i := 10) (v := ?_) rfl (by kernel_rfl) (by kernel_rfl) (by kernel_rfl) (fun _ _ _ h => h) (Or.inl ⟨by rfl, ?_⟩) (by assumption) ?_
          rotate_left
          · intro W hW
            have z0 := below_cell hW y0
            have zq := below_cell hW q2
            have zp := below_cell hW p0
            go_simp
            try rfl
          simp only [List.getElem_toArray, List.getElem_cons_succ, List.getElem_cons_zero, Act.put, List.setIfInBounds_toArray, List.set_cons_zero, List.set_cons_succ]
          refine wpAnyH_take (i := 11) (v := ?_) rfl (by kernel_rfl) (by kernel_rfl) (by kernel_rfl) (fun _ _ _ h => h) (Or.inl ⟨by rfl, ?_⟩) (by assumption) ?_
          rotate_left
          · intro W hW
            have z0 := below_cell hW y0
            have zq := below_cell hW q2
            have zp := below_cell hW p0
            go_simp
            try rfl
          simp only [List.getElem_toArray, List.getElem_cons_succ, List.getElem_cons_zero, Act.put, List.setIfInBounds_toArray, List.set_cons_zero, List.set_cons_succ]
          refine wpAnyH_take (i := 12) (v := ?_) rfl (by kernel_rfl) (by kernel_rfl) (by kernel_rfl) (fun _ _ _ h => h) (Or.inl ⟨by rfl, ?_⟩) (by assumption) ?_
          rotate_left
          · intro W hW
            have z0 := below_cell hW y0
            have zq := below_cell hW q2
            have zp := below_cell hW p0
            go_simp
            try rfl
          simp only [List.getElem_toArray, List.getElem_cons_succ, List.getElem_cons_zero, Act.put, List.setIfInBounds_toArray, List.set_cons_zero, List.set_cons_succ]
          refine wpAnyH_take (i := 13) (v := ?_) rfl (by kernel_rfl) (by kernel_rfl) (by kernel_rfl) (fun _ _ _ h => h) (Or.inl ⟨by rfl, ?_⟩) (by assumption) ?_
          rotate_left
          · intro W hW
            have z0 := below_cell hW y0
            have zq := below_cell hW q2
            have zp := below_cell hW p0
            go_simp
            try rfl
          simp only [List.getElem_toArray, List.getElem_cons_succ, List.getElem_cons_zero, Act.put, List.setIfInBounds_toArray, List.set_cons_zero, List.set_cons_succ]
          refine wpAnyH_take (i := 14) (v := ?_) rfl (by kernel_rfl) (by kernel_rfl) (by kernel_rfl) (fun _ _ _ h => h) (Or.inl ⟨by rfl, ?_⟩) (by assumption) ?_
          rotate_left
          · intro W hW
            have z0 := below_cell hW y0
            have zq := below_cell hW q2
            have zp := below_cell hW p0
            go_simp
            try rfl
          simp only [List.getElem_toArray, List.getElem_cons_succ, List.getElem_cons_zero, Act.put, List.setIfInBounds_toArray, List.set_cons_zero, List.set_cons_succ]
          refine wpAnyH_take (i := 15) (v := ?_) rfl (by kernel_rfl) (by kernel_rfl) (by kernel_rfl) (fun _ _ _ h => h) (Or.inl ⟨by rfl, ?_⟩) (by assumption) ?_
          rotate_left
          · intro W hW
            have z0 := below_cell hW y0
            have zq := below_cell hW q2
            have zp := below_cell hW p0
            go_simp
            try rfl
          simp only [List.getElem_toArray, List.getElem_cons_succ, List.getElem_cons_zero, Act.put, List.setIfInBounds_toArray, List.set_cons_zero, List.set_cons_succ]
          refine wpAnyH_take (i := 16) (v := ?_) rfl (by kernel_rfl) (by kernel_rfl) (by kernel_rfl) (fun _ _ _ h => h) (Or.inl ⟨by rfl, ?_⟩) (by assumption) ?_
          rotate_left
          · intro W hW
            have z0 := below_cell hW y0
            have zq := below_cell hW q2
            have zp := below_cell hW p0
            go_simp
            try rfl
          simp only [List.getElem_toArray, List.getElem_cons_succ, List.getElem_cons_zero, Act.put, List.setIfInBounds_toArray, List.set_cons_zero, List.set_cons_succ]
          refine wpAnyH_take (i := 17) (v := ?_) rfl (by kernel_rfl) (by kernel_rfl) (by kernel_rfl) (fun _ _ _ h => h) (Or.inl ⟨by rfl, ?_⟩) (by assumption) ?_
          rotate_left
          · intro W hW
            have z0 := below_cell hW y0
            have zq := below_cell hW q2
            have zp := below_cell hW p0
            go_simp
            try rfl
          simp only [List.getElem_toArray, List.getElem_cons_succ, List.getElem_cons_zero, Act.put, List.setIfInBounds_toArray, List.set_cons_zero, List.set_cons_succ]
          refine wpAnyH_take (i := 18) (v := ?_) rfl (by kernel_rfl) (by kernel_rfl) (by kernel_rfl) (fun _ _ _ h => h) (Or.inl ⟨by rfl, ?_⟩) (by assumption) ?_
          rotate_left
          · intro W hW
            have z0 := below_cell hW y0
            have zq := below_cell hW q2
            have zp := below_cell hW p0
            go_simp
            try rfl
          simp only [List.getElem_toArray, List.getElem_cons_succ, List.getElem_cons_zero, Act.put, List.setIfInBounds_toArray, List.set_cons_zero, List.set_cons_succ]
          refine wpAnyH_done (by kernel_rfl) ?_ _
          refine NoPanic.normal ?_
          clear p0 hiI hi0' hw0 t8 t9 t10
          cases lt with
          | false =>
            have HX := hid (HNO.out w3 (HB.out.trans ((HBO.out.1.trans (hw3.mono HBO.out.1.size)).mono HB.out.size)) (fun h => by have h1 := ((HR.out.1 h).1 i _ HXE.out).nm _ HPOS.out HPREV.out.1; rw [show nmLt (RoA.d _).nm _ = nmLt _ _ from rfl] at h1; exact Bool.false_ne_true (HPREV.out.2.symm.trans h1)))
            go_wp2_with fail
            go_ret
            exact HX.out
          | true =>
            have HNM := hid (show ∀ y, 0 < i → l[i - 1]? = some y → nmLt y.nm x.nm = true from fun y _ hy => by
              have h1 := HPREV.out.1.symm.trans hy
              injection h1 with h1
              rw [← h1]
              exact HPREV.out.2)
            clear hlt3
            have HROW := hid (HBI.out.1 rfl)
            have HW3 := hid hw3
            clear hw3 hwB y0 y1 y2 y3 y4 q2
            have y5' : w3.cell? ⟨wo.heap.size, 5, none⟩ = some (.slice x.ea x.en.length x.ec) := below_cell HW3.out y5
            clear y5 y6
            obtain ⟨ea, hea⟩ : ∃ ea, ea = x.ea := ⟨_, rfl⟩
            obtain ⟨ec, hec⟩ : ∃ ec, ec = x.ec := ⟨_, rfl⟩
            obtain ⟨ne, hne⟩ : ∃ ne, ne = x.en.length := ⟨_, rfl⟩
            obtain ⟨es, hes⟩ : ∃ es, es = x.en.map Prod.fst := ⟨_, rfl⟩
            obtain ⟨Z, hZ⟩ : ∃ Z, Z = pgsR (l.drop (i + 1)) := ⟨_, rfl⟩
            rw [← hea, ← hec, ← hne] at y5'
            have HEN1 := hid (show Reads w1 45 5 ea ne (x.en.flatMap cellsN) by rw [hea, hne]; exact HX1.out.en)
            have hne2 : ne ≤ 256 := by rw [hne]; exact HX1.out.henl
            have HES := hid (And.intro hne hes)
            have HAC := hid (show pgsR l = acc ++ ((es.drop 0).flatMap En.ps ++ Z) ∧ acc.Nodup by
              refine ⟨?_, HST.out.2.1⟩
              rw [HST.out.1, List.drop_eq_getElem_cons (List.getElem?_eq_some_iff.1 HXE.out).1, (List.getElem?_eq_some_iff.1 HXE.out).2, hes, hZ]
              rfl)
            have HNEXT := hid (fun (ac : List Int) (h1 : pgsR l = ac ++ ((es.drop ne).flatMap En.ps ++ Z)) (h2 : ac.Nodup) => (show pgsR l = ac ++ pgsR (l.drop (i + 1)) ∧ ac.Nodup ∧ ∀ j x, j < i + 1 → l[j]? = some x → StepRw l j x from by
              refine ⟨?_, h2, ?_⟩
              · rw [h1, show es.drop ne = [] from List.drop_eq_nil_of_le (by rw [hes, List.length_map, hne]; exact Nat.le_refl _), hZ]; rfl
              · intro j y hj hy
                by_cases h : j < i
                · exact HST.out.2.2 j y h hy
                · obtain rfl : j = i := by omega
                  have h3 := HXE.out.symm.trans hy
                  injection h3 with h3
                  subst h3
                  exact ⟨HROW.out, HNM.out⟩))
            have HOW3 := hid (show Below w1.heap.size w1 w3 ∧ w3.ownsRow w1.heap.size 3 1 (.slice C acc.length f) acc.length (acc.map (Value.int .i64)) from ⟨HBO.out.1.trans (HW3.out.mono HBO.out.1.size), own_below HBO.out.2 HW3.out⟩)
            clear hea hec hne hes hZ
            go_wp2_with fail
            clear y5'
            go_loopw [3, 40] (fun u3 u40 wr => ∃ (k : Nat) (ac : List Int) (C' : Option Addr) (f' : Nat), k ≤ ne ∧ u40 = .int .i64 (k : Nat) ∧ u3 = .slice C' ac.length f' ∧ Hid (Below w1.heap.size w1 wr ∧ wr.ownsRow w1.heap.size 3 1 (.slice C' ac.length f') ac.length (ac.map (Value.int .i64))) ∧ Hid (pgsR l = ac ++ ((es.drop k).flatMap En.ps ++ Z) ∧ ac.Nodup)) (fun _ u40 _ => ne - (intOf u40).toNat)
            case atStart => exact ⟨0, acc, C, f, Nat.zero_le _, rfl, rfl, HOW3, HAC⟩
            case round =>
              obtain ⟨k, ac, C', f', hk, rfl, rfl, hbk, hak⟩ := hrel
              obtain ⟨wk, rfl⟩ : ∃ wk : World, wk = wr := ⟨_, rfl⟩
              by_cases hkn : k < ne
              · obtain ⟨a2, e, rfl, he, hel, d0, d1, d2, d3, d4⟩ := en_at (HEN1.out.below hbk.out.1) hkn
                have hrp := HX1.out.ens e (List.mem_of_getElem? he)
                have hpl := HX1.out.pgl e (List.mem_of_getElem? he)
                have hee : es[k]? = some e.1 := by rw [HES.out.2, List.getElem?_map, he]; rfl
                have hdp : es.drop k = e.1 :: es.drop (k + 1) := by rw [List.drop_eq_getElem_cons (List.getElem?_eq_some_iff.1 hee).1, (List.getElem?_eq_some_iff.1 hee).2]
                have hak2 := hak.out
                rw [hdp, List.flatMap_cons, List.append_assoc] at hak2
                obtain ⟨⟨ef, el, ect, eb, ps⟩, pA, pC⟩ := e
                obtain ⟨np, hnp⟩ : ∃ np, np = ps.length := ⟨_, rfl⟩
                simp only at d0 d1 d2 d3 d4 hrp hpl hak2
                rw [← hnp] at d3 hrp hpl
                obtain ⟨Z2, hZ2⟩ : ∃ Z2, Z2 = (es.drop (k + 1)).flatMap En.ps ++ Z := ⟨_, rfl⟩
                rw [← hZ2] at hak2
                have HZ2 := hid hZ2
                have HRP := hid hrp
                have HNP := hid hnp
                have HA2 := hid (show pgsR l = ac ++ (ps.drop 0 ++ Z2) ∧ ac.Nodup from hak2)
                have HB2 := hid (show Below w1.heap.size w1 (wk.alloc (.cells (aE ef el ect (.slice pA np pC) eb) 45)) ∧ (wk.alloc (.cells (aE ef el ect (.slice pA np pC) eb) 45)).ownsRow w1.heap.size 3 1 (.slice C' ac.length f') ac.length (ac.map (Value.int .i64)) from ⟨hbk.out.1.alloc hbk.out.1.size _, hbk.out.2.alloc _⟩)
                have e3 : (wk.alloc (.cells (aE ef el ect (.slice pA np pC) eb) 45)).cell? ⟨wk.heap.size, 3, none⟩ = some (.slice pA np pC) := (Blk.new wk 45 (aE ef el ect (.slice pA np pC) eb)).cell 3
                have hkI : (k : Int) < (ne : Int) := by omega
                have hk0 : (0 : Int) ≤ (k : Int) := by omega
                clear he hel hrp hee hdp hak2 hak hbk hnp hZ2
                go_wp2_with fail
                clear d0 d1 d2 d3 d4 e3
                go_loopw [3, 47] (fun u3 u47 wr => ∃ (r : Nat) (a3 : List Int) (C3 : Option Addr) (f3 : Nat), r ≤ np ∧ u47 = .int .i64 (r : Nat) ∧ u3 = .slice C3 a3.length f3 ∧ Hid (Below w1.heap.size w1 wr ∧ wr.ownsRow w1.heap.size 3 1 (.slice C3 a3.length f3) a3.length (a3.map (Value.int .i64))) ∧ Hid (pgsR l = a3 ++ (ps.drop r ++ Z2) ∧ a3.Nodup)) (fun _ u47 _ => np - (intOf u47).toNat)
                case atStart => exact ⟨0, ac, C', f', Nat.zero_le _, rfl, rfl, HB2, HA2⟩
                case round =>
                  obtain ⟨r, a3, C3, f3, hr, rfl, rfl, hbr, har⟩ := hrel
                  by_cases hrn : r < np
                  · obtain ⟨pd, rfl, cx⟩ := ints_at (HRP.out.below hbr.out.1) hrn
                    have hkl : r < ps.length := by have := HNP.out; omega
                    have hge : ps.getD r 0 = ps[r] := by rw [List.getD_eq_getElem?_getD, List.getElem?_eq_getElem hkl]; rfl
                    have hdp : ps.drop r = ps.getD r 0 :: ps.drop (r + 1) := by rw [List.drop_eq_getElem_cons hkl, hge]
                    have har2 := har.out
                    rw [hdp] at har2
                    generalize ps.getD r 0 = p at *
                    have hal : a3.length ≤ 1200000 := by
                      have := congrArg List.length har2.1
                      rw [List.length_append] at this
                      omega
                    have HHAS := hid (has_d C3 a3.length f3 a3 p wr (Reads.of_own hbr.out.2) (by omega))
                    obtain ⟨bh, hbh⟩ : ∃ bh, bh = decide (p ∈ a3) := ⟨_, rfl⟩
                    rw [← hbh] at HHAS
                    have HBH := hid hbh
                    have HAR := hid (show pgsR l = a3 ++ (p :: (ps.drop (r + 1) ++ Z2)) ∧ a3.Nodup from har2)
                    have HBR := hid hbr.out
                    have hrI : (r : Int) < (np : Int) := by omega
                    have hr0 : (0 : Int) ≤ (r : Int) := by omega
                    clear hkl hge hdp har2 har hbr hbh
                    go_wp2_with fail
                    refine HHAS.out.mono ?_
                    rintro d w6 ⟨rfl, rfl⟩
                    cases bh with
                    | true =>
                      have HX := hid (HNO.out _ (HB.out.trans (HBR.out.1.mono HB.out.size)) (fun h => not_nodup HAR.out.1 (by simpa using HBH.out.symm) (HR.out.1 h).2.1))
                      clear HBH cx
                      go_wp2_with fail
                      go_ret
                      exact HX.out
                    | false =>
                      have HNI := hid (show p ∉ a3 by simpa using HBH.out.symm)
                      have hnw := new_reads wr 3 1 [.int .i64 p] rfl
                      have hoA := HBR.out.2.alloc (.cells #[.int .i64 p] 3)
                      have hsz := HBR.out.1.size
                      clear HBH
                      go_wp2_with (at_builtin; refine wpList_append_any _ rfl (.tmp 54) (.tmp 56) 43 rfl w1.heap.size 3 i0 (.int .i64 0) 1 8 Try.underlying43 HI.out.1 HI.out.2.1 HI.out.2.2.1 HI.out.2.2.2 rfl (by decide) _ a3.length (a3.map (Value.int .i64)) rfl hoA (some ⟨wr.heap.size, 0, none⟩) 1 1 [.int .i64 p] rfl hnw (by intro u hu; rw [List.mem_singleton] at hu; subst hu; rfl) (by simp only [maxLen]; omega) (by omega) (by simp; omega) ?_; intro v' w9 hown' hgr' hv'; obtain ⟨C9, f9, hvf, _, _⟩ := own_form hown'; subst hvf; replace hgr' : (wr.alloc (.cells #[.int .i64 p] 3)).grownBy w9 (Value.slice C3 a3.length f3).ownBlock := hgr'; clear hv')
                      have hnx : (a3 ++ [p]).length = a3.length + 1 := by simp
                      have hcl : a3.map (Value.int .i64) ++ [.int .i64 p] = (a3 ++ [p]).map (Value.int .i64) := by simp
                      rw [hcl, ← hnx] at hown'
                      rw [← hnx]
                      have hbA := HBR.out.1.alloc HBR.out.1.size (.cells #[.int .i64 p] 3)
                      have HX1' := hid (show Below w1.heap.size w1 w9 ∧ w9.ownsRow w1.heap.size 3 1 (.slice C9 (a3 ++ [p]).length f9) (a3 ++ [p]).length ((a3 ++ [p]).map (Value.int .i64)) from ⟨hbA.grown hgr' hbA.size (fun b hb => (hoA.lt b hb).1), hown'⟩)
                      have HX2' := hid (show pgsR l = (a3 ++ [p]) ++ (ps.drop (r + 1) ++ Z2) ∧ (a3 ++ [p]).Nodup from ⟨by rw [HAR.out.1, List.append_assoc]; rfl, nodup_snoc.2 ⟨HAR.out.2, HNI.out⟩⟩)
                      clear hown' hgr' hnx hcl hbA hoA hnw hsz HAR HBR HNI HHAS cx
                      generalize a3 ++ [p] = a4 at *
                      go_wp2_with fail
                      go_roundw
                      case rel => exact ⟨r + 1, a4, C9, f9, by omega, by go_num, rfl, HX1', HX2'⟩
                      case measure => simp [intOf]; omega
                  · obtain rfl : r = np := by omega
                    have HX1' := hid hbr.out
                    have HX2' := hid (show pgsR l = a3 ++ ((es.drop (k + 1)).flatMap En.ps ++ Z) ∧ a3.Nodup from ⟨by rw [har.out.1, show ps.drop r = [] from List.drop_eq_nil_of_le (by rw [← HNP.out]; exact Nat.le_refl _), HZ2.out]; rfl, har.out.2⟩)
                    clear hrn hbr har
                    go_wp2_with fail
                    go_roundw
                    case rel => exact ⟨k + 1, a3, C3, f3, by omega, by go_num, rfl, HX1', HX2'⟩
                    case measure => simp [intOf]; omega
              · obtain rfl : k = ne := by omega
                have HX1' := hid hbk.out
                have HX2' := hid (HNEXT.out ac hak.out.1 hak.out.2)
                clear hkn hbk hak
                go_wp2_with fail
                go_roundw
                case rel => exact ⟨i + 1, ac, C', f', by omega, by go_num, rfl, HX1', HX2'⟩
                case measure => simp [intOf]; omega
      · have HZERO := hid (show i = 0 by omega)
        have t8 : decide ((0 : Int) < (i : Int)) = false := decide_eq_false hi0
        have t9 : decide (0 < i) = false := decide_eq_false (by omega)
        have t10 : ¬ 0 < i := by omega
        clear hi0
        refine wp_region_noPanic ?_
        refine wp_region_held_drew (S := (fun W => Below w2.heap.size w2 W)) (by kernel_rfl) hwB (fun hHeld => ?_)
        refine wpAnyH_take (i := 0) (v := ?_) rfl (by kernel_rfl) (by kernel_rfl) (by kernel_rfl) (fun _ _ _ h => h) (Or.inl ⟨by rfl, ?_⟩) (by assumption) ?_
        rotate_left
        · intro W hW
          have z0 := below_cell hW y0
          have z1 := below_cell hW y1
          have z2 := below_cell hW y2
          have z3 := below_cell hW y3
          have z4 := below_cell hW y4
          have z5 := below_cell hW y5
          have z6 := below_cell hW y6
          go_simp
          try rfl
        simp only [List.getElem_toArray, List.getElem_cons_zero, Act.put, List.setIfInBounds_toArray, List.set_cons_zero, List.set_cons_succ]
        refine wpAnyH_ready (rs := [1]) (by kernel_rfl) (by simp) ?_
        refine AllReadyH.cons rfl (fun K hK => ?_) AllReadyH.nil
        go_simp
        refine (HRW.out _ hwB).mono ?_
        rintro d w3 ⟨b, rfl, hbi, hb3⟩
        refine hK.out _ _ (hwB.trans hb3) (fun hHeld => ?_)
        clear hK K
        try simp only [List.getElem_toArray, List.getElem_cons_succ, List.getElem_cons_zero, Act.put, List.setIfInBounds_toArray, List.set_cons_zero, List.set_cons_succ]
        have hw3 : Below w2.heap.size w2 w3 := hwB.trans hb3
        have HBI := hid hbi
        clear hb3 hHeld hbi
        cases b with
        | false =>
          refine wpAnyH_take (i := 2) (v := ?_) rfl (by kernel_rfl) (by kernel_rfl) (by kernel_rfl) (fun _ _ _ h => h) (Or.inl ⟨by rfl, ?_⟩) (by assumption) ?_
          rotate_left
          · intro W hW
            go_simp
            try rfl
          simp only [List.getElem_toArray, List.getElem_cons_succ, List.getElem_cons_zero, Act.put, List.setIfInBounds_toArray, List.set_cons_zero, List.set_cons_succ]
          refine wpAnyH_take (i := 3) (v := ?_) rfl (by kernel_rfl) (by kernel_rfl) (by kernel_rfl) (fun _ _ _ h => h) (Or.inl ⟨by rfl, ?_⟩) (by assumption) ?_
          rotate_left
          · intro W hW
            go_simp
            try rfl
          simp only [List.getElem_toArray, List.getElem_cons_succ, List.getElem_cons_zero, Act.put, List.setIfInBounds_toArray, List.set_cons_zero, List.set_cons_succ]
          refine wpAnyH_take (i := 4) (v := undef) rfl (by kernel_rfl) (by kernel_rfl) (by kernel_rfl) (fun _ _ _ h => h) (Or.inr ⟨by rfl, rfl⟩) (by assumption) ?_
          simp only [List.getElem_toArray, List.getElem_cons_succ, List.getElem_cons_zero, Act.put, List.setIfInBounds_toArray, List.set_cons_zero, List.set_cons_succ]
          refine wpAnyH_take (i := 5) (v := undef) rfl (by kernel_rfl) (by kernel_rfl) (by kernel_rfl) (fun _ _ _ h => h) (Or.inr ⟨by rfl, rfl⟩) (by assumption) ?_
          simp only [List.getElem_toArray, List.getElem_cons_succ, List.getElem_cons_zero, Act.put, List.setIfInBounds_toArray, List.set_cons_zero, List.set_cons_succ]
          refine wpAnyH_take (i := 6) (v := undef) rfl (by kernel_rfl) (by kernel_rfl) (by kernel_rfl) (fun _ _ _ h => h) (Or.inr ⟨by rfl, rfl⟩) (by assumption) ?_
          simp only [List.getElem_toArray, List.getElem_cons_succ, List.getElem_cons_zero, Act.put, List.setIfInBounds_toArray, List.set_cons_zero, List.set_cons_succ]
          refine wpAnyH_take (i := 7) (v := undef) rfl (by kernel_rfl) (by kernel_rfl) (by kernel_rfl) (fun _ _ _ h => h) (Or.inr ⟨by rfl, rfl⟩) (by assumption) ?_
          simp only [List.getElem_toArray, List.getElem_cons_succ, List.getElem_cons_zero, Act.put, List.setIfInBounds_toArray, List.set_cons_zero, List.set_cons_succ]
          refine wpAnyH_take (i := 8) (v := undef) rfl (by kernel_rfl) (by kernel_rfl) (by kernel_rfl) (fun _ _ _ h => h) (Or.inr ⟨by rfl, rfl⟩) (by assumption) ?_
          simp only [List.getElem_toArray, List.getElem_cons_succ, List.getElem_cons_zero, Act.put, List.setIfInBounds_toArray, List.set_cons_zero, List.set_cons_succ]
          refine wpAnyH_take (i := 9) (v := undef) rfl (by kernel_rfl) (by kernel_rfl) (by kernel_rfl) (fun _ _ _ h => h) (Or.inr ⟨by rfl, rfl⟩) (by assumption) ?_
          simp only [List.getElem_toArray, List.getElem_cons_succ, List.getElem_cons_zero, Act.put, List.setIfInBounds_toArray, List.set_cons_zero, List.set_cons_succ]
          refine wpAnyH_take (i := 10) (v := undef) rfl (by kernel_rfl) (by kernel_rfl) (by kernel_rfl) (fun _ _ _ h => h) (Or.inr ⟨by rfl, rfl⟩) (by assumption) ?_
          simp only [List.getElem_toArray, List.getElem_cons_succ, List.getElem_cons_zero, Act.put, List.setIfInBounds_toArray, List.set_cons_zero, List.set_cons_succ]
          refine wpAnyH_take (i := 11) (v := undef) rfl (by kernel_rfl) (by kernel_rfl) (by kernel_rfl) (fun _ _ _ h => h) (Or.inr ⟨by rfl, rfl⟩) (by assumption) ?_
          simp only [List.getElem_toArray, List.getElem_cons_succ, List.getElem_cons_zero, Act.put, List.setIfInBounds_toArray, List.set_cons_zero, List.set_cons_succ]
          refine wpAnyH_take (i := 12) (v := undef) rfl (by kernel_rfl) (by kernel_rfl) (by kernel_rfl) (fun _ _ _ h => h) (Or.inr ⟨by rfl, rfl⟩) (by assumption) ?_
          simp only [List.getElem_toArray, List.getElem_cons_succ, List.getElem_cons_zero, Act.put, List.setIfInBounds_toArray, List.set_cons_zero, List.set_cons_succ]
          refine wpAnyH_take (i := 13) (v := undef) rfl (by kernel_rfl) (by kernel_rfl) (by kernel_rfl) (fun _ _ _ h => h) (Or.inr ⟨by rfl, rfl⟩) (by assumption) ?_
          simp only [List.getElem_toArray, List.getElem_cons_succ, List.getElem_cons_zero, Act.put, List.setIfInBounds_toArray, List.set_cons_zero, List.set_cons_succ]
          refine wpAnyH_take (i := 14) (v := undef) rfl (by kernel_rfl) (by kernel_rfl) (by kernel_rfl) (fun _ _ _ h => h) (Or.inr ⟨by rfl, rfl⟩) (by assumption) ?_
          simp only [List.getElem_toArray, List.getElem_cons_succ, List.getElem_cons_zero, Act.put, List.setIfInBounds_toArray, List.set_cons_zero, List.set_cons_succ]
          refine wpAnyH_take (i := 15) (v := undef) rfl (by kernel_rfl) (by kernel_rfl) (by kernel_rfl) (fun _ _ _ h => h) (Or.inr ⟨by rfl, rfl⟩) (by assumption) ?_
          simp only [List.getElem_toArray, List.getElem_cons_succ, List.getElem_cons_zero, Act.put, List.setIfInBounds_toArray, List.set_cons_zero, List.set_cons_succ]
          refine wpAnyH_take (i := 16) (v := undef) rfl (by kernel_rfl) (by kernel_rfl) (by kernel_rfl) (fun _ _ _ h => h) (Or.inr ⟨by rfl, rfl⟩) (by assumption) ?_
          simp only [List.getElem_toArray, List.getElem_cons_succ, List.getElem_cons_zero, Act.put, List.setIfInBounds_toArray, List.set_cons_zero, List.set_cons_succ]
          refine wpAnyH_take (i := 17) (v := undef) rfl (by kernel_rfl) (by kernel_rfl) (by kernel_rfl) (fun _ _ _ h => h) (Or.inr ⟨by rfl, rfl⟩) (by assumption) ?_
          simp only [List.getElem_toArray, List.getElem_cons_succ, List.getElem_cons_zero, Act.put, List.setIfInBounds_toArray, List.set_cons_zero, List.set_cons_succ]
          refine wpAnyH_take (i := 18) (v := ?_) rfl (by kernel_rfl) (by kernel_rfl) (by kernel_rfl) (fun _ _ _ h => h) (Or.inl ⟨by rfl, ?_⟩) (by assumption) ?_
          rotate_left
          · intro W hW
            go_simp
            try rfl
          simp only [List.getElem_toArray, List.getElem_cons_succ, List.getElem_cons_zero, Act.put, List.setIfInBounds_toArray, List.set_cons_zero, List.set_cons_succ]
          refine wpAnyH_done (by kernel_rfl) ?_ _
          refine NoPanic.normal ?_
          have HX := hid (HNO.out w3 (HB.out.trans ((HBO.out.1.trans (hw3.mono HBO.out.1.size)).mono HB.out.size)) (fun h => Bool.false_ne_true (HBI.out.2 ((HR.out.1 h).1 i _ HXE.out).row)))
          go_wp2_with fail
          go_ret
          exact HX.out
        | true =>
          refine wpAnyH_take (i := 2) (v := ?_) rfl (by kernel_rfl) (by kernel_rfl) (by kernel_rfl) (fun _ _ _ h => h) (Or.inl ⟨by rfl, ?_⟩) (by assumption) ?_
          rotate_left
          · intro W hW
            go_simp
            try rfl
          simp only [List.getElem_toArray, List.getElem_cons_succ, List.getElem_cons_zero, Act.put, List.setIfInBounds_toArray, List.set_cons_zero, List.set_cons_succ]
          refine wpAnyH_take (i := 3) (v := ?_) rfl (by kernel_rfl) (by kernel_rfl) (by kernel_rfl) (fun _ _ _ h => h) (Or.inl ⟨by rfl, ?_⟩) (by assumption) ?_
          rotate_left
          · intro W hW
            go_simp
            try rfl
          simp only [List.getElem_toArray, List.getElem_cons_succ, List.getElem_cons_zero, Act.put, List.setIfInBounds_toArray, List.set_cons_zero, List.set_cons_succ]
          refine wpAnyH_take (i := 4) (v := ?_) rfl (by kernel_rfl) (by kernel_rfl) (by kernel_rfl) (fun _ _ _ h => h) (Or.inl ⟨by rfl, ?_⟩) (by assumption) ?_
          rotate_left
          · intro W hW
            go_simp
            try rfl
          simp only [List.getElem_toArray, List.getElem_cons_succ, List.getElem_cons_zero, Act.put, List.setIfInBounds_toArray, List.set_cons_zero, List.set_cons_succ]
          refine wpAnyH_take (i := 5) (v := ?_) rfl (by kernel_rfl) (by kernel_rfl) (by kernel_rfl) (fun _ _ _ h => h) (Or.inl ⟨by rfl, ?_⟩) (by assumption) ?_
          rotate_left
          · intro W hW
            go_simp
            try rfl
          simp only [List.getElem_toArray, List.getElem_cons_succ, List.getElem_cons_zero, Act.put, List.setIfInBounds_toArray, List.set_cons_zero, List.set_cons_succ]
          refine wpAnyH_take (i := 6) (v := ?_) rfl (by kernel_rfl) (by kernel_rfl) (by kernel_rfl) (fun _ _ _ h => h) (Or.inl ⟨by rfl, ?_⟩) (by assumption) ?_
          rotate_left
          · intro W hW
            go_simp
            try rfl
          simp only [List.getElem_toArray, List.getElem_cons_succ, List.getElem_cons_zero, Act.put, List.setIfInBounds_toArray, List.set_cons_zero, List.set_cons_succ]
          refine wpAnyH_take (i := 7) (v := undef) rfl (by kernel_rfl) (by kernel_rfl) (by kernel_rfl) (fun _ _ _ h => h) (Or.inr ⟨by rfl, rfl⟩) (by assumption) ?_
          simp only [List.getElem_toArray, List.getElem_cons_succ, List.getElem_cons_zero, Act.put, List.setIfInBounds_toArray, List.set_cons_zero, List.set_cons_succ]
          refine wpAnyH_take (i := 8) (v := undef) rfl (by kernel_rfl) (by kernel_rfl) (by kernel_rfl) (fun _ _ _ h => h) (Or.inr ⟨by rfl, rfl⟩) (by assumption) ?_
          simp only [List.getElem_toArray, List.getElem_cons_succ, List.getElem_cons_zero, Act.put, List.setIfInBounds_toArray, List.set_cons_zero, List.set_cons_succ]
          refine wpAnyH_take (i := 9) (v := undef) rfl (by kernel_rfl) (by kernel_rfl) (by kernel_rfl) (fun _ _ _ h => h) (Or.inr ⟨by rfl, rfl⟩) (by assumption) ?_
          simp only [List.getElem_toArray, List.getElem_cons_succ, List.getElem_cons_zero, Act.put, List.setIfInBounds_toArray, List.set_cons_zero, List.set_cons_succ]
          refine wpAnyH_take (i := 10) (v := undef) rfl (by kernel_rfl) (by kernel_rfl) (by kernel_rfl) (fun _ _ _ h => h) (Or.inr ⟨by rfl, rfl⟩) (by assumption) ?_
          simp only [List.getElem_toArray, List.getElem_cons_succ, List.getElem_cons_zero, Act.put, List.setIfInBounds_toArray, List.set_cons_zero, List.set_cons_succ]
          refine wpAnyH_take (i := 11) (v := undef) rfl (by kernel_rfl) (by kernel_rfl) (by kernel_rfl) (fun _ _ _ h => h) (Or.inr ⟨by rfl, rfl⟩) (by assumption) ?_
          simp only [List.getElem_toArray, List.getElem_cons_succ, List.getElem_cons_zero, Act.put, List.setIfInBounds_toArray, List.set_cons_zero, List.set_cons_succ]
          refine wpAnyH_take (i := 12) (v := undef) rfl (by kernel_rfl) (by kernel_rfl) (by kernel_rfl) (fun _ _ _ h => h) (Or.inr ⟨by rfl, rfl⟩) (by assumption) ?_
          simp only [List.getElem_toArray, List.getElem_cons_succ, List.getElem_cons_zero, Act.put, List.setIfInBounds_toArray, List.set_cons_zero, List.set_cons_succ]
          refine wpAnyH_take (i := 13) (v := undef) rfl (by kernel_rfl) (by kernel_rfl) (by kernel_rfl) (fun _ _ _ h => h) (Or.inr ⟨by rfl, rfl⟩) (by assumption) ?_
          simp only [List.getElem_toArray, List.getElem_cons_succ, List.getElem_cons_zero, Act.put, List.setIfInBounds_toArray, List.set_cons_zero, List.set_cons_succ]
          refine wpAnyH_take (i := 14) (v := undef) rfl (by kernel_rfl) (by kernel_rfl) (by kernel_rfl) (fun _ _ _ h => h) (Or.inr ⟨by rfl, rfl⟩) (by assumption) ?_
          simp only [List.getElem_toArray, List.getElem_cons_succ, List.getElem_cons_zero, Act.put, List.setIfInBounds_toArray, List.set_cons_zero, List.set_cons_succ]
          refine wpAnyH_take (i := 15) (v := undef) rfl (by kernel_rfl) (by kernel_rfl) (by kernel_rfl) (fun _ _ _ h => h) (Or.inr ⟨by rfl, rfl⟩) (by assumption) ?_
          simp only [List.getElem_toArray, List.getElem_cons_succ, List.getElem_cons_zero, Act.put, List.setIfInBounds_toArray, List.set_cons_zero, List.set_cons_succ]
          refine wpAnyH_take (i := 16) (v := undef) rfl (by kernel_rfl) (by kernel_rfl) (by kernel_rfl) (fun _ _ _ h => h) (Or.inr ⟨by rfl, rfl⟩) (by assumption) ?_
          simp only [List.getElem_toArray, List.getElem_cons_succ, List.getElem_cons_zero, Act.put, List.setIfInBounds_toArray, List.set_cons_zero, List.set_cons_succ]
          refine wpAnyH_take (i := 17) (v := ?_) rfl (by kernel_rfl) (by kernel_rfl) (by kernel_rfl) (fun _ _ _ h => h) (Or.inl ⟨by rfl, ?_⟩) (by assumption) ?_
          rotate_left
          · intro W hW
            go_simp
            try rfl
          simp only [List.getElem_toArray, List.getElem_cons_succ, List.getElem_cons_zero, Act.put, List.setIfInBounds_toArray, List.set_cons_zero, List.set_cons_succ]
          refine wpAnyH_take (i := 18) (v := ?_) rfl (by kernel_rfl) (by kernel_rfl) (by kernel_rfl) (fun _ _ _ h => h) (Or.inl ⟨by rfl, ?_⟩) (by assumption) ?_
          rotate_left
          · intro W hW
            go_simp
            try rfl
          simp only [List.getElem_toArray, List.getElem_cons_succ, List.getElem_cons_zero, Act.put, List.setIfInBounds_toArray, List.set_cons_zero, List.set_cons_succ]
          refine wpAnyH_done (by kernel_rfl) ?_ _
          refine NoPanic.normal ?_
          clear t8 t9 t10
          have HNM := hid (show ∀ y, 0 < i → l[i - 1]? = some y → nmLt y.nm x.nm = true from fun y h => by have := HZERO.out; omega)
          have HROW := hid (HBI.out.1 rfl)
          have HW3 := hid hw3
          clear hw3 hwB y0 y1 y2 y3 y4 q2
          have y5' : w3.cell? ⟨wo.heap.size, 5, none⟩ = some (.slice x.ea x.en.length x.ec) := below_cell HW3.out y5
          clear y5 y6
          obtain ⟨ea, hea⟩ : ∃ ea, ea = x.ea := ⟨_, rfl⟩
          obtain ⟨ec, hec⟩ : ∃ ec, ec = x.ec := ⟨_, rfl⟩
          obtain ⟨ne, hne⟩ : ∃ ne, ne = x.en.length := ⟨_, rfl⟩
          obtain ⟨es, hes⟩ : ∃ es, es = x.en.map Prod.fst := ⟨_, rfl⟩
          obtain ⟨Z, hZ⟩ : ∃ Z, Z = pgsR (l.drop (i + 1)) := ⟨_, rfl⟩
          rw [← hea, ← hec, ← hne] at y5'
          have HEN1 := hid (show Reads w1 45 5 ea ne (x.en.flatMap cellsN) by rw [hea, hne]; exact HX1.out.en)
          have hne2 : ne ≤ 256 := by rw [hne]; exact HX1.out.henl
          have HES := hid (And.intro hne hes)
          have HAC := hid (show pgsR l = acc ++ ((es.drop 0).flatMap En.ps ++ Z) ∧ acc.Nodup by
            refine ⟨?_, HST.out.2.1⟩
            rw [HST.out.1, List.drop_eq_getElem_cons (List.getElem?_eq_some_iff.1 HXE.out).1, (List.getElem?_eq_some_iff.1 HXE.out).2, hes, hZ]
            rfl)
          have HNEXT := hid (fun (ac : List Int) (h1 : pgsR l = ac ++ ((es.drop ne).flatMap En.ps ++ Z)) (h2 : ac.Nodup) => (show pgsR l = ac ++ pgsR (l.drop (i + 1)) ∧ ac.Nodup ∧ ∀ j x, j < i + 1 → l[j]? = some x → StepRw l j x from by
            refine ⟨?_, h2, ?_⟩
            · rw [h1, show es.drop ne = [] from List.drop_eq_nil_of_le (by rw [hes, List.length_map, hne]; exact Nat.le_refl _), hZ]; rfl
            · intro j y hj hy
              by_cases h : j < i
              · exact HST.out.2.2 j y h hy
              · obtain rfl : j = i := by omega
                have h3 := HXE.out.symm.trans hy
                injection h3 with h3
                subst h3
                exact ⟨HROW.out, HNM.out⟩))
          have HOW3 := hid (show Below w1.heap.size w1 w3 ∧ w3.ownsRow w1.heap.size 3 1 (.slice C acc.length f) acc.length (acc.map (Value.int .i64)) from ⟨HBO.out.1.trans (HW3.out.mono HBO.out.1.size), own_below HBO.out.2 HW3.out⟩)
          clear hea hec hne hes hZ
          go_wp2_with fail
          clear y5'
          go_loopw [3, 40] (fun u3 u40 wr => ∃ (k : Nat) (ac : List Int) (C' : Option Addr) (f' : Nat), k ≤ ne ∧ u40 = .int .i64 (k : Nat) ∧ u3 = .slice C' ac.length f' ∧ Hid (Below w1.heap.size w1 wr ∧ wr.ownsRow w1.heap.size 3 1 (.slice C' ac.length f') ac.length (ac.map (Value.int .i64))) ∧ Hid (pgsR l = ac ++ ((es.drop k).flatMap En.ps ++ Z) ∧ ac.Nodup)) (fun _ u40 _ => ne - (intOf u40).toNat)
          case atStart => exact ⟨0, acc, C, f, Nat.zero_le _, rfl, rfl, HOW3, HAC⟩
          case round =>
            obtain ⟨k, ac, C', f', hk, rfl, rfl, hbk, hak⟩ := hrel
            obtain ⟨wk, rfl⟩ : ∃ wk : World, wk = wr := ⟨_, rfl⟩
            by_cases hkn : k < ne
            · obtain ⟨a2, e, rfl, he, hel, d0, d1, d2, d3, d4⟩ := en_at (HEN1.out.below hbk.out.1) hkn
              have hrp := HX1.out.ens e (List.mem_of_getElem? he)
              have hpl := HX1.out.pgl e (List.mem_of_getElem? he)
              have hee : es[k]? = some e.1 := by rw [HES.out.2, List.getElem?_map, he]; rfl
              have hdp : es.drop k = e.1 :: es.drop (k + 1) := by rw [List.drop_eq_getElem_cons (List.getElem?_eq_some_iff.1 hee).1, (List.getElem?_eq_some_iff.1 hee).2]
              have hak2 := hak.out
              rw [hdp, List.flatMap_cons, List.append_assoc] at hak2
              obtain ⟨⟨ef, el, ect, eb, ps⟩, pA, pC⟩ := e
              obtain ⟨np, hnp⟩ : ∃ np, np = ps.length := ⟨_, rfl⟩
              simp only at d0 d1 d2 d3 d4 hrp hpl hak2
              rw [← hnp] at d3 hrp hpl
              obtain ⟨Z2, hZ2⟩ : ∃ Z2, Z2 = (es.drop (k + 1)).flatMap En.ps ++ Z := ⟨_, rfl⟩
              rw [← hZ2] at hak2
              have HZ2 := hid hZ2
              have HRP := hid hrp
              have HNP := hid hnp
              have HA2 := hid (show pgsR l = ac ++ (ps.drop 0 ++ Z2) ∧ ac.Nodup from hak2)
              have HB2 := hid (show Below w1.heap.size w1 (wk.alloc (.cells (aE ef el ect (.slice pA np pC) eb) 45)) ∧ (wk.alloc (.cells (aE ef el ect (.slice pA np pC) eb) 45)).ownsRow w1.heap.size 3 1 (.slice C' ac.length f') ac.length (ac.map (Value.int .i64)) from ⟨hbk.out.1.alloc hbk.out.1.size _, hbk.out.2.alloc _⟩)
              have e3 : (wk.alloc (.cells (aE ef el ect (.slice pA np pC) eb) 45)).cell? ⟨wk.heap.size, 3, none⟩ = some (.slice pA np pC) := (Blk.new wk 45 (aE ef el ect (.slice pA np pC) eb)).cell 3
              have hkI : (k : Int) < (ne : Int) := by omega
              have hk0 : (0 : Int) ≤ (k : Int) := by omega
              clear he hel hrp hee hdp hak2 hak hbk hnp hZ2
              go_wp2_with fail
              clear d0 d1 d2 d3 d4 e3
              go_loopw [3, 47] (fun u3 u47 wr => ∃ (r : Nat) (a3 : List Int) (C3 : Option Addr) (f3 : Nat), r ≤ np ∧ u47 = .int .i64 (r : Nat) ∧ u3 = .slice C3 a3.length f3 ∧ Hid (Below w1.heap.size w1 wr ∧ wr.ownsRow w1.heap.size 3 1 (.slice C3 a3.length f3) a3.length (a3.map (Value.int .i64))) ∧ Hid (pgsR l = a3 ++ (ps.drop r ++ Z2) ∧ a3.Nodup)) (fun _ u47 _ => np - (intOf u47).toNat)
              case atStart => exact ⟨0, ac, C', f', Nat.zero_le _, rfl, rfl, HB2, HA2⟩
              case round =>
                obtain ⟨r, a3, C3, f3, hr, rfl, rfl, hbr, har⟩ := hrel
                by_cases hrn : r < np
                · obtain ⟨pd, rfl, cx⟩ := ints_at (HRP.out.below hbr.out.1) hrn
                  have hkl : r < ps.length := by have := HNP.out; omega
                  have hge : ps.getD r 0 = ps[r] := by rw [List.getD_eq_getElem?_getD, List.getElem?_eq_getElem hkl]; rfl
                  have hdp : ps.drop r = ps.getD r 0 :: ps.drop (r + 1) := by rw [List.drop_eq_getElem_cons hkl, hge]
                  have har2 := har.out
                  rw [hdp] at har2
                  generalize ps.getD r 0 = p at *
                  have hal : a3.length ≤ 1200000 := by
                    have := congrArg List.length har2.1
                    rw [List.length_append] at this
                    omega
                  have HHAS := hid (has_d C3 a3.length f3 a3 p wr (Reads.of_own hbr.out.2) (by omega))
                  obtain ⟨bh, hbh⟩ : ∃ bh, bh = decide (p ∈ a3) := ⟨_, rfl⟩
                  rw [← hbh] at HHAS
                  have HBH := hid hbh
                  have HAR := hid (show pgsR l = a3 ++ (p :: (ps.drop (r + 1) ++ Z2)) ∧ a3.Nodup from har2)
                  have HBR := hid hbr.out
                  have hrI : (r : Int) < (np : Int) := by omega
                  have hr0 : (0 : Int) ≤ (r : Int) := by omega
                  clear hkl hge hdp har2 har hbr hbh
                  go_wp2_with fail
                  refine HHAS.out.mono ?_
                  rintro d w6 ⟨rfl, rfl⟩
                  cases bh with
                  | true =>
                    have HX := hid (HNO.out _ (HB.out.trans (HBR.out.1.mono HB.out.size)) (fun h => not_nodup HAR.out.1 (by simpa using HBH.out.symm) (HR.out.1 h).2.1))
                    clear HBH cx
                    go_wp2_with fail
                    go_ret
                    exact HX.out
                  | false =>
                    have HNI := hid (show p ∉ a3 by simpa using HBH.out.symm)
                    have hnw := new_reads wr 3 1 [.int .i64 p] rfl
                    have hoA := HBR.out.2.alloc (.cells #[.int .i64 p] 3)
                    have hsz := HBR.out.1.size
                    clear HBH
                    go_wp2_with (at_builtin; refine wpList_append_any _ rfl (.tmp 54) (.tmp 56) 43 rfl w1.heap.size 3 i0 (.int .i64 0) 1 8 Try.underlying43 HI.out.1 HI.out.2.1 HI.out.2.2.1 HI.out.2.2.2 rfl (by decide) _ a3.length (a3.map (Value.int .i64)) rfl hoA (some ⟨wr.heap.size, 0, none⟩) 1 1 [.int .i64 p] rfl hnw (by intro u hu; rw [List.mem_singleton] at hu; subst hu; rfl) (by simp only [maxLen]; omega) (by omega) (by simp; omega) ?_; intro v' w9 hown' hgr' hv'; obtain ⟨C9, f9, hvf, _, _⟩ := own_form hown'; subst hvf; replace hgr' : (wr.alloc (.cells #[.int .i64 p] 3)).grownBy w9 (Value.slice C3 a3.length f3).ownBlock := hgr'; clear hv')
                    have hnx : (a3 ++ [p]).length = a3.length + 1 := by simp
                    have hcl : a3.map (Value.int .i64) ++ [.int .i64 p] = (a3 ++ [p]).map (Value.int .i64) := by simp
                    rw [hcl, ← hnx] at hown'
                    rw [← hnx]
                    have hbA := HBR.out.1.alloc HBR.out.1.size (.cells #[.int .i64 p] 3)
                    have HX1' := hid (show Below w1.heap.size w1 w9 ∧ w9.ownsRow w1.heap.size 3 1 (.slice C9 (a3 ++ [p]).length f9) (a3 ++ [p]).length ((a3 ++ [p]).map (Value.int .i64)) from ⟨hbA.grown hgr' hbA.size (fun b hb => (hoA.lt b hb).1), hown'⟩)
                    have HX2' := hid (show pgsR l = (a3 ++ [p]) ++ (ps.drop (r + 1) ++ Z2) ∧ (a3 ++ [p]).Nodup from ⟨by rw [HAR.out.1, List.append_assoc]; rfl, nodup_snoc.2 ⟨HAR.out.2, HNI.out⟩⟩)
                    clear hown' hgr' hnx hcl hbA hoA hnw hsz HAR HBR HNI HHAS cx
                    generalize a3 ++ [p] = a4 at *
                    go_wp2_with fail
                    go_roundw
                    case rel => exact ⟨r + 1, a4, C9, f9, by omega, by go_num, rfl, HX1', HX2'⟩
                    case measure => simp [intOf]; omega
                · obtain rfl : r = np := by omega
                  have HX1' := hid hbr.out
                  have HX2' := hid (show pgsR l = a3 ++ ((es.drop (k + 1)).flatMap En.ps ++ Z) ∧ a3.Nodup from ⟨by rw [har.out.1, show ps.drop r = [] from List.drop_eq_nil_of_le (by rw [← HNP.out]; exact Nat.le_refl _), HZ2.out]; rfl, har.out.2⟩)
                  clear hrn hbr har
                  go_wp2_with fail
                  go_roundw
                  case rel => exact ⟨k + 1, a3, C3, f3, by omega, by go_num, rfl, HX1', HX2'⟩
                  case measure => simp [intOf]; omega
            · obtain rfl : k = ne := by omega
              have HX1' := hid hbk.out
              have HX2' := hid (HNEXT.out ac hak.out.1 hak.out.2)
              clear hkn hbk hak
              go_wp2_with fail
              go_roundw
              case rel => exact ⟨i + 1, ac, C', f', by omega, by go_num, rfl, HX1', HX2'⟩
              case measure => simp [intOf]; omega
    · obtain rfl : i = n := by omega
      have hll : l.length = i := by rw [HL.out.1, List.length_map, HL.out.2]
      have HB' := hid (HB.out.trans (hbo.out.1.mono HB.out.size))
      have HQ := hid (show R ↔ l.length ≤ 8 by
        have h1 := hst.out.1
        rw [show l.drop i = [] from List.drop_eq_nil_of_le (by omega), show pgsR ([] : List Ro) = [] from rfl, List.append_nil] at h1
        rw [HR.out]
        exact ⟨fun h => h.2.2, fun h => ⟨fun j x hj => hst.out.2.2 j x (by have := (List.getElem?_eq_some_iff.1 hj).1; omega) hj, by rw [h1]; exact hst.out.2.1, h⟩⟩)
      rw [hll] at HQ
      clear hst hbo hll hlt
      by_cases h8 : (i : Int) ≤ 8
      · have HX := hid (HYES.out _ HB'.out (HQ.out.2 (by omega)))
        go_wp2_with fail
        go_ret
        exact HX.out
      · have HX := hid (HNO.out _ HB'.out (fun h => by have := HQ.out.1 h; omega))
        go_wp2_with fail
        go_ret
        exact HX.out
end Go.Proofs.Ytgdnpmjmkcccoaa
