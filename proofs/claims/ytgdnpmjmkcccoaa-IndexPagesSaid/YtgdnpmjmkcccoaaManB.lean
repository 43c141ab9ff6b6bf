/- Manifest: rows; contracts of between, open, index.Check, row. -/
import Derived.Test.YtgdnpmjmkcccoaaManA
import Derived.Test.YtgdnpmjmkcccoaaIdxC
namespace Go.Proofs.Ytgdnpmjmkcccoaa
open Go.RowKit Go.Shelf VB
open Go.Lib (hid)
set_option linter.unusedVariables false
set_option linter.unusedSimpArgs false
def betB (n lo hi : Int) : Bool := decide (lo ≤ n) && decide (n ≤ hi)
set_option maxHeartbeats 400000 in
theorem between_c (n lo hi : Int) (w : World) : Calls Try.prog 77 #[.int .i64 n, .int .i64 lo, .int .i64 hi] w fun e w' => e = .returned (.bool (betB n lo hi)) ∧ w = w' := by
  unfold betB
  by_cases h1 : lo ≤ n <;> by_cases h2 : n ≤ hi <;> simp only [h1, h2, decide_true, decide_false, Bool.and_true, Bool.and_false]
  all_goals
    go_enter Try.func77, Try.ntmps77
    go_wp2
    go_ret
    exact ⟨rfl, rfl⟩
/-- may points be open, behind a time, and from a floor on? -/
def openL : List (Int × Int) → Int → Int → Bool
  | [], _, _ => true
  | p :: l, b, fl => decide (b < p.1) && (betB p.1 fl 281474976710656 && (betB p.2 (-2305843009213693952) 2305843009213693952 && openL l p.1 fl))
def openB (l : List (Int × Int)) (b fl : Int) : Bool := decide (l.length < 32) && openL l b fl
def behP (l : List (Int × Int)) (b : Int) (k : Nat) : Int := if k = 0 then b else (l.getD (k - 1) (0, 0)).1
set_option maxRecDepth 100000 in
set_option maxHeartbeats 1000000 in
theorem open_c {e1 : TypeId} (A : Option Addr) (n c : Nat) (l : List (Int × Int)) (b fl : Int) (w : World) (h : Reads w e1 2 A n (l.flatMap cellsP)) (hn : n ≤ 100000) :
    Calls Try.prog 78 #[.slice A n c, .int .i64 b, .int .i64 fl] w fun e w' => e = .returned (.bool (openB l b fl)) ∧ Below w.heap.size w w' := by
  have hl := pts_len h
  obtain ⟨r, hr⟩ : ∃ r, r = openB l b fl := ⟨_, rfl⟩
  rw [← hr]
  have HR := hid (show r = (decide ((n : Int) < 32) && openL l b fl) by rw [hr]; unfold openB; rw [hl]; congr 1; exact decide_eq_decide.2 (by omega))
  have HH := hid h
  have HL := hid hl
  clear h hl hr
  obtain ⟨o0, ho0⟩ : ∃ o0, o0 = decide ((n : Int) < 32) := ⟨_, rfl⟩
  rw [← ho0] at HR
  have ho0' := ho0.symm
  clear ho0
  go_enter Try.func78, Try.ntmps78
  go_wp2_with fail
  go_loopw [1, 7, 15] (fun u1 u7 u15 wr => ∃ (k : Nat) (o : Bool), k ≤ n ∧ u15 = .int .i64 (k : Nat) ∧ u1 = .int .i64 (behP l b k) ∧ u7 = .bool o ∧ Below w.heap.size w wr ∧ Hid (r = (o && openL (l.drop k) (behP l b k) fl))) (fun _ _ u15 _ => n - (intOf u15).toNat)
  case atStart => exact ⟨0, o0, Nat.zero_le _, rfl, rfl, rfl, Below.refl _ _, HR⟩
  case round =>
    obtain ⟨k, o, hk, rfl, rfl, rfl, hb, hrl⟩ := hrel
    by_cases hlt : k < n
    · obtain ⟨ad, rfl, c0, c1⟩ := pts_at (HH.out.below hb) hlt
      replace c1 : wr.cell? ⟨(ad.add (k * 2)).block, (ad.add (k * 2)).off + 1, none⟩ = _ := c1
      obtain ⟨bb, hbb⟩ : ∃ bb, bb = behP l b k := ⟨_, rfl⟩
      rw [← hbb] at hrl ⊢
      have hdr : l.drop k = (l.getD k (0, 0)) :: l.drop (k + 1) := by
        rw [List.drop_eq_getElem_cons (by rw [HL.out]; exact hlt), List.getD_eq_getElem?_getD, List.getElem?_eq_getElem (by rw [HL.out]; exact hlt)]; rfl
      have hb1 : behP l b (k + 1) = (l.getD k (0, 0)).1 := by unfold behP; rw [if_neg (by omega), Nat.add_sub_cancel]
      rw [hdr] at hrl
      generalize l.getD k (0, 0) = q at *
      obtain ⟨T, V⟩ := q
      simp only at c0 c1 hb1
      have HB1 := hid hb1
      have HBN := hid (hb.alloc hb.size (.cells #[.int .i64 T, .int .i64 V] 47))
      have HRL := hid (show r = (o && (decide (bb < T) && (betB T fl 281474976710656 && (betB V (-2305843009213693952) 2305843009213693952 && openL (l.drop (k + 1)) T fl)))) from hrl.out)
      have HG := hid (fun (o' : Bool) (h : r = (o' && openL (l.drop (k + 1)) T fl)) => (show r = (o' && openL (l.drop (k + 1)) (behP l b (k + 1)) fl) by rw [HB1.out]; exact h))
      have hltI : (k : Int) < (n : Int) := by omega
      have h0I : (0 : Int) ≤ (k : Int) := by omega
      clear hdr hb1 hrl hb hbb
      cases o with
      | false =>
        have HN := hid (HG.out false (by rw [HRL.out]; rfl))
        go_wp2_with fail
        go_roundw
        case rel => exact ⟨k + 1, false, by omega, by go_num, by rw [HB1.out], rfl, HBN.out, HN⟩
        case measure => simp [intOf]; omega
      | true =>
        by_cases h1 : bb < T
        · cases h2 : betB T fl 281474976710656 with
          | false =>
            have HN := hid (HG.out false (by rw [HRL.out, decide_eq_true h1, h2]; rfl))
            have H2 := hid h2
            clear h2
            go_wp2_with fail
            refine (between_c _ _ _ _).mono ?_
            rintro e w2 ⟨rfl, rfl⟩
            rw [H2.out]
            go_wp2_with fail
            go_roundw
            case rel => exact ⟨k + 1, false, by omega, by go_num, by rw [HB1.out], rfl, HBN.out, HN⟩
            case measure => simp [intOf]; omega
          | true =>
            have HN := hid (HG.out (betB V (-2305843009213693952) 2305843009213693952) (by rw [HRL.out, decide_eq_true h1, h2]; rfl))
            have H2 := hid h2
            clear h2
            go_wp2_with fail
            refine (between_c _ _ _ _).mono ?_
            rintro e w2 ⟨rfl, rfl⟩
            rw [H2.out]
            go_wp2_with fail
            refine (between_c _ _ _ _).mono ?_
            rintro e w2 ⟨rfl, rfl⟩
            go_wp2_with fail
            go_roundw
            case rel => exact ⟨k + 1, _, by omega, by go_num, by rw [HB1.out], rfl, HBN.out, HN⟩
            case measure => simp [intOf]; omega
        · have HN := hid (HG.out false (by rw [HRL.out, decide_eq_false h1]; rfl))
          have h1' : T ≤ bb := by omega
          clear h1
          go_wp2_with fail
          go_roundw
          case rel => exact ⟨k + 1, false, by omega, by go_num, by rw [HB1.out], rfl, HBN.out, HN⟩
          case measure => simp [intOf]; omega
    · obtain rfl : k = n := by omega
      have HF := hid (show o = r ∧ Below w.heap.size w wr from ⟨by
        have h := hrl.out
        rw [List.drop_of_length_le (by rw [HL.out]; exact Nat.le_refl _)] at h
        rw [h, show openL [] (behP l b k) fl = true from rfl, Bool.and_true], hb⟩)
      clear hrl hb hlt
      go_wp2_with fail
      go_ret
      exact ⟨ret_b HF.out.1, HF.out.2⟩
/-- what index.Check answers -/
def ixE (l : List En) : Int := if mayB l [] none = true then 0 else 311
set_option maxHeartbeats 400000 in
theorem ixCheck_c {e1 : TypeId} {w : World} {A : Option Addr} {n c : Nat} {l : List EnA} (hl : Reads w e1 5 A n (l.flatMap cellsN)) (hin : EnsIn w l) (hn : n ≤ 100000) (hs : (l.flatMap (fun x => x.1.ps)).length ≤ 900000) :
    Calls Try.prog 30 #[.slice A n c] w fun e w' => e = .returned (.int .i64 (ixE (l.map Prod.fst))) ∧ Below w.heap.size w w' := by
  have HM := hid (may_c (c := c) hl hin hn hs)
  clear hl hin hs
  unfold ixE
  cases hb : mayB (l.map Prod.fst) [] none with
  | true =>
    rw [hb] at HM
    clear hb
    go_enter Try.func30, Try.ntmps30
    go_wp2_with fail
    refine HM.out.mono ?_
    rintro e w1 ⟨rfl, hb⟩
    go_wp2_with fail
    go_ret
    exact ⟨rfl, hb⟩
  | false =>
    rw [hb] at HM
    clear hb
    go_enter Try.func30, Try.ntmps30
    go_wp2_with fail
    refine HM.out.mono ?_
    rintro e w1 ⟨rfl, hb⟩
    go_wp2_with fail
    go_ret
    exact ⟨rfl, hb⟩
/-- a row of a manifest -/
structure Ro where
  nm : ByteArray
  ep : Int
  fl : Int
  la : Int
  sc : Int
  en : List En
  op : List (Int × Int)
/-- a row of a manifest, and where its parts lie -/
structure RoA where
  nm : ByteArray
  ep : Int
  fl : Int
  la : Int
  sc : Int
  en : List EnA
  ea : Option Addr
  ec : Nat
  op : List (Int × Int)
  oa : Option Addr
  oc : Nat
def RoA.d (x : RoA) : Ro := ⟨x.nm, x.ep, x.fl, x.la, x.sc, x.en.map Prod.fst, x.op⟩
def cellsR (x : RoA) : List Value := [.string x.nm, .int .i64 x.ep, .int .i64 x.fl, .int .i64 x.la, .int .i64 x.sc, .slice x.ea x.en.length x.ec, .slice x.oa x.op.length x.oc]
theorem cellsR_len (x : RoA) : (cellsR x).length = 7 := rfl
abbrev aR (nm : ByteArray) (ep fl la sc : Int) (E O : Value) : Array Value := #[.string nm, .int .i64 ep, .int .i64 fl, .int .i64 la, .int .i64 sc, E, O]
abbrev vR (x : RoA) : Value := .agg (aR x.nm x.ep x.fl x.la x.sc (.slice x.ea x.en.length x.ec) (.slice x.oa x.op.length x.oc))
/-- all pages of entries -/
abbrev pgsA (l : List EnA) : List Int := l.flatMap (fun x => x.1.ps)
structure RoIn (w : World) (x : RoA) : Prop where
  en : ∃ e, Reads w e 5 x.ea x.en.length (x.en.flatMap cellsN)
  ens : EnsIn w x.en
  op : ∃ e, Reads w e 2 x.oa x.op.length (x.op.flatMap cellsP)
  henl : x.en.length ≤ 50000
  hpgs : (pgsA x.en).length ≤ 70000
  hopl : x.op.length ≤ 50000
  hnm : x.nm.size ≤ 1000
  hfs : ∀ e ∈ x.en, e.1.fs ≤ 9223372036854775807
theorem RoIn.below {w w' : World} {x : RoA} (h : RoIn w x) (hb : Below w.heap.size w w') : RoIn w' x :=
  ⟨h.en.elim fun e k => ⟨e, k.below hb⟩, h.ens.below hb, h.op.elim fun e k => ⟨e, k.below hb⟩, h.henl, h.hpgs, h.hopl, h.hnm, h.hfs⟩
/-- the last time of entries; -1 where there is none -/
def lstE (l : List En) : Int := ((l.getLast?).map En.ls).getD (-1)
def lstP (l : List (Int × Int)) (b : Int) : Int := ((l.getLast?).map Prod.fst).getD b
def floorB (fl : Int) (l : List En) : Bool := l.all fun e => decide (fl ≤ e.ls)
def tailB (x : Ro) : Bool := openB x.op (lstE x.en) x.fl && (decide (lstP x.op (lstE x.en) < 0) || decide (lstP x.op (lstE x.en) = x.la))
/-- may a row be? -/
def rowOk (x : Ro) : Bool := nameB x.nm && (betB x.ep 0 1099511627776 && (betB x.sc (-40) 40 && (betB x.fl 0 281474976710656 && (betB x.la (-1) 281474976710656 && (mayB x.en [] none && (floorB x.fl x.en && tailB x))))))
theorem lstE_snoc (l : List En) (x : En) : lstE (l ++ [x]) = x.ls := by simp [lstE]
theorem Blk.seven {w : World} {g : Nat} {t : TypeId} {a b c d e f h : Value} (k : Blk w g t #[a, b, c, d, e, f, h]) : w.cell? ⟨g, 0, none⟩ = some a ∧ w.cell? ⟨g, 1, none⟩ = some b ∧ w.cell? ⟨g, 2, none⟩ = some c ∧ w.cell? ⟨g, 3, none⟩ = some d ∧ w.cell? ⟨g, 4, none⟩ = some e ∧ w.cell? ⟨g, 5, none⟩ = some f ∧ w.cell? ⟨g, 6, none⟩ = some h :=
  ⟨k.cell 0, k.cell 1, k.cell 2, k.cell 3, k.cell 4, k.cell 5, k.cell 6⟩
set_option maxRecDepth 100000 in
set_option maxHeartbeats 4000000 in
theorem row_c (x : RoA) (w : World) (h : RoIn w x) :
    Calls Try.prog 41 #[vR x] w fun e w' => e = .returned (.bool (rowOk x.d)) ∧ Below w.heap.size w w' := by
  obtain ⟨nm, ep, fl, la, sc, en, ea, ec, op, oa, oc⟩ := x
  obtain ⟨⟨e1, hen⟩, hens, ⟨e2, hop⟩, h1, h2, h3, h4⟩ := h
  simp only at hen hens hop h1 h2 h3 h4
  obtain ⟨n, hn⟩ : ∃ n, n = en.length := ⟨_, rfl⟩
  obtain ⟨m, hm⟩ : ∃ m, m = op.length := ⟨_, rfl⟩
  show Calls _ _ #[.agg (aR nm ep fl la sc (.slice ea en.length ec) (.slice oa op.length oc))] _ _
  obtain ⟨r, hr⟩ : ∃ r, r = rowOk (RoA.d ⟨nm, ep, fl, la, sc, en, ea, ec, op, oa, oc⟩) := ⟨_, rfl⟩
  rw [← hr]
  rw [← hn] at hen h1 ⊢
  rw [← hm] at hop h3 ⊢
  obtain ⟨es, hes⟩ : ∃ es, es = en.map Prod.fst := ⟨_, rfl⟩
  obtain ⟨tl, htl⟩ : ∃ tl, tl = tailB ⟨nm, ep, fl, la, sc, es, op⟩ := ⟨_, rfl⟩
  have HR := hid (show r = (nameB nm && (betB ep 0 1099511627776 && (betB sc (-40) 40 && (betB fl 0 281474976710656 && (betB la (-1) 281474976710656 && (mayB es [] none && (floorB fl es && tl))))))) by rw [hr, htl, hes]; rfl)
  have HT := hid htl
  have HEN := hid hen
  have HENS := hid hens
  have HOP := hid hop
  have HES := hid (And.intro hes (And.intro hn hm))
  have HBX := hid (Blk.new w 42 (aR nm ep fl la sc (.slice ea n ec) (.slice oa m oc)))
  have HB0 := hid ((Below.refl w.heap.size w).alloc (Nat.le_refl _) (.cells (aR nm ep fl la sc (.slice ea n ec) (.slice oa m oc)) 42))
  have HIX := hid (fun w' (hb : Below w.heap.size w w') => ixCheck_c (c := ec) (hen.below hb) (hens.below hb) (by omega) (by unfold pgsA at h2; omega))
  clear hr htl hen hens hop hes hn hm h2 h4
  go_enter Try.func41, Try.ntmps41
  go_wp2_with fail
  refine (Name_c nm _).mono ?_
  rintro e w1 ⟨rfl, hb1⟩
  replace HBX := hid (HBX.out.under hb1)
  replace HB0 := hid (HB0.out.trans (hb1.mono HB0.out.size))
  clear hb1
  obtain ⟨c0, c1, c2, c3, c4, c5, c6⟩ := HBX.out.seven
  cases k0 : nameB nm with
  | false =>
    have HX := hid (show r = false by rw [HR.out, k0]; rfl)
    clear HR k0
    go_wp2_with fail
    go_ret
    exact ⟨ret_b HX.out.symm, HB0.out⟩
  | true =>
    have HR0 := hid (HR.out.trans (show _ = _ by rw [k0, Bool.true_and]))
    clear HR k0
    have HR := HR0
    clear HR0
    go_wp2_with fail
    refine (between_c _ _ _ _).mono ?_
    rintro e w2 ⟨rfl, rfl⟩
    cases k1 : betB ep 0 1099511627776 with
    | false =>
      have HX := hid (show r = false by rw [HR.out, k1]; rfl)
      clear HR k1
      go_wp2_with fail
      go_ret
      exact ⟨ret_b HX.out.symm, HB0.out⟩
    | true =>
      have HR1 := hid (HR.out.trans (show _ = _ by rw [k1, Bool.true_and]))
      clear HR k1
      have HR := HR1
      clear HR1
      go_wp2_with fail
      refine (between_c _ _ _ _).mono ?_
      rintro e w3 ⟨rfl, rfl⟩
      cases k2 : betB sc (-40) 40 with
      | false =>
        have HX := hid (show r = false by rw [HR.out, k2]; rfl)
        clear HR k2
        go_wp2_with fail
        go_ret
        exact ⟨ret_b HX.out.symm, HB0.out⟩
      | true =>
        have HR2 := hid (HR.out.trans (show _ = _ by rw [k2, Bool.true_and]))
        clear HR k2
        have HR := HR2
        clear HR2
        go_wp2_with fail
        refine (between_c _ _ _ _).mono ?_
        rintro e w4 ⟨rfl, rfl⟩
        cases k3 : betB fl 0 281474976710656 with
        | false =>
          have HX := hid (show r = false by rw [HR.out, k3]; rfl)
          clear HR k3
          go_wp2_with fail
          go_ret
          exact ⟨ret_b HX.out.symm, HB0.out⟩
        | true =>
          have HR3 := hid (HR.out.trans (show _ = _ by rw [k3, Bool.true_and]))
          clear HR k3
          have HR := HR3
          clear HR3
          go_wp2_with fail
          refine (between_c _ _ _ _).mono ?_
          rintro e w5 ⟨rfl, rfl⟩
          cases k4 : betB la (-1) 281474976710656 with
          | false =>
            have HX := hid (show r = false by rw [HR.out, k4]; rfl)
            clear HR k4
            go_wp2_with fail
            go_ret
            exact ⟨ret_b HX.out.symm, HB0.out⟩
          | true =>
            have HR4 := hid (HR.out.trans (show _ = _ by rw [k4, Bool.true_and]))
            clear HR k4
            have HR := HR4
            clear HR4
            go_wp2_with fail
            refine (HIX.out _ HB0.out).mono ?_
            rintro e w2 ⟨rfl, hb2⟩
            replace HBX := hid (HBX.out.under hb2)
            replace HB0 := hid (HB0.out.trans (hb2.mono HB0.out.size))
            clear hb2 c0 c1 c2 c3 c4 c5 c6 HIX
            obtain ⟨c0, c1, c2, c3, c4, c5, c6⟩ := HBX.out.seven
            unfold ixE
            rw [← HES.out.1]
            cases k5 : mayB es [] none with
            | false =>
              have HX := hid (show r = false by rw [HR.out, k5]; rfl)
              clear HR k5
              go_wp2_with fail
              go_ret
              exact ⟨ret_b HX.out.symm, HB0.out⟩
            | true =>
              have HR5 := hid (HR.out.trans (show _ = _ by rw [k5, Bool.true_and]))
              clear HR k5
              go_wp2_with fail
              have HB2 := hid (Below.refl w2.heap.size w2)
              go_loopw [3, 4, 42] (fun u3 u4 u42 wr => ∃ (k : Nat) (o : Bool), k ≤ n ∧ u42 = .int .i64 (k : Nat) ∧ u3 = .bool o ∧ u4 = .int .i64 (lstE (es.take k)) ∧ Below w2.heap.size w2 wr ∧ Hid (r = (o && (floorB fl (es.drop k) && tl)))) (fun _ _ u42 _ => n - (intOf u42).toNat)
              case atStart => exact ⟨0, true, Nat.zero_le _, rfl, rfl, rfl, Below.refl _ _, hid (by rw [HR5.out]; rfl)⟩
              case round =>
                obtain ⟨k, o, hk, rfl, rfl, rfl, hb, hrl⟩ := hrel
                have HBX3 := hid (HBX.out.under hb)
                have HB3 := hid (HB0.out.trans (hb.mono HB0.out.size))
                have hsz : w.heap.size < wr.heap.size := HBX3.out.lt
                have hsz2 : w.heap.size ≠ wr.heap.size := Nat.ne_of_lt hsz
                clear c0 c1 c2 c3 c4 c5 c6
                obtain ⟨c0, c1, c2, c3, c4, c5, c6⟩ := HBX3.out.seven
                by_cases hlt : k < n
                · obtain ⟨ad, x, rfl, hx, hxl, d0, d1, d2, d3, d4⟩ := en_at (HEN.out.below HB3.out) hlt
                  have hxe : es[k]? = some x.1 := by rw [HES.out.1, List.getElem?_map, hx]; rfl
                  have hkl : k < es.length := (List.getElem?_eq_some_iff.1 hxe).1
                  have hdr : es.drop k = x.1 :: es.drop (k + 1) := by
                    rw [List.drop_eq_getElem_cons hkl]
                    rw [(List.getElem?_eq_some_iff.1 hxe).2]
                  have htk : es.take (k + 1) = es.take k ++ [x.1] := by
                    rw [List.take_succ_eq_append_getElem hkl, (List.getElem?_eq_some_iff.1 hxe).2]
                  have HLS := hid (show x.1.ls = lstE (es.take (k + 1)) by rw [htk, lstE_snoc])
                  have HBN := hid (hb.alloc hb.size (.cells #[.int .i64 x.1.fs, .int .i64 x.1.ls, .int .i64 x.1.ct, .slice x.2.1 x.1.ps.length x.2.2, .int .i64 x.1.by_] 45))
                  have HRL := hid (show r = (o && ((decide (fl ≤ x.1.ls) && floorB fl (es.drop (k + 1))) && tl)) by rw [hrl.out, hdr]; rfl)
                  have hltI : (k : Int) < (n : Int) := by omega
                  have h0I : (0 : Int) ≤ (k : Int) := by omega
                  clear hdr htk hrl hb hxe hx hkl hxl HBX HB0 HOP HEN HENS HT
                  cases o with
                  | false =>
                    have HN := hid (show r = (false && (floorB fl (es.drop (k + 1)) && tl)) by rw [HRL.out]; rfl)
                    go_wp2_with fail
                    go_roundw
                    case rel => exact ⟨k + 1, false, by omega, by go_num, rfl, by rw [HLS.out], HBN.out, HN⟩
                    case measure => simp [intOf]; omega
                  | true =>
                    by_cases h1 : fl ≤ x.1.ls
                    · have HN := hid (show r = (true && (floorB fl (es.drop (k + 1)) && tl)) by rw [HRL.out, decide_eq_true h1]; simp)
                      go_wp2_with fail
                      go_roundw
                      case rel => exact ⟨k + 1, true, by omega, by go_num, rfl, by rw [HLS.out], HBN.out, HN⟩
                      case measure => simp [intOf]; omega
                    · have HN := hid (show r = (decide (fl ≤ x.1.ls) && (floorB fl (es.drop (k + 1)) && tl)) by rw [HRL.out, decide_eq_false h1]; simp)
                      have h1' : x.1.ls < fl := by omega
                      clear h1
                      go_wp2_with fail
                      go_roundw
                      case rel => exact ⟨k + 1, _, by omega, by go_num, rfl, by rw [HLS.out], HBN.out, HN⟩
                      case measure => simp [intOf]; omega
                · obtain rfl : k = n := by omega
                  have hel : es.length = k := by rw [HES.out.1, List.length_map, HES.out.2.1]
                  have HR6 := hid (show r = (o && tl) by rw [hrl.out, List.drop_of_length_le (Nat.le_of_eq hel)]; rfl)
                  rw [List.take_of_length_le (Nat.le_of_eq hel)]
                  obtain ⟨ls, hls⟩ : ∃ ls, ls = lstE es := ⟨_, rfl⟩
                  rw [← hls]
                  have HT2 := hid (show tl = (openB op ls fl && (decide (lstP op ls < 0) || decide (lstP op ls = la))) by rw [HT.out, hls]; rfl)
                  have HOPC := hid (open_c oa m oc op ls fl wr (HOP.out.below HB3.out) (by omega))
                  have HPT := hid (fun (j : Nat) (hj : m = j + 1) W (hb : Below wr.heap.size wr W) => pts_at ((HOP.out.below HB3.out).below hb) (show j < m by omega))
                  have HPL := hid (fun (j : Nat) (hj : m = j + 1) => (show lstP op ls = (op.getD j (0, 0)).1 by
                    have hj2 : op.length = j + 1 := by rw [← HES.out.2.2]; exact hj
                    unfold lstP
                    rw [List.getLast?_eq_getElem?, List.getD_eq_getElem?_getD, hj2, Nat.add_sub_cancel, List.getElem?_eq_getElem (by omega)]
                    rfl))
                  have HP0 := hid (fun (hj : m = 0) => (show lstP op ls = ls by
                    have hj2 : op = [] := List.eq_nil_of_length_eq_zero (by rw [← HES.out.2.2]; exact hj)
                    rw [hj2]; rfl))
                  clear hrl hb hls HOP HEN HENS HT HR5 HBX HB0 hel
                  cases o with
                  | false =>
                    have HX := hid (show r = false by rw [HR6.out]; rfl)
                    rcases Nat.eq_zero_or_pos m with hm0 | hm0
                    · have hmI : ¬ (0 : Int) < (m : Int) := by omega
                      go_wp2_with fail
                      go_ret
                      exact ⟨ret_b HX.out.symm, HB3.out⟩
                    · obtain ⟨j, rfl⟩ : ∃ j, m = j + 1 := ⟨m - 1, by omega⟩
                      obtain ⟨pd, rfl, p0, p1⟩ := HPT.out j rfl wr (Below.refl _ _)
                      have hj0 : (0 : Int) ≤ (j : Int) := by omega
                      have hj1 : (j : Int) < ((j + 1 : Nat) : Int) := by omega
                      have hj2 : wrap64 (((j + 1 : Nat) : Int) - 1) = (j : Int) := by unfold wrap64; omega
                      have hmI : (0 : Int) < ((j + 1 : Nat) : Int) := by omega
                      go_wp2_with fail
                      go_ret
                      exact ⟨ret_b HX.out.symm, HB3.out⟩
                  | true =>
                    go_wp2_with fail
                    refine HOPC.out.mono ?_
                    rintro e w5 ⟨rfl, hb5⟩
                    have HBX5 := hid (HBX3.out.under hb5)
                    have HB5 := hid (HB3.out.trans (hb5.mono HB3.out.size))
                    have HB5' := hid hb5
                    clear c0 c1 c2 c3 c4 c5 c6 hb5 HOPC HB3
                    obtain ⟨c0, c1, c2, c3, c4, c5, c6⟩ := HBX5.out.seven
                    cases ho : openB op ls fl with
                    | false =>
                      have HX := hid (show r = false by rw [HR6.out, HT2.out, ho]; rfl)
                      clear ho
                      rcases Nat.eq_zero_or_pos m with hm0 | hm0
                      · have hmI : ¬ (0 : Int) < (m : Int) := by omega
                        go_wp2_with fail
                        go_ret
                        exact ⟨ret_b HX.out.symm, HB5.out⟩
                      · obtain ⟨j, rfl⟩ : ∃ j, m = j + 1 := ⟨m - 1, by omega⟩
                        obtain ⟨pd, rfl, p0, p1⟩ := HPT.out j rfl w5 HB5'.out
                        have hj0 : (0 : Int) ≤ (j : Int) := by omega
                        have hj1 : (j : Int) < ((j + 1 : Nat) : Int) := by omega
                        have hj2 : wrap64 (((j + 1 : Nat) : Int) - 1) = (j : Int) := by unfold wrap64; omega
                        have hmI : (0 : Int) < ((j + 1 : Nat) : Int) := by omega
                        go_wp2_with fail
                        go_ret
                        exact ⟨ret_b HX.out.symm, HB5.out⟩
                    | true =>
                      have HX := hid (fun lp (h : lstP op ls = lp) => (show r = (decide (lp < 0) || decide (lp = la)) by rw [HR6.out, HT2.out, ho, h]; rfl))
                      clear ho
                      rcases Nat.eq_zero_or_pos m with hm0 | hm0
                      · have hmI : ¬ (0 : Int) < (m : Int) := by omega
                        have HY := hid (HX.out ls (HP0.out hm0))
                        by_cases q1 : ls < 0
                        · have HZ := hid (show r = true by rw [HY.out, decide_eq_true q1]; rfl)
                          go_wp2_with fail
                          go_ret
                          exact ⟨ret_b HZ.out.symm, HB5.out⟩
                        · have HZ := hid (show r = (decide (ls < 0) || (ls == la)) by rw [HY.out]; rfl)
                          have q1' : 0 ≤ ls := by omega
                          clear q1
                          go_wp2_with fail
                          go_ret
                          exact ⟨ret_b HZ.out.symm, HB5.out⟩
                      · obtain ⟨j, rfl⟩ : ∃ j, m = j + 1 := ⟨m - 1, by omega⟩
                        obtain ⟨pd, rfl, p0, p1⟩ := HPT.out j rfl w5 HB5'.out
                        have HY := hid (HX.out _ (HPL.out j rfl))
                        generalize (op.getD j (0, 0)).1 = lp at *
                        have hj0 : (0 : Int) ≤ (j : Int) := by omega
                        have hj1 : (j : Int) < ((j + 1 : Nat) : Int) := by omega
                        have hj2 : wrap64 (((j + 1 : Nat) : Int) - 1) = (j : Int) := by unfold wrap64; omega
                        have hmI : (0 : Int) < ((j + 1 : Nat) : Int) := by omega
                        by_cases q1 : lp < 0
                        · have HZ := hid (show r = true by rw [HY.out, decide_eq_true q1]; rfl)
                          go_wp2_with fail
                          go_ret
                          exact ⟨ret_b HZ.out.symm, HB5.out⟩
                        · have HZ := hid (show r = (decide (lp < 0) || (lp == la)) by rw [HY.out]; rfl)
                          have q1' : 0 ≤ lp := by omega
                          clear q1
                          go_wp2_with fail
                          go_ret
                          exact ⟨ret_b HZ.out.symm, HB5.out⟩
end Go.Proofs.Ytgdnpmjmkcccoaa
