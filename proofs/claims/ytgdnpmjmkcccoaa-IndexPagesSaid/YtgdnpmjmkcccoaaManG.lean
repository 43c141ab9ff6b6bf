/- Manifest: Encode. -/
import Derived.Test.YtgdnpmjmkcccoaaManF
namespace Go.Proofs.Ytgdnpmjmkcccoaa
open Go.RowKit Go.Shelf VB
open Go.Lib (hid)
set_option linter.unusedVariables false
set_option linter.unusedSimpArgs false
def RetEnc (l : List Ro) (w : World) (e : Ending) (w' : World) : Prop :=
  if manOk l = true then ∃ C f, e = .returned (.tuple #[.slice C (manBy l).length f, .int .i64 0]) ∧ OwnY w.heap.size w' C f (manBy l) ∧ Below w.heap.size w w'
  else e = .returned (.tuple #[.slice none 0 0, .int .i64 320]) ∧ Below w.heap.size w w'
theorem ManIn.fs {w : World} {A : Option Addr} {n c : Nat} {l : List RoA} (h : ManIn w A n c l) : ∀ x ∈ l.map RoA.d, ∀ e ∈ x.en, e.fs ≤ 9223372036854775807 := by
  intro x hx e he
  obtain ⟨y, hy, rfl⟩ := List.mem_map.1 hx
  obtain ⟨z, hz, rfl⟩ := List.mem_map.1 he
  exact (h.each y hy).hfs z hz
set_option maxRecDepth 100000 in
set_option maxHeartbeats 2000000 in
theorem Encode_c (A : Option Addr) (n c : Nat) (rows : List RoA) (w : World) (h : ManIn w A n c rows) :
    Calls Try.prog 16 #[.agg #[.slice A n c]] w (RetEnc (rows.map RoA.d) w) := by
  obtain ⟨es, hes⟩ : ∃ es, es = rows.map RoA.d := ⟨_, rfl⟩
  have hfs := h.fs
  have HLN := hid h.len
  have hn := h.hn
  have HM := hid h
  have HB0 := hid ((Below.refl w.heap.size w).alloc (Nat.le_refl _) (.cells #[.slice A n c] 24))
  have K1 := hid (Blk.new w 24 #[.slice A n c])
  have HC := hid (Check_c A n c rows (w.alloc (.cells #[.slice A n c] 24)) (h.below ((Below.refl w.heap.size w).alloc (Nat.le_refl _) _)))
  rw [← hes] at hfs HC ⊢
  have HEN := hid (fun (v : Int) (h : manE es = v) => (show Calls Try.prog 13 #[.agg #[.slice A n c]] (w.alloc (.cells #[.slice A n c] 24)) (fun e w' => e = .returned (.int .i64 v) ∧ Below (w.alloc (.cells #[.slice A n c] 24)).heap.size (w.alloc (.cells #[.slice A n c] 24)) w') by rw [← h]; exact HC.out))
  have HES := hid hes
  have HFS := hid hfs
  clear h hes hfs
  clear HC
  cases hm : manOk es with
  | false =>
    have HC := hid (HEN.out 320 (by unfold manE; rw [if_neg (by simp [hm])]))
    have HF := hid (fun W (hb : Below w.heap.size w W) => (show RetEnc es w (.returned (.tuple #[.slice none 0 0, .int .i64 320])) W by unfold RetEnc; rw [if_neg (by simp [hm])]; exact ⟨rfl, hb⟩))
    clear hm HEN
    go_enter Try.func16, Try.ntmps16
    go_wp2_with fail
    refine HC.out.mono ?_
    rintro e w1 ⟨rfl, hb1⟩
    replace HB0 := hid (HB0.out.trans (hb1.mono (by simp)))
    clear hb1 HC
    go_wp2_with fail
    go_ret2
    exact HF.out _ HB0.out
  | true =>
    have HC := hid (HEN.out 0 (by unfold manE; rw [if_pos hm]))
    have HF := hid (fun W C f (ho : OwnY w.heap.size W C f (manBy es)) (hb : Below w.heap.size w W) => (show RetEnc es w (.returned (.tuple #[.slice C (manBy es).length f, .int .i64 0])) W by unfold RetEnc; rw [if_pos hm]; exact ⟨C, f, rfl, ho, hb⟩))
    have HOK := hid (manOk_of hm HFS.out)
    clear hm HEN
    go_enter Try.func16, Try.ntmps16
    go_wp2_with fail
    refine HC.out.mono ?_
    rintro e w1 ⟨rfl, hb1⟩
    replace K1 := hid (K1.out.under hb1)
    replace HB0 := hid (HB0.out.trans (hb1.mono (by simp)))
    clear hb1 HC
    have k0 : w1.cell? ⟨w.heap.size, 0, none⟩ = some (.slice A n c) := K1.out.cell 0
    have hwl : w.heap.size < w1.heap.size := K1.out.lt
    have HPL := hid (plainM_c none 0 0 [] (some ⟨w1.heap.size, 0, none⟩) 1 1 [((n : Nat) : Int)] (w1.alloc (.cells #[.int .i64 (n : Nat)] 2)) Reads.none_ (one_reads w1 2 _) (by omega) (by omega) (by intro z hz; rw [List.mem_singleton] at hz; rw [hz]; constructor <;> omega) (by omega))
    have HW1 := hid ((Below.refl w1.heap.size w1).alloc (Nat.le_refl _) (.cells #[.int .i64 (n : Nat)] 2))
    go_wp2_with fail
    refine HPL.out.mono ?_
    rintro e w2 ⟨C2, f2, rfl, hown2, hb2⟩
    have hb2' := HW1.out.trans (hb2.mono (by simp))
    have HST := hid (show OwnY w.heap.size w2 C2 f2 ([] ++ [((n : Nat) : Int)].flatMap vbI) ∧ Below w.heap.size w w2 from ⟨OwnY.low hown2 (by simp; omega), HB0.out.trans (hb2'.mono (by omega))⟩)
    have HT := hid (show manBy es = ([] ++ [((n : Nat) : Int)].flatMap vbI) ++ (es.drop 0).flatMap rowBy by unfold manBy; rw [HES.out, List.length_map, HLN.out]; simp)
    have k0 := (K1.out.under hb2').cell 0
    have k0 : w2.cell? ⟨w.heap.size, 0, none⟩ = some (.slice A n c) := k0
    clear hown2 hb2 hb2' HPL HW1 K1 HB0
    generalize [] ++ [((n : Nat) : Int)].flatMap vbI = acc0 at *
    go_wp2_with fail
    clear k0
    go_loopw [5, 21] (fun u5 u21 wr => ∃ (k : Nat) (C : Option Addr) (f : Nat) (acc : List Nat), k ≤ n ∧ u21 = .int .i64 (k : Nat) ∧ u5 = .slice C acc.length f ∧ Hid (OwnY w.heap.size wr C f acc ∧ Below w.heap.size w wr) ∧ Hid (manBy es = acc ++ (es.drop k).flatMap rowBy)) (fun _ u21 _ => n - (intOf u21).toNat)
    case atStart => exact ⟨0, C2, f2, acc0, Nat.zero_le _, rfl, rfl, HST, HT⟩
    case round =>
      obtain ⟨k, C, f, acc, hk, rfl, rfl, hst, hrl⟩ := hrel
      by_cases hlt : k < n
      · obtain ⟨er, hrw⟩ := (HM.out.below hst.out.2).rows
        obtain ⟨ad, x, rfl, hx, hxl, c0, c1, c2, c3, c4, c5, c6⟩ := row_at hrw hlt
        have hxe : es[k]? = some x.d := by rw [HES.out, List.getElem?_map, hx]; rfl
        have hdr : es.drop k = x.d :: es.drop (k + 1) := by
          rw [List.drop_eq_getElem_cons (List.getElem?_eq_some_iff.1 hxe).1, (List.getElem?_eq_some_iff.1 hxe).2]
        have hbx := hst.out.2.alloc hst.out.2.size (.cells (aR x.nm x.ep x.fl x.la x.sc (.slice x.ea x.en.length x.ec) (.slice x.oa x.op.length x.oc)) 42)
        have hrl2 := hrl.out
        rw [hdr, List.flatMap_cons, ← List.append_assoc] at hrl2
        have hlen : (acc ++ rowBy x.d).length ≤ 800000 := by
          have h1 := HOK.out.bytes
          rw [hrl2, List.length_append] at h1
          omega
        have HL := hid (laid_c w C f acc x (wr.alloc (.cells (aR x.nm x.ep x.fl x.la x.sc (.slice x.ea x.en.length x.ec) (.slice x.oa x.op.length x.oc)) 42)) (HM.out.each x (List.mem_of_getElem? hx)) hbx (hst.out.1.alloc _) (HOK.out.rows x.d (List.mem_of_getElem? hxe)).fit hlen)
        have HN := hid hrl2
        have HBX := hid hbx
        have hltI : (k : Int) < (n : Int) := by omega
        have h0I : (0 : Int) ≤ (k : Int) := by omega
        clear hrw hx hxl hxe hdr hbx hrl2 hlen hst hrl HT
        go_wp2_with fail
        refine HL.out.mono ?_
        rintro e w3 ⟨C3, f3, rfl, hown3, hb3⟩
        have HX := hid (And.intro hown3 (HBX.out.trans hb3))
        clear hown3 hb3 HL HBX c0 c1 c2 c3 c4 c5 c6
        generalize acc ++ rowBy x.d = acc3 at *
        go_wp2_with fail
        go_roundw
        case rel => exact ⟨k + 1, C3, f3, acc3, by omega, by go_num, rfl, HX, HN⟩
        case measure => simp [intOf]; omega
      · obtain rfl : k = n := by omega
        have hel : es.length ≤ k := by rw [HES.out, List.length_map, HLN.out]; exact Nat.le_refl _
        have hfe : manBy es = acc := by have h := hrl.out; rw [List.drop_of_length_le hel] at h; rw [h]; simp
        have HF2 := HF.out wr C f (by rw [hfe]; exact hst.out.1) hst.out.2
        rw [hfe] at HF2
        replace HF2 := hid HF2
        clear hel hrl HT hfe
        go_wp2_with fail
        go_ret2
        exact HF2.out
end Go.Proofs.Ytgdnpmjmkcccoaa
