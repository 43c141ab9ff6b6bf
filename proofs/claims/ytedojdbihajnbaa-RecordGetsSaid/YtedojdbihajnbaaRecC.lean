/- Contracts of record: name (seat Record). -/
import Derived.Test.YtedojdbihajnbaaRecB
namespace Go.Proofs.Ytedojdbihajnbaa
open Go.RowKit Go.Shelf VB
open Go.Lib (hid)
set_option linter.unusedVariables false
set_option linter.unusedSimpArgs false
/-- a text of bytes -/
abbrev strN (l : List Nat) : ByteArray := strOfNums (l.map fun x : Nat => (x : Int))
def nameL (bs : List Nat) : Nat → Nat → List Nat → Except Int (List Nat × Nat)
  | 0, z, acc => .ok (acc, z)
  | k + 1, z, acc => if z < bs.length then (if letB (bs.getD z 0 : Nat) = true then nameL bs k (z + 1) (acc ++ [bs.getD z 0]) else .error 7) else .error 6
def nameS (bs : List Nat) (z : Nat) : Except Int (List Nat × Nat) :=
  if z < bs.length then (if 1 ≤ bs.getD z 0 ∧ bs.getD z 0 ≤ 12 then nameL bs (bs.getD z 0) (z + 1) [] else .error 7) else .error 6
theorem But.then_ {g : Nat} {w wr w' : World} (h : But g w wr) (hb : Below w.heap.size wr w') : But g w w' :=
  ⟨hb.os.trans h.os, hb.tape.trans h.tape, hb.output.trans h.output, Nat.le_trans h.size hb.size, fun i hi hn => (hb.block i hi).trans (h.block i hi hn)⟩
theorem getD_byte {bs : List Nat} (h : ∀ x ∈ bs, x < 256) {z : Nat} (hz : z < bs.length) : bs.getD z 0 < 256 := by
  rw [List.getD_eq_getElem?_getD, List.getElem?_eq_getElem hz]
  exact h _ (List.getElem_mem hz)
section
variable {w : World} {g : Nat} {k : Int} {nm : ByteArray} {ep fl sc : Int} {P : Value} {B : Option Addr} {n c : Nat} {bs : List Nat}
set_option maxRecDepth 100000 in
set_option maxHeartbeats 400000 in
theorem name_c {z : Nat} (kt : Blk w g 64 (tapeC k nm ep fl sc P B n c z)) (hs : Src w B n c bs) :
    Calls Try.prog 68 #[.pointer (some ⟨g, 0, none⟩)] w (RetE (nameS bs z) (fun _ _ => .tuple #[]) (fun l p => tapeC k (strN l) ep fl sc P B n c (p : Nat)) g w) := by
  have hl := hs.len
  by_cases hz : z < n
  case neg =>
    have e1 : nameS bs z = .error 6 := by unfold nameS; rw [if_neg (by omega)]
    rw [e1]
    show Calls _ _ _ w (RetX 6 g w)
    have HO := hid (one_no kt (by omega))
    clear kt hs e1
    go_enter Try.func68, Try.ntmps68
    go_wp2_with fail
    refine HO.out.mono ?_
    rintro e w2 ⟨rfl, hb⟩
    exact ⟨rfl, rfl, hb⟩
  have HO := hid (one_ok kt hs hz)
  have hm0 := getD_byte hs.hbs (show z < bs.length by omega)
  have HS := hid hs
  have HT := hid kt.typed
  have HG := hid kt.lt
  obtain ⟨m, hm⟩ : ∃ m, m = bs.getD z 0 := ⟨_, rfl⟩
  rw [← hm] at HO hm0
  have hmw : IntKind.i64.wrap (m : Int) = m := by rw [IntKind.wrap_i64]; omega
  by_cases hb1 : 1 ≤ m ∧ m ≤ 12
  case neg =>
    have e1 : nameS bs z = .error 7 := by unfold nameS; rw [if_pos (by omega), ← hm, if_neg hb1]
    rw [e1]
    show Calls _ _ _ w (RetX 7 g w)
    by_cases h1 : 1 ≤ m
    · have h2 : ¬ m ≤ 12 := fun h => hb1 ⟨h1, h⟩
      have t1 : decide ((1 : Int) ≤ (m : Int)) = true := decide_eq_true (by omega)
      have t2 : decide ((m : Int) ≤ 12) = false := decide_eq_false (by omega)
      have t3 : decide (m ≤ 12) = false := decide_eq_false (by omega)
      clear kt hs e1 hm hb1
      go_enter Try.func68, Try.ntmps68
      go_wp2_with fail
      refine HO.out.mono ?_
      rintro e w2 ⟨rfl, hb, kt⟩
      go_wp2_with fail
      refine (need_f _ _).mono ?_
      rintro e w3 ⟨rfl, rfl⟩
      exact ⟨rfl, rfl, hb⟩
    · have t1 : decide ((1 : Int) ≤ (m : Int)) = false := decide_eq_false (by omega)
      have t3 : decide (1 ≤ m) = false := decide_eq_false (by omega)
      clear kt hs e1 hm hb1
      go_enter Try.func68, Try.ntmps68
      go_wp2_with fail
      refine HO.out.mono ?_
      rintro e w2 ⟨rfl, hb, kt⟩
      go_wp2_with fail
      refine (need_f _ _).mono ?_
      rintro e w3 ⟨rfl, rfl⟩
      exact ⟨rfl, rfl, hb⟩
  obtain ⟨hm1, hm2⟩ := hb1
  have e1 : nameS bs z = nameL bs m (z + 1) [] := by unfold nameS; rw [if_pos (by omega), ← hm, if_pos ⟨hm1, hm2⟩]
  rw [e1]
  obtain ⟨r, hr⟩ : ∃ r, r = nameL bs m (z + 1) [] := ⟨_, rfl⟩
  rw [← hr]
  have HR := hid hr
  have t1 : decide ((1 : Int) ≤ (m : Int)) = true := decide_eq_true (by omega)
  have t2 : decide ((m : Int) ≤ 12) = true := decide_eq_true (by omega)
  have t3 : decide (1 ≤ m) = true := decide_eq_true hm1
  have t4 : decide (m ≤ 12) = true := decide_eq_true hm2
  clear kt hs e1 hm hr
  go_enter Try.func68, Try.ntmps68
  go_wp2_with fail
  refine HO.out.mono ?_
  rintro e w2 ⟨rfl, hb2, kt2⟩
  have HB2 := hid hb2
  have HK2 := hid kt2
  clear hb2 kt2
  go_wp2_with fail
  refine (need_t _ _).mono ?_
  rintro e w3 ⟨rfl, rfl⟩
  go_wp2_with fail
  go_loopw [3, 16] (fun u3 u16 wr => ∃ (i zi : Nat) (acc : List Nat) (C : Option Addr) (f : Nat), i ≤ m ∧ u16 = .int .i64 (i : Nat) ∧ u3 = .slice C i f ∧ acc.length = i ∧ Hid (r = nameL bs (m - i) zi acc) ∧ Hid (∀ x ∈ acc, x < 256) ∧ wr.ownsRow w.heap.size 5 1 (.slice C i f) i (bsV acc) ∧ But g w wr ∧ Blk wr g 64 (tapeC k nm ep fl sc P B n c (zi : Nat)))
    (fun _ u16 _ => m - (intOf u16).toNat)
  case atStart => exact ⟨0, z + 1, [], none, 0, Nat.zero_le _, rfl, rfl, rfl, HR, hid (by simp), World.ownsRow_nil _ _ _ _, HB2.out, HK2.out⟩
  case round =>
    obtain ⟨i, zi, acc, C, f, hi, rfl, rfl, hal, hr, ha, hown, hb, kr⟩ := hrel
    have hs2 := HS.out.but hb HT.out
    have hgs := HG.out
    by_cases hlt : i < m
    · have hstep : m - i = (m - (i + 1)) + 1 := by omega
      by_cases hzi : zi < n
      · have HO2 := hid (one_ok kr hs2 hzi)
        have hx0 := getD_byte HS.out.hbs (show zi < bs.length by omega)
        obtain ⟨x, hx⟩ : ∃ x, x = bs.getD zi 0 := ⟨_, rfl⟩
        rw [← hx] at HO2 hx0
        have hxw : IntKind.i32.wrap (x : Int) = x := by rw [IntKind.wrap_i32]; omega
        have hr2 : r = if letB (x : Nat) = true then nameL bs (m - (i + 1)) (zi + 1) (acc ++ [x]) else .error 7 := by
          rw [hr.out, hstep]
          show (if zi < bs.length then (if letB (bs.getD zi 0 : Nat) = true then nameL bs (m - (i + 1)) (zi + 1) (acc ++ [bs.getD zi 0]) else .error 7) else .error 6) = _
          rw [if_pos (by omega), ← hx]
        by_cases hlet : letB (x : Nat) = true
        · rw [if_pos hlet] at hr2
          have HR2 := hid hr2
          have HA2 := hid (show ∀ y ∈ acc ++ [x], y < 256 by
            intro y hy
            rcases List.mem_append.1 hy with h | h
            · exact ha.out y h
            · rw [List.mem_singleton] at h; omega)
          have HOW := hid hown
          have HLET := hid hlet
          have HBB := hid hb
          have KT0 := hid kr.typed
          clear hr2 hlet hx hown hb kr hs2 hstep
          go_wp2_with fail
          refine HO2.out.mono ?_
          rintro e w4 ⟨rfl, hb4, kt4⟩
          have HOW4 := hid (own_but HOW.out hb4 KT0.out (by decide))
          have HB4 := hid (HBB.out.trans hb4)
          have HK4 := hid kt4
          clear hb4 kt4
          go_wp2_with fail
          refine (letter_c _ _).mono ?_
          rintro e w5 ⟨rfl, rfl⟩
          rw [HLET.out]
          go_wp2_with fail
          refine (need_t _ _).mono ?_
          rintro e w5 ⟨rfl, rfl⟩
          go_wp2_with (at_builtin; refine wpList_pushG rfl (.tmp 24) (.tmp 26) 32 rfl w.heap.size 5 (.int .u8 0) 1 Try.underlying32 u8_info rfl C i f _ rfl HOW4.out rfl rfl ?_ ?_ HB4.out.size ?_; omega; omega; intro C' f' w' hown' hgr hb')
          exact ⟨⟨i + 1, zi + 1, acc ++ [x], C', f', by omega, by go_num, rfl, by simp [hal], HR2, HA2, by rw [bsV_app]; exact hown', HB4.out.then_ hb', HK4.out.below hb' hgs⟩, by simp [intOf]; omega⟩
        · rw [if_neg hlet] at hr2
          have hlf : letB (x : Nat) = false := by simpa using hlet
          have HLET := hid hlf
          have HR2 := hid hr2
          have HBB := hid hb
          clear hr2 hlet hlf hx hown hb kr hs2 hstep
          go_wp2_with fail
          refine HO2.out.mono ?_
          rintro e w4 ⟨rfl, hb4, kt4⟩
          go_wp2_with fail
          refine (letter_c _ _).mono ?_
          rintro e w5 ⟨rfl, rfl⟩
          rw [HLET.out]
          go_wp2_with fail
          refine (need_f _ _).mono ?_
          rintro e w5 ⟨rfl, rfl⟩
          exact ⟨rfl, by rw [HR2.out]; exact ⟨rfl, HBB.out.trans hb4⟩⟩
      · have HO2 := hid (one_no kr (by omega))
        have hr2 : r = .error 6 := by
          rw [hr.out, hstep]
          show (if zi < bs.length then (if letB (bs.getD zi 0 : Nat) = true then nameL bs (m - (i + 1)) (zi + 1) (acc ++ [bs.getD zi 0]) else .error 7) else .error 6) = _
          rw [if_neg (by omega)]
        have HR2 := hid hr2
        have HBB := hid hb
        clear hr2 hown hb kr hs2 hstep
        go_wp2_with fail
        refine HO2.out.mono ?_
        rintro e w4 ⟨rfl, hb4⟩
        exact ⟨rfl, by rw [HR2.out]; exact ⟨rfl, HBB.out.trans hb4⟩⟩
    · obtain rfl : i = m := by omega
      have hr2 : r = .ok (acc, zi) := by rw [hr.out, Nat.sub_self]; rfl
      have HR2 := hid hr2
      have hcv := conv_bytes (c := f) (Reads.of_own hown)
      have HBB := hid hb
      have HKR := hid kr
      obtain ⟨c0, c1, c2, c3, c4, c5, f0, f1, f2, f3, f4, f5⟩ := kr.tape5
      clear hr2 hown hb hs2 kr
      go_wp2
      refine bodyPost_ret (results_none rfl _ _ _) rfl ?_
      rw [HR2.out]
      exact ⟨rfl, HBB.out.setg 1 _, HKR.out.set_ 1 _⟩
end
end Go.Proofs.Ytedojdbihajnbaa
