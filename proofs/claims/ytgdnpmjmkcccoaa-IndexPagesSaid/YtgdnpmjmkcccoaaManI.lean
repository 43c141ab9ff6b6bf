/- Manifest: several (printed by gen_mani.py). -/
import Derived.Test.YtgdnpmjmkcccoaaManH
namespace Go.Proofs.Ytgdnpmjmkcccoaa
open Go.RowKit Go.Shelf VB
open Go.Lib (hid)
set_option linter.unusedVariables false
set_option linter.unusedSimpArgs false
/-- all that was there is as it was, but some blocks -/
structure ButS (S : List Nat) (w w' : World) : Prop where
  os : w'.os = w.os
  tape : w'.tape = w.tape
  output : w'.output = w.output
  size : w.heap.size ≤ w'.heap.size
  block : ∀ k, k < w.heap.size → k ∉ S → w'.heap[k]? = w.heap[k]?
section
variable {S : List Nat} {a b c w w' : World}
theorem ButS.refl (S : List Nat) (w : World) : ButS S w w := ⟨rfl, rfl, rfl, Nat.le_refl _, fun _ _ _ => rfl⟩
theorem ButS.trans (h : ButS S a b) (k : ButS S b c) : ButS S a c :=
  ⟨k.os.trans h.os, k.tape.trans h.tape, k.output.trans h.output, Nat.le_trans h.size k.size, fun i hi hn => (k.block i (Nat.lt_of_lt_of_le hi h.size) hn).trans (h.block i hi hn)⟩
theorem ButS.of_below (h : Below w.heap.size w w') : ButS S w w' := ⟨h.os, h.tape, h.output, h.size, fun k hk _ => h.block k hk⟩
theorem ButS.of_but {g : Nat} (h : But g w w') (hg : g ∈ S) : ButS S w w' := ⟨h.os, h.tape, h.output, h.size, fun k hk hn => h.block k hk (fun e => hn (e ▸ hg))⟩
theorem ButS.but {g : Nat} (h : ButS [g] w w') : But g w w' := ⟨h.os, h.tape, h.output, h.size, fun k hk hn => h.block k hk (by simpa using hn)⟩
theorem ButS.step (h : ButS S a w) (k : Below w.heap.size w w') : ButS S a w' := h.trans (ButS.of_below k)
theorem ButS.below {B : Nat} (h : ButS S w w') (hS : ∀ k ∈ S, B ≤ k) (hB : B ≤ w.heap.size) : Below B w w' := ⟨h.os, h.tape, h.output, h.size, fun k hk => h.block k (Nat.lt_of_lt_of_le hk hB) (fun hm => by have := hS k hm; omega)⟩
theorem ButS.grown {row : Option Nat} (h : ButS S a w) (k : w.grownBy w' row) (hr : ∀ j, row = some j → a.heap.size ≤ j) : ButS S a w' :=
  ⟨k.os.trans h.os, k.tape.trans h.tape, k.output.trans h.output, Nat.le_trans h.size k.size, fun i hi hn => (k.block i (Nat.lt_of_lt_of_le hi h.size) (fun e => by have := hr i e.symm; omega)).trans (h.block i hi hn)⟩
theorem Blk.butS {q : Nat} {t : TypeId} {cs : Array Value} (h : Blk w q t cs) (k : ButS S w w') (hn : q ∉ S) : Blk w' q t cs := (k.block q h.lt hn).trans h
end
/-- so many things, one behind the other -/
def sevS {D σ : Type} (f : σ → Nat → Except Int ((D × σ) × Nat)) : Nat → σ → Nat → Except Int ((List D × σ) × Nat)
  | 0, s, z => .ok (([], s), z)
  | k + 1, s, z => match f s z with
    | .error x => .error x
    | .ok ((d, s'), z') => match sevS f k s' z' with
      | .error x => .error x
      | .ok ((l, s''), z'') => .ok ((d :: l, s''), z'')
def joinS {D σ : Type} (xs : List D) : Except Int ((List D × σ) × Nat) → Except Int ((List D × σ) × Nat)
  | .error x => .error x
  | .ok ((l, s), z) => .ok ((xs ++ l, s), z)
theorem sevS_succ {D σ : Type} {f : σ → Nat → Except Int ((D × σ) × Nat)} {k : Nat} {s : σ} {z : Nat} : sevS f (k + 1) s z = (match f s z with
    | .error x => .error x
    | .ok ((d, s'), z') => match sevS f k s' z' with
      | .error x => .error x
      | .ok ((l, s''), z'') => .ok ((d :: l, s''), z'')) := rfl
theorem joinS_step {D σ : Type} {f : σ → Nat → Except Int ((D × σ) × Nat)} {xs : List D} {k : Nat} {s s' : σ} {z z' : Nat} {d : D} (h : f s z = .ok ((d, s'), z')) : joinS xs (sevS f (k + 1) s z) = joinS (xs ++ [d]) (sevS f k s' z') := by
  rw [sevS_succ, h]
  simp only
  cases h2 : sevS f k s' z' with
  | error x => rfl
  | ok r => obtain ⟨⟨l, s2⟩, z2⟩ := r; simp [joinS]
theorem joinS_er {D σ : Type} {f : σ → Nat → Except Int ((D × σ) × Nat)} {xs : List D} {k : Nat} {s : σ} {z : Nat} {x : Int} (h : f s z = .error x) : joinS xs (sevS f (k + 1) s z) = .error x := by
  rw [sevS_succ, h]; rfl
theorem joinS_end {D σ : Type} {f : σ → Nat → Except Int ((D × σ) × Nat)} {xs : List D} {s : σ} {z : Nat} : joinS xs (sevS f 0 s z) = .ok ((xs, s), z) := by simp [sevS, joinS]
/-- what a method that reads one thing hands back -/
structure RetOne {α D σ : Type} (val : α → Value) (dat : α → D) (Good : World → α → Prop) (blks : α → List Nat) (J : World → σ → Prop) (S : List Nat) (r : Except Int ((D × σ) × Nat)) (e0 : Int) (g : Nat) (B : Option Addr) (n c : Nat) (w : World) (x : α) (s' : σ) (z1 : Nat) (e1 : Int) (d : Ending) (w' : World) : Prop where
  ret : d = .returned (val x)
  fr : ButS S w w'
  rd : RdAt w' g z1 e1 B n c
  j : J w' s'
  good : Good w' x
  fresh : ∀ b ∈ blks x, w.heap.size ≤ b ∧ b < w'.heap.size
  res : Res e0 r (fun d => d = (dat x, s')) z1 e1
/-- a new block holds one thing -/
theorem new_reads (w : World) (e : TypeId) (sz : Nat) (cs : List Value) (h : cs.length = 1 * sz) : Reads (w.alloc (.cells cs.toArray e)) e sz (some ⟨w.heap.size, 0, none⟩) 1 cs := by
  refine ⟨h, fun _ => ⟨_, rfl, ⟨_, _, heap_alloc_new w _⟩, ?_⟩⟩
  intro j u hu
  rw [show (⟨w.heap.size, 0, none⟩ : Addr).add j = ⟨w.heap.size, j, none⟩ by unfold Addr.add; split <;> simp_all]
  rw [cell_of_row _ _ j cs.toArray e (0, 0) (heap_alloc_new w _)]
  simpa using hu
/-- rows of things that lie apart -/
def Apart {α : Type} (blks : α → List Nat) (xs : List α) : Prop := xs.Pairwise (fun x y => ∀ a ∈ blks x, ∀ b ∈ blks y, a < b)
structure SevAt {α σ : Type} (T : TypeId) (sz : Nat) (cells : α → List Value) (Good : World → α → Prop) (blks : α → List Nat) (J : World → σ → Prop) (S : List Nat) (w0 : World) (xs : List α) (C : Option Addr) (f : Nat) (s : σ) (w : World) : Prop where
  own : w.ownsRow w0.heap.size T sz (.slice C xs.length f) xs.length (xs.flatMap cells)
  j : J w s
  fr : ButS S w0 w
  good : ∀ x ∈ xs, Good w x
  fresh : ∀ x ∈ xs, ∀ b ∈ blks x, w0.heap.size ≤ b ∧ b < w.heap.size ∧ (Value.slice C xs.length f).ownBlock ≠ some b
  apart : Apart blks xs
def RetSev {α D σ : Type} (T : TypeId) (sz : Nat) (cells : α → List Value) (dat : α → D) (Good : World → α → Prop) (blks : α → List Nat) (J : World → σ → Prop) (S : List Nat) (k : Nat) (r : Except Int ((List D × σ) × Nat)) (e0 : Int) (g : Nat) (B : Option Addr) (n c : Nat) (w : World) (d : Ending) (w' : World) : Prop :=
  ∃ (xs : List α) (C : Option Addr) (f : Nat) (s : σ) (z1 : Nat) (e1 : Int), d = .returned (.slice C xs.length f) ∧ SevAt T sz cells Good blks J S w xs C f s w' ∧ RdAt w' g z1 e1 B n c ∧ Res e0 r (fun d => d = (xs.map dat, s)) z1 e1 ∧ xs.length ≤ k

section
variable {α σ : Type} {T : TypeId} {sz : Nat} {cells : α → List Value} {Good : World → α → Prop} {blks : α → List Nat} {J : World → σ → Prop} {S : List Nat} {w0 w w' : World} {xs : List α} {C : Option Addr} {f : Nat} {s s' : σ}
/-- what is kept, where all blocks that lay are as they were, but S and that of the row -/
theorem SevAt.keepB (hG : ∀ W W' x, Good W x → (∀ b ∈ blks x, W'.heap[b]? = W.heap[b]?) → Good W' x) (hJ : ∀ W W' s, J W s → Below w0.heap.size W W' → J W' s) (h : SevAt T sz cells Good blks J S w0 xs C f s w) (hb : Below w.heap.size w w') : SevAt T sz cells Good blks J S w0 xs C f s w' :=
  ⟨own_below h.own hb, hJ _ _ _ h.j (hb.mono h.fr.size), h.fr.step hb, fun x hx => hG _ _ _ (h.good x hx) (fun b hbk => hb.block b (h.fresh x hx b hbk).2.1),
    fun x hx b hbk => ⟨(h.fresh x hx b hbk).1, Nat.lt_of_lt_of_le (h.fresh x hx b hbk).2.1 hb.size, (h.fresh x hx b hbk).2.2⟩, h.apart⟩
theorem own_same {w w' : World} {base n size : Nat} {e : TypeId} {v : Value} {xs : List Value} (h : w.ownsRow base e size v n xs) (hk : ∀ b, v.ownBlock = some b → w'.heap[b]? = w.heap[b]?) : w'.ownsRow base e size v n xs := by
  obtain ⟨h1, h2⟩ := h
  refine ⟨h1, h2.imp id ?_⟩
  rintro ⟨b, cap, cs, hv, hb, hh, hr⟩
  exact ⟨b, cap, cs, hv, hb, (hk b (by rw [hv]; rfl)).trans hh, hr⟩
/-- what is kept, where but S is turned -/
theorem SevAt.keepS (hG : ∀ W W' x, Good W x → (∀ b ∈ blks x, W'.heap[b]? = W.heap[b]?) → Good W' x) (hS : ∀ k ∈ S, k < w0.heap.size) (h : SevAt T sz cells Good blks J S w0 xs C f s w) (hb : ButS S w w') (hj : J w' s') : SevAt T sz cells Good blks J S w0 xs C f s' w' := by
  have ho : ∀ b, w0.heap.size ≤ b → b < w.heap.size → w'.heap[b]? = w.heap[b]? := fun b h1 h2 => hb.block b h2 (fun hm => by have := hS b hm; omega)
  exact ⟨own_same h.own (fun b hv => ho b (h.own.lt b hv).1 (h.own.lt b hv).2), hj, h.fr.trans hb, fun x hx => hG _ _ _ (h.good x hx) (fun b hbk => ho b (h.fresh x hx b hbk).1 (h.fresh x hx b hbk).2.1),
    fun x hx b hbk => ⟨(h.fresh x hx b hbk).1, Nat.lt_of_lt_of_le (h.fresh x hx b hbk).2.1 hb.size, (h.fresh x hx b hbk).2.2⟩, h.apart⟩
theorem sev_err {α D σ : Type} {f : σ → Nat → Except Int ((D × σ) × Nat)} {dat : α → D} {xs : List α} {s0 s s' : σ} {z0 z z1 : Nat} {e0 e1 : Int} {k i : Nat} {M : Int} {x : α} (hM : e0 = 0 → M = (k : Nat)) (hlt : (i : Int) < M) (hr : xs.length = i ∧ (e0 = 0 → i ≤ k ∧ sevS f k s0 z0 = joinS (xs.map dat) (sevS f (k - i) s z)) ∧ (e0 ≠ 0 → i = 0)) (h : Res e0 (f s z) (fun d => d = (dat x, s')) z1 e1) (he : e1 ≠ 0) : Res e0 (sevS f k s0 z0) (fun d => d = (xs.map dat, s')) z1 e1 := by
  rcases h with ⟨_, h1, _⟩ | ⟨_, h1, h2⟩
  · exact absurd h1 he
  · refine .inr ⟨he, fun h0 => ?_, h2⟩
    obtain ⟨h3, h4⟩ := hr.2.1 h0
    have h5 := hM h0
    rw [h4, show k - i = (k - i - 1) + 1 by omega, joinS_er (h1 h0)]
theorem sev_len {n i k : Nat} {e0 : Int} {Q : Prop} (h : n = i ∧ (e0 = 0 → i ≤ k ∧ Q) ∧ (e0 ≠ 0 → i = 0)) : n ≤ k := by
  by_cases h0 : e0 = 0
  · have := (h.2.1 h0).1; omega
  · have := h.2.2 h0; omega
theorem sev_ok {α D σ : Type} {f : σ → Nat → Except Int ((D × σ) × Nat)} {dat : α → D} {xs : List α} {s0 s s' : σ} {z0 z z1 : Nat} {e0 e1 : Int} {k i : Nat} {M : Int} {x : α} (hM : e0 = 0 → M = (k : Nat)) (hlt : (i : Int) < M) (hr : xs.length = i ∧ (e0 = 0 → i ≤ k ∧ sevS f k s0 z0 = joinS (xs.map dat) (sevS f (k - i) s z)) ∧ (e0 ≠ 0 → i = 0)) (h : Res e0 (f s z) (fun d => d = (dat x, s')) z1 e1) (he : e1 = 0) :
    e0 = 0 ∧ i + 1 ≤ k ∧ ((xs ++ [x]).length = i + 1 ∧ (e0 = 0 → i + 1 ≤ k ∧ sevS f k s0 z0 = joinS ((xs ++ [x]).map dat) (sevS f (k - (i + 1)) s' z1)) ∧ (e0 ≠ 0 → i + 1 = 0)) := by
  rcases h with ⟨h0, _, d, h1, h2⟩ | ⟨h1, _⟩
  · obtain ⟨h3, h4⟩ := hr.2.1 h0
    have h5 := hM h0
    refine ⟨h0, by omega, by simp [hr.1], fun _ => ⟨by omega, ?_⟩, fun h => absurd h0 h⟩
    rw [h4, show k - i = (k - i - 1) + 1 by omega, joinS_step (h2 ▸ h1), List.map_append, show k - (i + 1) = k - i - 1 by omega]
    rfl
  · exact absurd he h1
/-- one more has been read, and put behind the row -/
theorem SevAt.push (hG : ∀ W W' x, Good W x → (∀ b ∈ blks x, W'.heap[b]? = W.heap[b]?) → Good W' x) (hJ : ∀ W W' s, J W s → Below w0.heap.size W W' → J W' s) (hS : ∀ k ∈ S, k < w0.heap.size)
    (h : SevAt T sz cells Good blks J S w0 xs C f s w) {w1 w2 : World} {x : α} (hf : ButS S w w1) (hj : J w1 s') (hg : Good w1 x) (hfr : ∀ b ∈ blks x, w.heap.size ≤ b ∧ b < w1.heap.size)
    (hb2 : Below w1.heap.size w1 w2) {w3 : World} {C' : Option Addr} {f' : Nat} (hown : w3.ownsRow w0.heap.size T sz (.slice C' (xs ++ [x]).length f') (xs ++ [x]).length ((xs ++ [x]).flatMap cells)) (hgr : w2.grownBy w3 (Value.slice C xs.length f).ownBlock) (hv : (Value.slice C' (xs ++ [x]).length f').ownBlock = (Value.slice C xs.length f).ownBlock ∨ (Value.slice C' (xs ++ [x]).length f').ownBlock = some w2.heap.size) :
    SevAt T sz cells Good blks J S w0 (xs ++ [x]) C' f' s' w3 := by
  have hs0 := h.fr.size
  have hs1 := hf.size
  have hs2 := hb2.size
  have hs3 := hgr.size
  have hrow : ∀ j, (Value.slice C xs.length f).ownBlock = some j → w0.heap.size ≤ j ∧ j < w.heap.size := fun j hj => h.own.lt j hj
  have hold : ∀ y ∈ xs, ∀ b ∈ blks y, w3.heap[b]? = w.heap[b]? := by
    intro y hy b hb
    obtain ⟨h1, h2, h3⟩ := h.fresh y hy b hb
    have e1 : w3.heap[b]? = w2.heap[b]? := hgr.block b (by omega) (fun e => h3 e.symm)
    have e2 : w2.heap[b]? = w1.heap[b]? := hb2.block b (by omega)
    have e3 : w1.heap[b]? = w.heap[b]? := hf.block b h2 (fun hm => by have := hS b hm; omega)
    rw [e1, e2, e3]
  have hnew : ∀ b ∈ blks x, w3.heap[b]? = w1.heap[b]? := by
    intro b hb
    obtain ⟨h1, h2⟩ := hfr b hb
    have e1 : w3.heap[b]? = w2.heap[b]? := hgr.block b (by omega) (fun e => by have := (hrow b e.symm).2; omega)
    have e2 : w2.heap[b]? = w1.heap[b]? := hb2.block b h2
    rw [e1, e2]
  refine ⟨hown, ?_, ?_, ?_, ?_, ?_⟩
  · have hb3 : Below w0.heap.size w1 w3 := (hb2.mono (by omega)).grown hgr (by omega) (fun j hj => (hrow j hj).1)
    exact hJ _ _ _ hj hb3
  · exact ((h.fr.trans hf).step hb2).grown hgr (fun j hj => (hrow j hj).1)
  · intro y hy
    rcases List.mem_append.1 hy with hy | hy
    · exact hG _ _ _ (h.good y hy) (hold y hy)
    · obtain rfl := List.mem_singleton.1 hy
      exact hG _ _ _ hg hnew
  · intro y hy b hb
    rcases List.mem_append.1 hy with hy | hy
    · obtain ⟨h1, h2, h3⟩ := h.fresh y hy b hb
      refine ⟨h1, by omega, ?_⟩
      rcases hv with e | e
      · rw [e]; exact h3
      · rw [e]; intro e2; injection e2 with e2; omega
    · obtain rfl := List.mem_singleton.1 hy
      obtain ⟨h1, h2⟩ := hfr b hb
      refine ⟨by omega, by omega, ?_⟩
      rcases hv with e | e
      · rw [e]; intro e2; have := (hrow b e2).2; omega
      · rw [e]; intro e2; injection e2 with e2; omega
  · unfold Apart
    rw [List.pairwise_append]
    refine ⟨h.apart, by simp, ?_⟩
    intro y hy z hz a ha b hb
    obtain rfl := List.mem_singleton.1 hz
    have h1 := (h.fresh y hy a ha).2.1
    have h2 := (hfr b hb).1
    omega
end

def cellsB (v : Int) : List Value := [.int .u8 v]
abbrev valB1 (v : Int) : Value := .int .u8 v
def cellsI (v : Int) : List Value := [.int .i64 v]
abbrev valI (v : Int) : Value := .int .i64 v
abbrev vP (q : Int × Int) : Value := .agg #[.int .i64 q.1, .int .i64 q.2]
theorem cellsN_one (x : EnA) : ∀ u ∈ cellsN x, u.oneCell' = true := by simp [cellsN, Value.oneCell']
theorem cellsR_one (x : RoA) : ∀ u ∈ cellsR x, u.oneCell' = true := by simp [cellsR, Value.oneCell']
theorem cellsP1_one (x : Int × Int) : ∀ u ∈ cellsP x, u.oneCell' = true := by simp [cellsP, Value.oneCell']

theorem byte_info2 : (Try.prog.info? 5).map (fun i => (i.zero, i.size, i.bytes)) = some (some (.int .u8 0), 1, 1) := by kernel_rfl
set_option maxRecDepth 100000 in
set_option maxHeartbeats 2000000 in
theorem sev_b {D σ : Type} {f : σ → Nat → Except Int ((D × σ) × Nat)} {dat : Int → D} {Good : World → Int → Prop} {blks : Int → List Nat} {J : World → σ → Prop} {S : List Nat} {g : Nat} {B : Option Addr} {n c : Nat} {bs : List Nat} (a : Addr) (M : Int) (k : Nat) (s0 : σ) (z0 : Nat) (e0 : Int) (w : World)
    (hM : e0 = 0 → M = (k : Nat)) (hk : k ≤ 1000)
    (hG : ∀ W W' x, Good W x → (∀ b ∈ blks x, W'.heap[b]? = W.heap[b]?) → Good W' x) (hJ : ∀ W W' s, J W s → Below w.heap.size W W' → J W' s) (hS : ∀ k ∈ S, k < w.heap.size) (hgS : g ∈ S) (hsrc : ∀ W, ButS S w W → Src W B n c bs)
    (h0 : J w s0) (hr0 : RdAt w g z0 e0 B n c)
    (hone : ∀ W s z, ButS S w W → J W s → RdAt W g z e0 B n c → Calls Try.prog 114 #[.pointer (some a)] W fun d W' => ∃ x s' z1 e1, RetOne valB1 dat Good blks J S (f s z) e0 g B n c W x s' z1 e1 d W') :
    Calls Try.prog 113 #[.pointer (some ⟨g, 0, none⟩), .int .i64 M, .func (.func 114) #[] #[.pointer (some a)]] w (RetSev 5 1 cellsB dat Good blks J S k (sevS f k s0 z0) e0 g B n c w) := by
  obtain ⟨i0, hi0, hz0, hz1, hz2⟩ := info_parts3 byte_info2
  have HI := hid (And.intro hi0 (And.intro hz0 (And.intro hz1 hz2)))
  have hcf : ∀ (args : Array Value) (w : World), Sem.run Try.prog (callFunc 114 args) w = .ok (.enter 114 args) w := fun _ _ => rfl
  have HM := hid hM
  have HG := hid hG
  have HJ := hid hJ
  have HS := hid (And.intro hS hgS)
  have HSRC := hid hsrc
  have HONE := hid hone
  have HST0 := hid (show SevAt 5 1 cellsB Good blks J S w [] none 0 s0 w from ⟨World.ownsRow_nil _ _ _ _, h0, ButS.refl _ _, fun x hx => absurd hx (by simp), fun x hx => absurd hx (by simp), List.Pairwise.nil⟩)
  have HR0 := hid hr0
  have hlt0 := hr0.lt
  clear hi0 hz0 hz1 hz2 hM hG hJ hS hgS hsrc hone h0 hr0
  go_enter Try.func113, Try.ntmps113
  go_wp2_with fail
  go_step3
  go_wp2_with fail
  go_step3
  go_wp2_with fail
  go_loopw [7, 10] (fun u7 u10 wr => ∃ (i : Nat) (xs : List (Int)) (s : σ) (z : Nat) (C : Option Addr) (f' : Nat), (i : Int) ≤ max M 0 ∧ u10 = .int .i64 (i : Nat) ∧ u7 = .slice C xs.length f' ∧ Hid (SevAt 5 1 cellsB Good blks J S w xs C f' s wr ∧ RdAt wr g z e0 B n c) ∧ Hid (xs.length = i ∧ (e0 = 0 → i ≤ k ∧ sevS f k s0 z0 = joinS (xs.map dat) (sevS f (k - i) s z)) ∧ (e0 ≠ 0 → i = 0))) (fun _ u10 _ => M.toNat - (intOf u10).toNat)
  case atStart => exact ⟨0, [], s0, z0, none, 0, by omega, rfl, rfl, hid ⟨HST0.out, HR0.out⟩, hid ⟨rfl, fun _ => ⟨Nat.zero_le _, by rw [Nat.sub_zero]; cases sevS f k s0 z0 with | error x => rfl | ok r => obtain ⟨⟨l, s⟩, z⟩ := r; simp [joinS]⟩, fun _ => rfl⟩⟩
  case round =>
    obtain ⟨i, xs, s, z, C, f', hi, rfl, rfl, hst, hrl⟩ := hrel
    have hsz := hst.out.1.fr.size
    by_cases hlt : (i : Int) < M
    · have HC := hid (HONE.out wr s z hst.out.1.fr hst.out.1.j hst.out.2)
      have hib : i ≤ 1000 := by
        by_cases h0 : e0 = 0
        · have := (hrl.out.2.1 h0).1; omega
        · have := hrl.out.2.2 h0; omega
      have hi1 : wrap64 ((i : Int) + 1) = (i : Int) + 1 := by unfold wrap64; omega
      have HSV := hid hst.out.1
      have HRL := hid hrl.out
      have hlt0' : g < wr.heap.size := Nat.lt_of_lt_of_le hlt0 hsz
      clear hst hrl
      go_wp2_with fail
      refine HC.out.mono ?_
      rintro d w1 ⟨x, s', z1, e1, hd, hfr, hrd, hj, hgd, hfs, hres⟩
      subst hd
      have HRD := hid hrd
      obtain ⟨c0, c1, c2, f0, f1, hlw⟩ := rd_cells hrd
      by_cases he : e1 = 0
      · have t : (e1 != 0) = false := by simp [he]
        obtain ⟨h00, hik, hnx⟩ := sev_ok HM.out hlt HRL.out hres he
        have HNX := hid hnx
        have hxb : xs.length ≤ 1000 := by have := HRL.out.1; omega
        have h00' := hid (And.intro h00 he)
        have HX := hid (And.intro hfr (And.intro hj (And.intro hgd hfs)))
        have HO1 := hid (show (w1.alloc (.cells #[.int .u8 x] 5)).ownsRow w.heap.size 5 1 (.slice C xs.length f') xs.length (xs.flatMap cellsB) from (SevAt.keepS HG.out HS.out.1 HSV.out hfr hj).own.alloc _)
        have HNW := hid (show Reads (w1.alloc (.cells #[.int .u8 x] 5)) 5 1 (some ⟨w1.heap.size, 0, none⟩) 1 (cellsB x) from new_reads w1 5 1 (cellsB x) rfl)
        have HW2 := hid (show Below w1.heap.size w1 (w1.alloc (.cells #[.int .u8 x] 5)) from (Below.refl _ _).alloc (Nat.le_refl _) _)
        have hs1 := hfr.size
        clear hres hfr hj hgd hfs hrd he h00 hnx HC
        go_wp2_with (at_builtin; refine wpList_append_any _ rfl (.tmp 20) (.tmp 22) 31 rfl w.heap.size 5 i0 (.int .u8 0) 1 1 Try.underlying31 HI.out.1 HI.out.2.1 HI.out.2.2.1 HI.out.2.2.2 rfl (by decide) _ xs.length (xs.flatMap cellsB) rfl HO1.out (some ⟨w1.heap.size, 0, none⟩) 1 1 (cellsB x) rfl HNW.out (by simp [cellsB, Value.oneCell']) (by simp only [maxLen]; omega) (by omega) (by simp; omega) ?_; intro v' w3 hown' hgr' hv')
        obtain ⟨C', f2, hvf, _, _⟩ := own_form hown'
        subst hvf
        have hxl1 : (xs ++ [x]).length = xs.length + 1 := by simp
        have hcl : xs.flatMap cellsB ++ cellsB x = (xs ++ [x]).flatMap cellsB := by simp
        rw [hcl, ← hxl1] at hown'
        rw [← hxl1] at hv' ⊢
        have HS3 := hid (SevAt.push HG.out HJ.out HS.out.1 HSV.out HX.out.1 HX.out.2.1 HX.out.2.2.1 HX.out.2.2.2 HW2.out hown' hgr' hv')
        have HR3 := hid (show RdAt w3 g z1 e0 B n c by
          rw [h00'.out.1, ← h00'.out.2]
          exact (HRD.out.under HW2.out).grown hgr' (fun e => by have := (HSV.out.own.lt _ e.symm).1; omega))
        clear hown' hgr' hv' hcl hxl1 HO1 HNW HW2 HX HSV HRL HRD c0 c1 c2 f0 f1 t
        generalize hxs : xs ++ [x] = xs2 at *
        clear hxs
        go_wp2_with fail
        go_roundw
        case rel => exact ⟨i + 1, xs2, s', z1, C', f2, by omega, by go_num, rfl, hid ⟨HS3.out, HR3.out⟩, HNX⟩
        case measure => simp [intOf]; omega
      · have t : (e1 != 0) = true := by simp [he]
        have HF := hid (show RetSev 5 1 cellsB dat Good blks J S k (sevS f k s0 z0) e0 g B n c w (.returned (.slice C xs.length f')) w1 from
          ⟨xs, C, f', s', z1, e1, rfl, SevAt.keepS HG.out HS.out.1 HSV.out hfr hj, hrd, sev_err HM.out hlt HRL.out hres he, sev_len HRL.out⟩)
        clear he hres hfr hj hgd hfs hrd HRD HC HRL HSV
        go_wp2_with fail
        try rw [Exit.noGoto_ret]
        go_ret
        exact HF.out
    · have HF := hid (show RetSev 5 1 cellsB dat Good blks J S k (sevS f k s0 z0) e0 g B n c w (.returned (.slice C xs.length f')) wr by
        refine ⟨xs, C, f', s, z, e0, rfl, hst.out.1, hst.out.2, ?_, sev_len hrl.out⟩
        by_cases he : e0 = 0
        · obtain ⟨h1, h2⟩ := hrl.out.2.1 he
          have h3 := HM.out he
          have h4 : k - i = 0 := by omega
          rw [h4, joinS_end] at h2
          rw [he]
          exact Res.ok h2 rfl
        · exact Res.was he)
      clear hst hrl hsz
      go_wp2_with fail
      try rw [Exit.noGoto_ret]
      go_ret
      exact HF.out

theorem int_info2 : (Try.prog.info? 3).map (fun i => (i.zero, i.size, i.bytes)) = some (some (.int .i64 0), 1, 8) := by kernel_rfl
set_option maxRecDepth 100000 in
set_option maxHeartbeats 2000000 in
theorem sev_i {D σ : Type} {f : σ → Nat → Except Int ((D × σ) × Nat)} {dat : Int → D} {Good : World → Int → Prop} {blks : Int → List Nat} {J : World → σ → Prop} {S : List Nat} {g : Nat} {B : Option Addr} {n c : Nat} {bs : List Nat} (a : Addr) (M : Int) (k : Nat) (s0 : σ) (z0 : Nat) (e0 : Int) (w : World)
    (hM : e0 = 0 → M = (k : Nat)) (hk : k ≤ 1000)
    (hG : ∀ W W' x, Good W x → (∀ b ∈ blks x, W'.heap[b]? = W.heap[b]?) → Good W' x) (hJ : ∀ W W' s, J W s → Below w.heap.size W W' → J W' s) (hS : ∀ k ∈ S, k < w.heap.size) (hgS : g ∈ S) (hsrc : ∀ W, ButS S w W → Src W B n c bs)
    (h0 : J w s0) (hr0 : RdAt w g z0 e0 B n c)
    (hone : ∀ W s z, ButS S w W → J W s → RdAt W g z e0 B n c → Calls Try.prog 119 #[.pointer (some a)] W fun d W' => ∃ x s' z1 e1, RetOne valI dat Good blks J S (f s z) e0 g B n c W x s' z1 e1 d W') :
    Calls Try.prog 118 #[.pointer (some ⟨g, 0, none⟩), .int .i64 M, .func (.func 119) #[] #[.pointer (some a)]] w (RetSev 3 1 cellsI dat Good blks J S k (sevS f k s0 z0) e0 g B n c w) := by
  obtain ⟨i0, hi0, hz0, hz1, hz2⟩ := info_parts3 int_info2
  have HI := hid (And.intro hi0 (And.intro hz0 (And.intro hz1 hz2)))
  have hcf : ∀ (args : Array Value) (w : World), Sem.run Try.prog (callFunc 119 args) w = .ok (.enter 119 args) w := fun _ _ => rfl
  have HM := hid hM
  have HG := hid hG
  have HJ := hid hJ
  have HS := hid (And.intro hS hgS)
  have HSRC := hid hsrc
  have HONE := hid hone
  have HST0 := hid (show SevAt 3 1 cellsI Good blks J S w [] none 0 s0 w from ⟨World.ownsRow_nil _ _ _ _, h0, ButS.refl _ _, fun x hx => absurd hx (by simp), fun x hx => absurd hx (by simp), List.Pairwise.nil⟩)
  have HR0 := hid hr0
  have hlt0 := hr0.lt
  clear hi0 hz0 hz1 hz2 hM hG hJ hS hgS hsrc hone h0 hr0
  go_enter Try.func118, Try.ntmps118
  go_wp2_with fail
  go_step3
  go_wp2_with fail
  go_step3
  go_wp2_with fail
  go_loopw [7, 10] (fun u7 u10 wr => ∃ (i : Nat) (xs : List (Int)) (s : σ) (z : Nat) (C : Option Addr) (f' : Nat), (i : Int) ≤ max M 0 ∧ u10 = .int .i64 (i : Nat) ∧ u7 = .slice C xs.length f' ∧ Hid (SevAt 3 1 cellsI Good blks J S w xs C f' s wr ∧ RdAt wr g z e0 B n c) ∧ Hid (xs.length = i ∧ (e0 = 0 → i ≤ k ∧ sevS f k s0 z0 = joinS (xs.map dat) (sevS f (k - i) s z)) ∧ (e0 ≠ 0 → i = 0))) (fun _ u10 _ => M.toNat - (intOf u10).toNat)
  case atStart => exact ⟨0, [], s0, z0, none, 0, by omega, rfl, rfl, hid ⟨HST0.out, HR0.out⟩, hid ⟨rfl, fun _ => ⟨Nat.zero_le _, by rw [Nat.sub_zero]; cases sevS f k s0 z0 with | error x => rfl | ok r => obtain ⟨⟨l, s⟩, z⟩ := r; simp [joinS]⟩, fun _ => rfl⟩⟩
  case round =>
    obtain ⟨i, xs, s, z, C, f', hi, rfl, rfl, hst, hrl⟩ := hrel
    have hsz := hst.out.1.fr.size
    by_cases hlt : (i : Int) < M
    · have HC := hid (HONE.out wr s z hst.out.1.fr hst.out.1.j hst.out.2)
      have hib : i ≤ 1000 := by
        by_cases h0 : e0 = 0
        · have := (hrl.out.2.1 h0).1; omega
        · have := hrl.out.2.2 h0; omega
      have hi1 : wrap64 ((i : Int) + 1) = (i : Int) + 1 := by unfold wrap64; omega
      have HSV := hid hst.out.1
      have HRL := hid hrl.out
      have hlt0' : g < wr.heap.size := Nat.lt_of_lt_of_le hlt0 hsz
      clear hst hrl
      go_wp2_with fail
      refine HC.out.mono ?_
      rintro d w1 ⟨x, s', z1, e1, hd, hfr, hrd, hj, hgd, hfs, hres⟩
      subst hd
      have HRD := hid hrd
      obtain ⟨c0, c1, c2, f0, f1, hlw⟩ := rd_cells hrd
      by_cases he : e1 = 0
      · have t : (e1 != 0) = false := by simp [he]
        obtain ⟨h00, hik, hnx⟩ := sev_ok HM.out hlt HRL.out hres he
        have HNX := hid hnx
        have hxb : xs.length ≤ 1000 := by have := HRL.out.1; omega
        have h00' := hid (And.intro h00 he)
        have HX := hid (And.intro hfr (And.intro hj (And.intro hgd hfs)))
        have HO1 := hid (show (w1.alloc (.cells #[.int .i64 x] 3)).ownsRow w.heap.size 3 1 (.slice C xs.length f') xs.length (xs.flatMap cellsI) from (SevAt.keepS HG.out HS.out.1 HSV.out hfr hj).own.alloc _)
        have HNW := hid (show Reads (w1.alloc (.cells #[.int .i64 x] 3)) 3 1 (some ⟨w1.heap.size, 0, none⟩) 1 (cellsI x) from new_reads w1 3 1 (cellsI x) rfl)
        have HW2 := hid (show Below w1.heap.size w1 (w1.alloc (.cells #[.int .i64 x] 3)) from (Below.refl _ _).alloc (Nat.le_refl _) _)
        have hs1 := hfr.size
        clear hres hfr hj hgd hfs hrd he h00 hnx HC
        go_wp2_with (at_builtin; refine wpList_append_any _ rfl (.tmp 20) (.tmp 22) 43 rfl w.heap.size 3 i0 (.int .i64 0) 1 8 Try.underlying43 HI.out.1 HI.out.2.1 HI.out.2.2.1 HI.out.2.2.2 rfl (by decide) _ xs.length (xs.flatMap cellsI) rfl HO1.out (some ⟨w1.heap.size, 0, none⟩) 1 1 (cellsI x) rfl HNW.out (by simp [cellsI, Value.oneCell']) (by simp only [maxLen]; omega) (by omega) (by simp; omega) ?_; intro v' w3 hown' hgr' hv')
        obtain ⟨C', f2, hvf, _, _⟩ := own_form hown'
        subst hvf
        have hxl1 : (xs ++ [x]).length = xs.length + 1 := by simp
        have hcl : xs.flatMap cellsI ++ cellsI x = (xs ++ [x]).flatMap cellsI := by simp
        rw [hcl, ← hxl1] at hown'
        rw [← hxl1] at hv' ⊢
        have HS3 := hid (SevAt.push HG.out HJ.out HS.out.1 HSV.out HX.out.1 HX.out.2.1 HX.out.2.2.1 HX.out.2.2.2 HW2.out hown' hgr' hv')
        have HR3 := hid (show RdAt w3 g z1 e0 B n c by
          rw [h00'.out.1, ← h00'.out.2]
          exact (HRD.out.under HW2.out).grown hgr' (fun e => by have := (HSV.out.own.lt _ e.symm).1; omega))
        clear hown' hgr' hv' hcl hxl1 HO1 HNW HW2 HX HSV HRL HRD c0 c1 c2 f0 f1 t
        generalize hxs : xs ++ [x] = xs2 at *
        clear hxs
        go_wp2_with fail
        go_roundw
        case rel => exact ⟨i + 1, xs2, s', z1, C', f2, by omega, by go_num, rfl, hid ⟨HS3.out, HR3.out⟩, HNX⟩
        case measure => simp [intOf]; omega
      · have t : (e1 != 0) = true := by simp [he]
        have HF := hid (show RetSev 3 1 cellsI dat Good blks J S k (sevS f k s0 z0) e0 g B n c w (.returned (.slice C xs.length f')) w1 from
          ⟨xs, C, f', s', z1, e1, rfl, SevAt.keepS HG.out HS.out.1 HSV.out hfr hj, hrd, sev_err HM.out hlt HRL.out hres he, sev_len HRL.out⟩)
        clear he hres hfr hj hgd hfs hrd HRD HC HRL HSV
        go_wp2_with fail
        try rw [Exit.noGoto_ret]
        go_ret
        exact HF.out
    · have HF := hid (show RetSev 3 1 cellsI dat Good blks J S k (sevS f k s0 z0) e0 g B n c w (.returned (.slice C xs.length f')) wr by
        refine ⟨xs, C, f', s, z, e0, rfl, hst.out.1, hst.out.2, ?_, sev_len hrl.out⟩
        by_cases he : e0 = 0
        · obtain ⟨h1, h2⟩ := hrl.out.2.1 he
          have h3 := HM.out he
          have h4 : k - i = 0 := by omega
          rw [h4, joinS_end] at h2
          rw [he]
          exact Res.ok h2 rfl
        · exact Res.was he)
      clear hst hrl hsz
      go_wp2_with fail
      try rw [Exit.noGoto_ret]
      go_ret
      exact HF.out

theorem entry_info : (Try.prog.info? 45).map (fun i => (i.zero, i.size, i.bytes)) = some (some (.agg #[.int .i64 0, .int .i64 0, .int .i64 0, .slice none 0 0, .int .i64 0]), 5, 56) := by kernel_rfl
set_option maxRecDepth 100000 in
set_option maxHeartbeats 2000000 in
theorem sev_e {D σ : Type} {f : σ → Nat → Except Int ((D × σ) × Nat)} {dat : EnA → D} {Good : World → EnA → Prop} {blks : EnA → List Nat} {J : World → σ → Prop} {S : List Nat} {g : Nat} {B : Option Addr} {n c : Nat} {bs : List Nat} (a a2 : Addr) (M : Int) (k : Nat) (s0 : σ) (z0 : Nat) (e0 : Int) (w : World)
    (hM : e0 = 0 → M = (k : Nat)) (hk : k ≤ 1000)
    (hG : ∀ W W' x, Good W x → (∀ b ∈ blks x, W'.heap[b]? = W.heap[b]?) → Good W' x) (hJ : ∀ W W' s, J W s → Below w.heap.size W W' → J W' s) (hS : ∀ k ∈ S, k < w.heap.size) (hgS : g ∈ S) (hsrc : ∀ W, ButS S w W → Src W B n c bs)
    (h0 : J w s0) (hr0 : RdAt w g z0 e0 B n c)
    (hone : ∀ W s z, ButS S w W → J W s → RdAt W g z e0 B n c → Calls Try.prog 117 #[.pointer (some a), .pointer (some a2)] W fun d W' => ∃ x s' z1 e1, RetOne vE dat Good blks J S (f s z) e0 g B n c W x s' z1 e1 d W') :
    Calls Try.prog 116 #[.pointer (some ⟨g, 0, none⟩), .int .i64 M, .func (.func 117) #[] #[.pointer (some a), .pointer (some a2)]] w (RetSev 45 5 cellsN dat Good blks J S k (sevS f k s0 z0) e0 g B n c w) := by
  obtain ⟨i0, hi0, hz0, hz1, hz2⟩ := info_parts3 entry_info
  have HI := hid (And.intro hi0 (And.intro hz0 (And.intro hz1 hz2)))
  have hcf : ∀ (args : Array Value) (w : World), Sem.run Try.prog (callFunc 117 args) w = .ok (.enter 117 args) w := fun _ _ => rfl
  have HM := hid hM
  have HG := hid hG
  have HJ := hid hJ
  have HS := hid (And.intro hS hgS)
  have HSRC := hid hsrc
  have HONE := hid hone
  have HST0 := hid (show SevAt 45 5 cellsN Good blks J S w [] none 0 s0 w from ⟨World.ownsRow_nil _ _ _ _, h0, ButS.refl _ _, fun x hx => absurd hx (by simp), fun x hx => absurd hx (by simp), List.Pairwise.nil⟩)
  have HR0 := hid hr0
  have hlt0 := hr0.lt
  clear hi0 hz0 hz1 hz2 hM hG hJ hS hgS hsrc hone h0 hr0
  go_enter Try.func116, Try.ntmps116
  go_wp2_with fail
  go_step3
  go_wp2_with fail
  go_step3
  go_wp2_with fail
  go_loopw [7, 10] (fun u7 u10 wr => ∃ (i : Nat) (xs : List (EnA)) (s : σ) (z : Nat) (C : Option Addr) (f' : Nat), (i : Int) ≤ max M 0 ∧ u10 = .int .i64 (i : Nat) ∧ u7 = .slice C xs.length f' ∧ Hid (SevAt 45 5 cellsN Good blks J S w xs C f' s wr ∧ RdAt wr g z e0 B n c) ∧ Hid (xs.length = i ∧ (e0 = 0 → i ≤ k ∧ sevS f k s0 z0 = joinS (xs.map dat) (sevS f (k - i) s z)) ∧ (e0 ≠ 0 → i = 0))) (fun _ u10 _ => M.toNat - (intOf u10).toNat)
  case atStart => exact ⟨0, [], s0, z0, none, 0, by omega, rfl, rfl, hid ⟨HST0.out, HR0.out⟩, hid ⟨rfl, fun _ => ⟨Nat.zero_le _, by rw [Nat.sub_zero]; cases sevS f k s0 z0 with | error x => rfl | ok r => obtain ⟨⟨l, s⟩, z⟩ := r; simp [joinS]⟩, fun _ => rfl⟩⟩
  case round =>
    obtain ⟨i, xs, s, z, C, f', hi, rfl, rfl, hst, hrl⟩ := hrel
    have hsz := hst.out.1.fr.size
    by_cases hlt : (i : Int) < M
    · have HC := hid (HONE.out wr s z hst.out.1.fr hst.out.1.j hst.out.2)
      have hib : i ≤ 1000 := by
        by_cases h0 : e0 = 0
        · have := (hrl.out.2.1 h0).1; omega
        · have := hrl.out.2.2 h0; omega
      have hi1 : wrap64 ((i : Int) + 1) = (i : Int) + 1 := by unfold wrap64; omega
      have HSV := hid hst.out.1
      have HRL := hid hrl.out
      have hlt0' : g < wr.heap.size := Nat.lt_of_lt_of_le hlt0 hsz
      clear hst hrl
      go_wp2_with fail
      refine HC.out.mono ?_
      rintro d w1 ⟨x, s', z1, e1, hd, hfr, hrd, hj, hgd, hfs, hres⟩
      subst hd
      have HRD := hid hrd
      obtain ⟨c0, c1, c2, f0, f1, hlw⟩ := rd_cells hrd
      by_cases he : e1 = 0
      · have t : (e1 != 0) = false := by simp [he]
        obtain ⟨h00, hik, hnx⟩ := sev_ok HM.out hlt HRL.out hres he
        have HNX := hid hnx
        have hxb : xs.length ≤ 1000 := by have := HRL.out.1; omega
        have h00' := hid (And.intro h00 he)
        have HX := hid (And.intro hfr (And.intro hj (And.intro hgd hfs)))
        have HO1 := hid (show ((w1.alloc (.cells (aE x.1.fs x.1.ls x.1.ct (.slice x.2.1 x.1.ps.length x.2.2) x.1.by_) 45)).alloc (.cells (aE x.1.fs x.1.ls x.1.ct (.slice x.2.1 x.1.ps.length x.2.2) x.1.by_) 45)).ownsRow w.heap.size 45 5 (.slice C xs.length f') xs.length (xs.flatMap cellsN) from ((SevAt.keepS HG.out HS.out.1 HSV.out hfr hj).own.alloc _).alloc _)
        have HNW := hid (show Reads ((w1.alloc (.cells (aE x.1.fs x.1.ls x.1.ct (.slice x.2.1 x.1.ps.length x.2.2) x.1.by_) 45)).alloc (.cells (aE x.1.fs x.1.ls x.1.ct (.slice x.2.1 x.1.ps.length x.2.2) x.1.by_) 45)) 45 5 (some ⟨w1.heap.size + 1, 0, none⟩) 1 (cellsN x) by
          have h := new_reads (w1.alloc (.cells (aE x.1.fs x.1.ls x.1.ct (.slice x.2.1 x.1.ps.length x.2.2) x.1.by_) 45)) 45 5 (cellsN x) rfl
          rwa [World.size_alloc] at h)
        have HW2 := hid (show Below w1.heap.size w1 ((w1.alloc (.cells (aE x.1.fs x.1.ls x.1.ct (.slice x.2.1 x.1.ps.length x.2.2) x.1.by_) 45)).alloc (.cells (aE x.1.fs x.1.ls x.1.ct (.slice x.2.1 x.1.ps.length x.2.2) x.1.by_) 45)) from ((Below.refl _ _).alloc (Nat.le_refl _) _).alloc (by simp) _)
        have hs1 := hfr.size
        clear hres hfr hj hgd hfs hrd he h00 hnx HC
        go_wp2_with (at_builtin; refine wpList_append_any _ rfl (.tmp 20) (.tmp 22) 39 rfl w.heap.size 45 i0 (.agg #[.int .i64 0, .int .i64 0, .int .i64 0, .slice none 0 0, .int .i64 0]) 5 56 Try.underlying39 HI.out.1 HI.out.2.1 HI.out.2.2.1 HI.out.2.2.2 rfl (by decide) _ xs.length (xs.flatMap cellsN) rfl HO1.out (some ⟨w1.heap.size + 1, 0, none⟩) 1 1 (cellsN x) rfl HNW.out (cellsN_one x) (by simp only [maxLen]; omega) (by omega) (by simp; omega) ?_; intro v' w3 hown' hgr' hv')
        obtain ⟨C', f2, hvf, _, _⟩ := own_form hown'
        subst hvf
        have hxl1 : (xs ++ [x]).length = xs.length + 1 := by simp
        have hcl : xs.flatMap cellsN ++ cellsN x = (xs ++ [x]).flatMap cellsN := by simp
        rw [hcl, ← hxl1] at hown'
        rw [← hxl1] at hv' ⊢
        have HS3 := hid (SevAt.push HG.out HJ.out HS.out.1 HSV.out HX.out.1 HX.out.2.1 HX.out.2.2.1 HX.out.2.2.2 HW2.out hown' hgr' hv')
        have HR3 := hid (show RdAt w3 g z1 e0 B n c by
          rw [h00'.out.1, ← h00'.out.2]
          exact (HRD.out.under HW2.out).grown hgr' (fun e => by have := (HSV.out.own.lt _ e.symm).1; omega))
        clear hown' hgr' hv' hcl hxl1 HO1 HNW HW2 HX HSV HRL HRD c0 c1 c2 f0 f1 t
        generalize hxs : xs ++ [x] = xs2 at *
        clear hxs
        go_wp2_with fail
        go_roundw
        case rel => exact ⟨i + 1, xs2, s', z1, C', f2, by omega, by go_num, rfl, hid ⟨HS3.out, HR3.out⟩, HNX⟩
        case measure => simp [intOf]; omega
      · have t : (e1 != 0) = true := by simp [he]
        have HF := hid (show RetSev 45 5 cellsN dat Good blks J S k (sevS f k s0 z0) e0 g B n c w (.returned (.slice C xs.length f')) (w1.alloc (.cells (aE x.1.fs x.1.ls x.1.ct (.slice x.2.1 x.1.ps.length x.2.2) x.1.by_) 45)) from
          ⟨xs, C, f', s', z1, e1, rfl, SevAt.keepB HG.out HJ.out (SevAt.keepS HG.out HS.out.1 HSV.out hfr hj) ((Below.refl _ _).alloc (Nat.le_refl _) _), hrd.alloc _, sev_err HM.out hlt HRL.out hres he, sev_len HRL.out⟩)
        clear he hres hfr hj hgd hfs hrd HRD HC HRL HSV
        go_wp2_with fail
        try rw [Exit.noGoto_ret]
        go_ret
        exact HF.out
    · have HF := hid (show RetSev 45 5 cellsN dat Good blks J S k (sevS f k s0 z0) e0 g B n c w (.returned (.slice C xs.length f')) wr by
        refine ⟨xs, C, f', s, z, e0, rfl, hst.out.1, hst.out.2, ?_, sev_len hrl.out⟩
        by_cases he : e0 = 0
        · obtain ⟨h1, h2⟩ := hrl.out.2.1 he
          have h3 := HM.out he
          have h4 : k - i = 0 := by omega
          rw [h4, joinS_end] at h2
          rw [he]
          exact Res.ok h2 rfl
        · exact Res.was he)
      clear hst hrl hsz
      go_wp2_with fail
      try rw [Exit.noGoto_ret]
      go_ret
      exact HF.out

theorem point_info2 : (Try.prog.info? 47).map (fun i => (i.zero, i.size, i.bytes)) = some (some (.agg #[.int .i64 0, .int .i64 0]), 2, 16) := by kernel_rfl
set_option maxRecDepth 100000 in
set_option maxHeartbeats 2000000 in
theorem sev_p {D σ : Type} {f : σ → Nat → Except Int ((D × σ) × Nat)} {dat : Int × Int → D} {Good : World → Int × Int → Prop} {blks : Int × Int → List Nat} {J : World → σ → Prop} {S : List Nat} {g : Nat} {B : Option Addr} {n c : Nat} {bs : List Nat} (a a2 : Addr) (M : Int) (k : Nat) (s0 : σ) (z0 : Nat) (e0 : Int) (w : World)
    (hM : e0 = 0 → M = (k : Nat)) (hk : k ≤ 1000)
    (hG : ∀ W W' x, Good W x → (∀ b ∈ blks x, W'.heap[b]? = W.heap[b]?) → Good W' x) (hJ : ∀ W W' s, J W s → Below w.heap.size W W' → J W' s) (hS : ∀ k ∈ S, k < w.heap.size) (hgS : g ∈ S) (hsrc : ∀ W, ButS S w W → Src W B n c bs)
    (h0 : J w s0) (hr0 : RdAt w g z0 e0 B n c)
    (hone : ∀ W s z, ButS S w W → J W s → RdAt W g z e0 B n c → Calls Try.prog 121 #[.pointer (some a), .pointer (some a2)] W fun d W' => ∃ x s' z1 e1, RetOne vP dat Good blks J S (f s z) e0 g B n c W x s' z1 e1 d W') :
    Calls Try.prog 120 #[.pointer (some ⟨g, 0, none⟩), .int .i64 M, .func (.func 121) #[] #[.pointer (some a), .pointer (some a2)]] w (RetSev 47 2 cellsP dat Good blks J S k (sevS f k s0 z0) e0 g B n c w) := by
  obtain ⟨i0, hi0, hz0, hz1, hz2⟩ := info_parts3 point_info2
  have HI := hid (And.intro hi0 (And.intro hz0 (And.intro hz1 hz2)))
  have hcf : ∀ (args : Array Value) (w : World), Sem.run Try.prog (callFunc 121 args) w = .ok (.enter 121 args) w := fun _ _ => rfl
  have HM := hid hM
  have HG := hid hG
  have HJ := hid hJ
  have HS := hid (And.intro hS hgS)
  have HSRC := hid hsrc
  have HONE := hid hone
  have HST0 := hid (show SevAt 47 2 cellsP Good blks J S w [] none 0 s0 w from ⟨World.ownsRow_nil _ _ _ _, h0, ButS.refl _ _, fun x hx => absurd hx (by simp), fun x hx => absurd hx (by simp), List.Pairwise.nil⟩)
  have HR0 := hid hr0
  have hlt0 := hr0.lt
  clear hi0 hz0 hz1 hz2 hM hG hJ hS hgS hsrc hone h0 hr0
  go_enter Try.func120, Try.ntmps120
  go_wp2_with fail
  go_step3
  go_wp2_with fail
  go_step3
  go_wp2_with fail
  go_loopw [7, 10] (fun u7 u10 wr => ∃ (i : Nat) (xs : List (Int × Int)) (s : σ) (z : Nat) (C : Option Addr) (f' : Nat), (i : Int) ≤ max M 0 ∧ u10 = .int .i64 (i : Nat) ∧ u7 = .slice C xs.length f' ∧ Hid (SevAt 47 2 cellsP Good blks J S w xs C f' s wr ∧ RdAt wr g z e0 B n c) ∧ Hid (xs.length = i ∧ (e0 = 0 → i ≤ k ∧ sevS f k s0 z0 = joinS (xs.map dat) (sevS f (k - i) s z)) ∧ (e0 ≠ 0 → i = 0))) (fun _ u10 _ => M.toNat - (intOf u10).toNat)
  case atStart => exact ⟨0, [], s0, z0, none, 0, by omega, rfl, rfl, hid ⟨HST0.out, HR0.out⟩, hid ⟨rfl, fun _ => ⟨Nat.zero_le _, by rw [Nat.sub_zero]; cases sevS f k s0 z0 with | error x => rfl | ok r => obtain ⟨⟨l, s⟩, z⟩ := r; simp [joinS]⟩, fun _ => rfl⟩⟩
  case round =>
    obtain ⟨i, xs, s, z, C, f', hi, rfl, rfl, hst, hrl⟩ := hrel
    have hsz := hst.out.1.fr.size
    by_cases hlt : (i : Int) < M
    · have HC := hid (HONE.out wr s z hst.out.1.fr hst.out.1.j hst.out.2)
      have hib : i ≤ 1000 := by
        by_cases h0 : e0 = 0
        · have := (hrl.out.2.1 h0).1; omega
        · have := hrl.out.2.2 h0; omega
      have hi1 : wrap64 ((i : Int) + 1) = (i : Int) + 1 := by unfold wrap64; omega
      have HSV := hid hst.out.1
      have HRL := hid hrl.out
      have hlt0' : g < wr.heap.size := Nat.lt_of_lt_of_le hlt0 hsz
      clear hst hrl
      go_wp2_with fail
      refine HC.out.mono ?_
      rintro d w1 ⟨x, s', z1, e1, hd, hfr, hrd, hj, hgd, hfs, hres⟩
      subst hd
      have HRD := hid hrd
      obtain ⟨c0, c1, c2, f0, f1, hlw⟩ := rd_cells hrd
      by_cases he : e1 = 0
      · have t : (e1 != 0) = false := by simp [he]
        obtain ⟨h00, hik, hnx⟩ := sev_ok HM.out hlt HRL.out hres he
        have HNX := hid hnx
        have hxb : xs.length ≤ 1000 := by have := HRL.out.1; omega
        have h00' := hid (And.intro h00 he)
        have HX := hid (And.intro hfr (And.intro hj (And.intro hgd hfs)))
        have HO1 := hid (show ((w1.alloc (.cells #[.int .i64 x.1, .int .i64 x.2] 47)).alloc (.cells #[.int .i64 x.1, .int .i64 x.2] 47)).ownsRow w.heap.size 47 2 (.slice C xs.length f') xs.length (xs.flatMap cellsP) from ((SevAt.keepS HG.out HS.out.1 HSV.out hfr hj).own.alloc _).alloc _)
        have HNW := hid (show Reads ((w1.alloc (.cells #[.int .i64 x.1, .int .i64 x.2] 47)).alloc (.cells #[.int .i64 x.1, .int .i64 x.2] 47)) 47 2 (some ⟨w1.heap.size + 1, 0, none⟩) 1 (cellsP x) by
          have h := new_reads (w1.alloc (.cells #[.int .i64 x.1, .int .i64 x.2] 47)) 47 2 (cellsP x) rfl
          rwa [World.size_alloc] at h)
        have HW2 := hid (show Below w1.heap.size w1 ((w1.alloc (.cells #[.int .i64 x.1, .int .i64 x.2] 47)).alloc (.cells #[.int .i64 x.1, .int .i64 x.2] 47)) from ((Below.refl _ _).alloc (Nat.le_refl _) _).alloc (by simp) _)
        have hs1 := hfr.size
        clear hres hfr hj hgd hfs hrd he h00 hnx HC
        go_wp2_with (at_builtin; refine wpList_append_any _ rfl (.tmp 20) (.tmp 22) 40 rfl w.heap.size 47 i0 (.agg #[.int .i64 0, .int .i64 0]) 2 16 Try.underlying40 HI.out.1 HI.out.2.1 HI.out.2.2.1 HI.out.2.2.2 rfl (by decide) _ xs.length (xs.flatMap cellsP) rfl HO1.out (some ⟨w1.heap.size + 1, 0, none⟩) 1 1 (cellsP x) rfl HNW.out (cellsP1_one x) (by simp only [maxLen]; omega) (by omega) (by simp; omega) ?_; intro v' w3 hown' hgr' hv')
        obtain ⟨C', f2, hvf, _, _⟩ := own_form hown'
        subst hvf
        have hxl1 : (xs ++ [x]).length = xs.length + 1 := by simp
        have hcl : xs.flatMap cellsP ++ cellsP x = (xs ++ [x]).flatMap cellsP := by simp
        rw [hcl, ← hxl1] at hown'
        rw [← hxl1] at hv' ⊢
        have HS3 := hid (SevAt.push HG.out HJ.out HS.out.1 HSV.out HX.out.1 HX.out.2.1 HX.out.2.2.1 HX.out.2.2.2 HW2.out hown' hgr' hv')
        have HR3 := hid (show RdAt w3 g z1 e0 B n c by
          rw [h00'.out.1, ← h00'.out.2]
          exact (HRD.out.under HW2.out).grown hgr' (fun e => by have := (HSV.out.own.lt _ e.symm).1; omega))
        clear hown' hgr' hv' hcl hxl1 HO1 HNW HW2 HX HSV HRL HRD c0 c1 c2 f0 f1 t
        generalize hxs : xs ++ [x] = xs2 at *
        clear hxs
        go_wp2_with fail
        go_roundw
        case rel => exact ⟨i + 1, xs2, s', z1, C', f2, by omega, by go_num, rfl, hid ⟨HS3.out, HR3.out⟩, HNX⟩
        case measure => simp [intOf]; omega
      · have t : (e1 != 0) = true := by simp [he]
        have HF := hid (show RetSev 47 2 cellsP dat Good blks J S k (sevS f k s0 z0) e0 g B n c w (.returned (.slice C xs.length f')) (w1.alloc (.cells #[.int .i64 x.1, .int .i64 x.2] 47)) from
          ⟨xs, C, f', s', z1, e1, rfl, SevAt.keepB HG.out HJ.out (SevAt.keepS HG.out HS.out.1 HSV.out hfr hj) ((Below.refl _ _).alloc (Nat.le_refl _) _), hrd.alloc _, sev_err HM.out hlt HRL.out hres he, sev_len HRL.out⟩)
        clear he hres hfr hj hgd hfs hrd HRD HC HRL HSV
        go_wp2_with fail
        try rw [Exit.noGoto_ret]
        go_ret
        exact HF.out
    · have HF := hid (show RetSev 47 2 cellsP dat Good blks J S k (sevS f k s0 z0) e0 g B n c w (.returned (.slice C xs.length f')) wr by
        refine ⟨xs, C, f', s, z, e0, rfl, hst.out.1, hst.out.2, ?_, sev_len hrl.out⟩
        by_cases he : e0 = 0
        · obtain ⟨h1, h2⟩ := hrl.out.2.1 he
          have h3 := HM.out he
          have h4 : k - i = 0 := by omega
          rw [h4, joinS_end] at h2
          rw [he]
          exact Res.ok h2 rfl
        · exact Res.was he)
      clear hst hrl hsz
      go_wp2_with fail
      try rw [Exit.noGoto_ret]
      go_ret
      exact HF.out

theorem row_info : (Try.prog.info? 42).map (fun i => (i.zero, i.size, i.bytes)) = some (some (.agg #[.string ⟨#[]⟩, .int .i64 0, .int .i64 0, .int .i64 0, .int .i64 0, .slice none 0 0, .slice none 0 0]), 7, 96) := by kernel_rfl
set_option maxRecDepth 100000 in
set_option maxHeartbeats 2000000 in
theorem sev_r {D σ : Type} {f : σ → Nat → Except Int ((D × σ) × Nat)} {dat : RoA → D} {Good : World → RoA → Prop} {blks : RoA → List Nat} {J : World → σ → Prop} {S : List Nat} {g : Nat} {B : Option Addr} {n c : Nat} {bs : List Nat} (a : Addr) (M : Int) (k : Nat) (s0 : σ) (z0 : Nat) (e0 : Int) (w : World)
    (hM : e0 = 0 → M = (k : Nat)) (hk : k ≤ 1000)
    (hG : ∀ W W' x, Good W x → (∀ b ∈ blks x, W'.heap[b]? = W.heap[b]?) → Good W' x) (hJ : ∀ W W' s, J W s → Below w.heap.size W W' → J W' s) (hS : ∀ k ∈ S, k < w.heap.size) (hgS : g ∈ S) (hsrc : ∀ W, ButS S w W → Src W B n c bs)
    (h0 : J w s0) (hr0 : RdAt w g z0 e0 B n c)
    (hone : ∀ W s z, ButS S w W → J W s → RdAt W g z e0 B n c → Calls Try.prog 53 #[.pointer (some a)] W fun d W' => ∃ x s' z1 e1, RetOne vR dat Good blks J S (f s z) e0 g B n c W x s' z1 e1 d W') :
    Calls Try.prog 51 #[.pointer (some ⟨g, 0, none⟩), .int .i64 M, .func (.func 53) #[.pointer (some a)] #[]] w (RetSev 42 7 cellsR dat Good blks J S k (sevS f k s0 z0) e0 g B n c w) := by
  obtain ⟨i0, hi0, hz0, hz1, hz2⟩ := info_parts3 row_info
  have HI := hid (And.intro hi0 (And.intro hz0 (And.intro hz1 hz2)))
  have hcf : ∀ (args : Array Value) (w : World), Sem.run Try.prog (callFunc 53 args) w = .ok (.enter 53 args) w := fun _ _ => rfl
  have HM := hid hM
  have HG := hid hG
  have HJ := hid hJ
  have HS := hid (And.intro hS hgS)
  have HSRC := hid hsrc
  have HONE := hid hone
  have HST0 := hid (show SevAt 42 7 cellsR Good blks J S w [] none 0 s0 w from ⟨World.ownsRow_nil _ _ _ _, h0, ButS.refl _ _, fun x hx => absurd hx (by simp), fun x hx => absurd hx (by simp), List.Pairwise.nil⟩)
  have HR0 := hid hr0
  have hlt0 := hr0.lt
  clear hi0 hz0 hz1 hz2 hM hG hJ hS hgS hsrc hone h0 hr0
  go_enter Try.func51, Try.ntmps51
  go_wp2_with fail
  go_step3
  go_wp2_with fail
  go_step3
  go_wp2_with fail
  go_loopw [7, 10] (fun u7 u10 wr => ∃ (i : Nat) (xs : List (RoA)) (s : σ) (z : Nat) (C : Option Addr) (f' : Nat), (i : Int) ≤ max M 0 ∧ u10 = .int .i64 (i : Nat) ∧ u7 = .slice C xs.length f' ∧ Hid (SevAt 42 7 cellsR Good blks J S w xs C f' s wr ∧ RdAt wr g z e0 B n c) ∧ Hid (xs.length = i ∧ (e0 = 0 → i ≤ k ∧ sevS f k s0 z0 = joinS (xs.map dat) (sevS f (k - i) s z)) ∧ (e0 ≠ 0 → i = 0))) (fun _ u10 _ => M.toNat - (intOf u10).toNat)
  case atStart => exact ⟨0, [], s0, z0, none, 0, by omega, rfl, rfl, hid ⟨HST0.out, HR0.out⟩, hid ⟨rfl, fun _ => ⟨Nat.zero_le _, by rw [Nat.sub_zero]; cases sevS f k s0 z0 with | error x => rfl | ok r => obtain ⟨⟨l, s⟩, z⟩ := r; simp [joinS]⟩, fun _ => rfl⟩⟩
  case round =>
    obtain ⟨i, xs, s, z, C, f', hi, rfl, rfl, hst, hrl⟩ := hrel
    have hsz := hst.out.1.fr.size
    by_cases hlt : (i : Int) < M
    · have HC := hid (HONE.out wr s z hst.out.1.fr hst.out.1.j hst.out.2)
      have hib : i ≤ 1000 := by
        by_cases h0 : e0 = 0
        · have := (hrl.out.2.1 h0).1; omega
        · have := hrl.out.2.2 h0; omega
      have hi1 : wrap64 ((i : Int) + 1) = (i : Int) + 1 := by unfold wrap64; omega
      have HSV := hid hst.out.1
      have HRL := hid hrl.out
      have hlt0' : g < wr.heap.size := Nat.lt_of_lt_of_le hlt0 hsz
      clear hst hrl
      go_wp2_with fail
      refine HC.out.mono ?_
      rintro d w1 ⟨x, s', z1, e1, hd, hfr, hrd, hj, hgd, hfs, hres⟩
      subst hd
      have HRD := hid hrd
      obtain ⟨c0, c1, c2, f0, f1, hlw⟩ := rd_cells hrd
      by_cases he : e1 = 0
      · have t : (e1 != 0) = false := by simp [he]
        obtain ⟨h00, hik, hnx⟩ := sev_ok HM.out hlt HRL.out hres he
        have HNX := hid hnx
        have hxb : xs.length ≤ 1000 := by have := HRL.out.1; omega
        have h00' := hid (And.intro h00 he)
        have HX := hid (And.intro hfr (And.intro hj (And.intro hgd hfs)))
        have HO1 := hid (show ((w1.alloc (.cells (aR x.nm x.ep x.fl x.la x.sc (.slice x.ea x.en.length x.ec) (.slice x.oa x.op.length x.oc)) 42)).alloc (.cells (aR x.nm x.ep x.fl x.la x.sc (.slice x.ea x.en.length x.ec) (.slice x.oa x.op.length x.oc)) 42)).ownsRow w.heap.size 42 7 (.slice C xs.length f') xs.length (xs.flatMap cellsR) from ((SevAt.keepS HG.out HS.out.1 HSV.out hfr hj).own.alloc _).alloc _)
        have HNW := hid (show Reads ((w1.alloc (.cells (aR x.nm x.ep x.fl x.la x.sc (.slice x.ea x.en.length x.ec) (.slice x.oa x.op.length x.oc)) 42)).alloc (.cells (aR x.nm x.ep x.fl x.la x.sc (.slice x.ea x.en.length x.ec) (.slice x.oa x.op.length x.oc)) 42)) 42 7 (some ⟨w1.heap.size + 1, 0, none⟩) 1 (cellsR x) by
          have h := new_reads (w1.alloc (.cells (aR x.nm x.ep x.fl x.la x.sc (.slice x.ea x.en.length x.ec) (.slice x.oa x.op.length x.oc)) 42)) 42 7 (cellsR x) rfl
          rwa [World.size_alloc] at h)
        have HW2 := hid (show Below w1.heap.size w1 ((w1.alloc (.cells (aR x.nm x.ep x.fl x.la x.sc (.slice x.ea x.en.length x.ec) (.slice x.oa x.op.length x.oc)) 42)).alloc (.cells (aR x.nm x.ep x.fl x.la x.sc (.slice x.ea x.en.length x.ec) (.slice x.oa x.op.length x.oc)) 42)) from ((Below.refl _ _).alloc (Nat.le_refl _) _).alloc (by simp) _)
        have hs1 := hfr.size
        clear hres hfr hj hgd hfs hrd he h00 hnx HC
        go_wp2_with (at_builtin; refine wpList_append_any _ rfl (.tmp 20) (.tmp 22) 22 rfl w.heap.size 42 i0 (.agg #[.string ⟨#[]⟩, .int .i64 0, .int .i64 0, .int .i64 0, .int .i64 0, .slice none 0 0, .slice none 0 0]) 7 96 Try.underlying22 HI.out.1 HI.out.2.1 HI.out.2.2.1 HI.out.2.2.2 rfl (by decide) _ xs.length (xs.flatMap cellsR) rfl HO1.out (some ⟨w1.heap.size + 1, 0, none⟩) 1 1 (cellsR x) rfl HNW.out (cellsR_one x) (by simp only [maxLen]; omega) (by omega) (by simp; omega) ?_; intro v' w3 hown' hgr' hv')
        obtain ⟨C', f2, hvf, _, _⟩ := own_form hown'
        subst hvf
        have hxl1 : (xs ++ [x]).length = xs.length + 1 := by simp
        have hcl : xs.flatMap cellsR ++ cellsR x = (xs ++ [x]).flatMap cellsR := by simp
        rw [hcl, ← hxl1] at hown'
        rw [← hxl1] at hv' ⊢
        have HS3 := hid (SevAt.push HG.out HJ.out HS.out.1 HSV.out HX.out.1 HX.out.2.1 HX.out.2.2.1 HX.out.2.2.2 HW2.out hown' hgr' hv')
        have HR3 := hid (show RdAt w3 g z1 e0 B n c by
          rw [h00'.out.1, ← h00'.out.2]
          exact (HRD.out.under HW2.out).grown hgr' (fun e => by have := (HSV.out.own.lt _ e.symm).1; omega))
        clear hown' hgr' hv' hcl hxl1 HO1 HNW HW2 HX HSV HRL HRD c0 c1 c2 f0 f1 t
        generalize hxs : xs ++ [x] = xs2 at *
        clear hxs
        go_wp2_with fail
        go_roundw
        case rel => exact ⟨i + 1, xs2, s', z1, C', f2, by omega, by go_num, rfl, hid ⟨HS3.out, HR3.out⟩, HNX⟩
        case measure => simp [intOf]; omega
      · have t : (e1 != 0) = true := by simp [he]
        have HF := hid (show RetSev 42 7 cellsR dat Good blks J S k (sevS f k s0 z0) e0 g B n c w (.returned (.slice C xs.length f')) (w1.alloc (.cells (aR x.nm x.ep x.fl x.la x.sc (.slice x.ea x.en.length x.ec) (.slice x.oa x.op.length x.oc)) 42)) from
          ⟨xs, C, f', s', z1, e1, rfl, SevAt.keepB HG.out HJ.out (SevAt.keepS HG.out HS.out.1 HSV.out hfr hj) ((Below.refl _ _).alloc (Nat.le_refl _) _), hrd.alloc _, sev_err HM.out hlt HRL.out hres he, sev_len HRL.out⟩)
        clear he hres hfr hj hgd hfs hrd HRD HC HRL HSV
        go_wp2_with fail
        try rw [Exit.noGoto_ret]
        go_ret
        exact HF.out
    · have HF := hid (show RetSev 42 7 cellsR dat Good blks J S k (sevS f k s0 z0) e0 g B n c w (.returned (.slice C xs.length f')) wr by
        refine ⟨xs, C, f', s, z, e0, rfl, hst.out.1, hst.out.2, ?_, sev_len hrl.out⟩
        by_cases he : e0 = 0
        · obtain ⟨h1, h2⟩ := hrl.out.2.1 he
          have h3 := HM.out he
          have h4 : k - i = 0 := by omega
          rw [h4, joinS_end] at h2
          rw [he]
          exact Res.ok h2 rfl
        · exact Res.was he)
      clear hst hrl hsz
      go_wp2_with fail
      try rw [Exit.noGoto_ret]
      go_ret
      exact HF.out
end Go.Proofs.Ytgdnpmjmkcccoaa
