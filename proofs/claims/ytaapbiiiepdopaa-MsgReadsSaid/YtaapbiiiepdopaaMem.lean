/- Memory lemmas, of no program: what a slice reads as, a block that is known whole, what a call leaves alone; the condition of each stands in its statement. -/
import Derived.WalkKit
import Derived.Below
import Derived.Laws.OwnMore
import Derived.Deep.AppendLies
import Derived.Deep.Draws
import Derived.Laws.Rows
import Derived.Laws.BytesArg
import Derived.Maps.AppendAt
import Derived.OwnWalk
import Derived.DataReads
import Derived.RegionTactic
namespace Go.Proofs.Ytaapbiiiepdopaa.Mem
open Go.RowKit
set_option linter.unusedVariables false

theorem hide {p : Prop} (h : p) : Hid p := h
theorem unhide {p : Prop} (h : Hid p) : p := h

/-- where the walk is to stand still -/
def Pause (p : Prop) : Prop := p
theorem pause {p : Prop} (h : Pause p) : p := h
theorem unpause {p : Prop} (h : p) : Pause p := h

theorem block_of_add (a : Addr) (n : Nat) : (a.add n).block = a.block := by unfold Addr.add; split <;> rfl
theorem add_of_add (a : Addr) (i j : Nat) : (a.add i).add j = a.add (i + j) := by
  unfold Addr.add
  by_cases hi : i = 0 <;> by_cases hj : j = 0 <;> simp [hi, hj, Nat.add_assoc]
theorem add_head (g j : Nat) : (⟨g, 0, none⟩ : Addr).add j = ⟨g, j, none⟩ := by unfold Addr.add; split <;> simp_all
theorem add_lit (g i j : Nat) : (⟨g, i, none⟩ : Addr).add j = ⟨g, i + j, none⟩ := by unfold Addr.add; split <;> simp_all

/-- All blocks that were there, but those in S, are as they were. -/
structure Only (S : Nat → Prop) (w w' : World) : Prop where
  os : w'.os = w.os
  tape : w'.tape = w.tape
  output : w'.output = w.output
  size : w.heap.size ≤ w'.heap.size
  block : ∀ k, k < w.heap.size → ¬ S k → w'.heap[k]? = w.heap[k]?

section
variable {S S' : Nat → Prop} {w w' w'' : World}
theorem Only.refl (S : Nat → Prop) (w : World) : Only S w w := ⟨rfl, rfl, rfl, Nat.le_refl _, fun _ _ _ => rfl⟩
theorem Only.mono (h : Only S w w') (hs : ∀ k, k < w.heap.size → S k → S' k) : Only S' w w' :=
  ⟨h.os, h.tape, h.output, h.size, fun k hk hn => h.block k hk fun hS => hn (hs k hk hS)⟩
theorem Only.trans (h : Only S w w') (h' : Only S' w' w'') (hs : ∀ k, k < w.heap.size → S' k → S k) : Only S w w'' :=
  ⟨h'.os.trans h.os, h'.tape.trans h.tape, h'.output.trans h.output, Nat.le_trans h.size h'.size, fun k hk hn =>
    (h'.block k (Nat.lt_of_lt_of_le hk h.size) fun hS => hn (hs k hk hS)).trans (h.block k hk hn)⟩
theorem Only.drew (h : Only S w w') : Only S w w'.drew := ⟨h.os, h.tape, h.output, h.size, h.block⟩
theorem Only.drewN (h : Only S w w') (n : Nat) : Only S w (w'.drewN n) := ⟨h.os, h.tape, h.output, h.size, h.block⟩
theorem Only.alloc (h : Only S w w') (o : Obj) : Only S w (w'.alloc o) :=
  ⟨h.os, h.tape, h.output, Nat.le_trans h.size (by simp), fun k hk hn => (Below.heap_alloc _ _ _ (Nat.lt_of_lt_of_le hk h.size)).trans (h.block k hk hn)⟩
theorem Only.setCell (h : Only S w w') {p : Addr} (hp : S p.block ∨ w.heap.size ≤ p.block) (u : Value) : Only S w (w'.setCell p u) :=
  ⟨h.os, h.tape, h.output, by simpa [World.setCell] using h.size, fun k hk hn => (Below.heap_setCell w' p u k (by
    rintro rfl
    rcases hp with hp | hp
    · exact hn hp
    · omega)).trans (h.block k hk hn)⟩
theorem Only.grown (h : Only S w w') {row : Option Nat} (hg : w'.grownBy w'' row) (hr : ∀ k, row = some k → S k ∨ w.heap.size ≤ k) : Only S w w'' :=
  ⟨hg.os.trans h.os, hg.tape.trans h.tape, hg.output.trans h.output, Nat.le_trans h.size hg.size, fun k hk hn =>
    (hg.block k (Nat.lt_of_lt_of_le hk h.size) (fun e => by
      rcases hr k e.symm with h1 | h1
      · exact hn h1
      · omega)).trans (h.block k hk hn)⟩
theorem Only.below {B : Nat} (h : Only S w w') (hs : ∀ k, k < w.heap.size → S k → B ≤ k) (hB : B ≤ w.heap.size) : Below B w w' :=
  ⟨h.os, h.tape, h.output, h.size, fun k hk => h.block k (by omega) (fun hS => by have := hs k (by omega) hS; omega)⟩
theorem Only.ofBelow (h : Below w.heap.size w w') : Only S w w' := ⟨h.os, h.tape, h.output, h.size, fun k hk _ => h.block k hk⟩
theorem Only.ofGrown {row : Option Nat} (h : w.grownBy w' row) : Only (fun k => row = some k) w w' := ⟨h.os, h.tape, h.output, h.size, fun k hk hn => h.block k hk (fun e => hn e.symm)⟩
theorem Only.toGrown {row : Option Nat} (h : Only S w w') (hs : ∀ k, k < w.heap.size → S k → row = some k) : w.grownBy w' row :=
  ⟨h.os, h.tape, h.output, h.size, fun k hk hn => h.block k hk (fun hS => hn (hs k hk hS).symm)⟩
theorem Only.cell (h : Only S w w') {p : Addr} (hp : p.block < w.heap.size) (hn : ¬ S p.block) : w'.cell? p = w.cell? p := World.cell?_of_block (w := w) (h.block p.block hp hn)
theorem Only.frozen (h : Only S w w') {p : Addr} (hp : p.block < w.heap.size) (hn : ¬ S p.block) : w'.frozen? p = w.frozen? p := World.frozen?_of_block (w := w) (h.block p.block hp hn)
end

/-- Block g is just the cells cs, of element type t, none frozen. -/
def Blk (w : World) (g : Nat) (t : TypeId) (cs : Array Value) : Prop := w.heap[g]? = some (.cells cs t (0, 0))

section
variable {w w' : World} {g : Nat} {t : TypeId} {cs : Array Value}
theorem Blk.lt (h : Blk w g t cs) : g < w.heap.size := by
  rcases Nat.lt_or_ge g w.heap.size with hlt | hge
  · exact hlt
  · unfold Blk at h; rw [Array.getElem?_eq_none hge] at h; cases h
theorem Blk.cell (h : Blk w g t cs) (i : Nat) : w.cell? ⟨g, i, none⟩ = cs[i]? := cell_of_row w g i cs t (0, 0) h
theorem Blk.frozen (h : Blk w g t cs) (i : Nat) : w.frozen? ⟨g, i, none⟩ = false := by
  unfold Blk at h
  simp [World.frozen?, h]
theorem Blk.new (w : World) (t : TypeId) (cs : Array Value) : Blk (w.alloc (.cells cs t)) w.heap.size t cs := heap_alloc_new w _
theorem Blk.drew (h : Blk w g t cs) : Blk w.drew g t cs := h
theorem Blk.drewN (h : Blk w g t cs) (n : Nat) : Blk (w.drewN n) g t cs := h
theorem Blk.alloc (h : Blk w g t cs) (o : Obj) : Blk (w.alloc o) g t cs := (Below.heap_alloc w o g h.lt).trans h
theorem Blk.set_ (h : Blk w g t cs) (i : Nat) (u : Value) : Blk (w.setCell ⟨g, i, none⟩ u) g t (cs.setIfInBounds i u) := by
  unfold Blk at h ⊢
  simp [World.setCell, Array.getElem?_modify, h]
theorem Blk.far (h : Blk w g t cs) {p : Addr} (hp : g ≠ p.block) (u : Value) : Blk (w.setCell p u) g t cs := (Below.heap_setCell w p u g hp).trans h
theorem Blk.below {B : Nat} (h : Blk w g t cs) (hb : Below B w w') (hg : g < B) : Blk w' g t cs := (hb.block g hg).trans h
theorem Blk.grown {row : Option Nat} (h : Blk w g t cs) (hb : w.grownBy w' row) (hg : some g ≠ row) : Blk w' g t cs := (hb.block g h.lt hg).trans h
theorem Blk.only {S : Nat → Prop} (h : Blk w g t cs) (ho : Only S w w') (hg : ¬ S g) : Blk w' g t cs := (ho.block g h.lt hg).trans h
theorem Blk.ne_ {g' : Nat} {t' : TypeId} {cs' : Array Value} (h : Blk w g t cs) (h' : Blk w g' t' cs') (hne : t ≠ t') : g ≠ g' := by
  rintro rfl
  unfold Blk at h h'
  rw [h] at h'
  injection h' with h'
  injection h' with _ ht
  exact hne ht
theorem own_blk_ne {base : Nat} {e : TypeId} {size n : Nat} {v : Value} {xs : List Value} (h : w.ownsRow base e size v n xs) (hg : Blk w g t cs) (hne : e ≠ t) : v.ownBlock ≠ some g := by
  rcases h.2 with ⟨rfl, _⟩ | ⟨g', cap, cur, rfl, _, hh, _⟩
  · simp [Value.ownBlock]
  · intro he
    have : g' = g := by simpa [Value.ownBlock] using he
    subst this
    exact Blk.ne_ (t := e) hh hg hne rfl
end

/-- The slice value '.slice A n c' holds the cells xs, size cells an element; its block lies from lo on and below hi. -/
def Reads (w : World) (lo hi size : Nat) (A : Option Addr) (n : Nat) (xs : List Value) : Prop :=
  xs.length = n * size ∧ (0 < n → ∃ ad, A = some ad ∧ lo ≤ ad.block ∧ ad.block < hi ∧ ∀ j u, xs[j]? = some u → w.cell? (ad.add j) = some u)

section
variable {w w' : World} {lo hi lo' hi' size n : Nat} {A : Option Addr} {xs : List Value}
theorem Reads.none_ : Reads w lo hi size A 0 [] := ⟨by simp, fun h => absurd h (by omega)⟩
theorem Reads.zero (hn : n = 0) (hx : xs = []) : Reads w lo hi size A n xs := by subst hn; subst hx; exact ⟨by simp, fun h => absurd h (by omega)⟩
theorem Reads.at_ {k : Nat} (h : Reads w lo hi 1 A n xs) (hk : k < n) : ∃ ad u, A = some ad ∧ lo ≤ ad.block ∧ ad.block < hi ∧ xs[k]? = some u ∧ w.cell? (ad.add k) = some u := by
  obtain ⟨ad, e, hl, hb, hc⟩ := h.2 (by omega)
  have hl' : k < xs.length := by have := h.1; omega
  exact ⟨ad, xs[k], e, hl, hb, List.getElem?_eq_getElem hl', hc k _ (List.getElem?_eq_getElem hl')⟩
/-- with a plain address -/
theorem Reads.plain (h : Reads w lo hi size A n xs) (hn : 0 < n) (hs : 0 < size) : ∃ b off, A = some ⟨b, off, none⟩ ∧ lo ≤ b ∧ b < hi ∧ b < w.heap.size ∧ ∀ j, j < n * size → w.cell? ⟨b, off + j, none⟩ = xs[j]? := by
  obtain ⟨ad, e, hl, hb, hc⟩ := h.2 hn
  have h0 : 0 < n * size := Nat.mul_pos hn hs
  have hx : xs[0]? = some (xs[0]'(by have := h.1; omega)) := List.getElem?_eq_getElem _
  have hc0 := hc 0 _ hx
  have hsp : ad.spot = none := by
    have := World.cell?_spot hc0
    simpa [Addr.add] using this
  have hlt : ad.block < w.heap.size := by
    have := World.block_lt_of_cell? w _ hc0
    rwa [block_of_add] at this
  obtain ⟨b, off, sp⟩ := ad
  simp only at hsp
  subst hsp
  refine ⟨b, off, e, hl, hb, hlt, fun j hj => ?_⟩
  have hx : xs[j]? = some (xs[j]'(by have := h.1; omega)) := List.getElem?_eq_getElem _
  rw [← add_lit, hx]
  exact hc j _ hx
theorem Reads.keep (h : Reads w lo hi size A n xs) (hk : ∀ p : Addr, lo ≤ p.block → p.block < hi → w'.cell? p = w.cell? p) : Reads w' lo hi size A n xs :=
  ⟨h.1, fun hn => by
    obtain ⟨ad, e, hl, hb, hc⟩ := h.2 hn
    exact ⟨ad, e, hl, hb, fun j u hu => (hk _ (by rw [block_of_add]; exact hl) (by rw [block_of_add]; exact hb)).trans (hc j u hu)⟩⟩
theorem Reads.keepA (h : Reads w lo hi size A n xs) (hk : ∀ ad k, A = some ad → lo ≤ ad.block → ad.block < hi → w'.cell? (ad.add k) = w.cell? (ad.add k)) : Reads w' lo hi size A n xs :=
  ⟨h.1, fun hn => by
    obtain ⟨ad, e, hl, hb, hc⟩ := h.2 hn
    exact ⟨ad, e, hl, hb, fun j u hu => (hk ad j e hl hb).trans (hc j u hu)⟩⟩
theorem Reads.more (h : Reads w lo hi size A n xs) (hL : lo' ≤ lo) (hB : hi ≤ hi') : Reads w lo' hi' size A n xs :=
  ⟨h.1, fun hn => by
    obtain ⟨ad, e, hl, hb, hc⟩ := h.2 hn
    exact ⟨ad, e, by omega, by omega, hc⟩⟩
theorem Reads.only {S : Nat → Prop} (h : Reads w lo hi size A n xs) (ho : Only S w w') (hS : ∀ k, lo ≤ k → k < hi → ¬ S k) (hh : hi ≤ w.heap.size) : Reads w' lo hi size A n xs :=
  h.keep fun p h1 h2 => ho.cell (by omega) (hS _ h1 h2)
theorem Reads.below {B : Nat} (h : Reads w lo hi size A n xs) (hb : Below B w w') (hB : hi ≤ B) : Reads w' lo hi size A n xs := h.keep fun _ _ hp => hb.cell (by omega)
theorem Reads.drew (h : Reads w lo hi size A n xs) : Reads w.drew lo hi size A n xs := h
theorem Reads.drewN (h : Reads w lo hi size A n xs) (k : Nat) : Reads (w.drewN k) lo hi size A n xs := h
theorem Reads.alloc (h : Reads w lo hi size A n xs) (hB : hi ≤ w.heap.size) (o : Obj) : Reads (w.alloc o) lo hi size A n xs := h.keep fun p _ hp => World.cell?_alloc_lt w o p (by omega)
theorem Reads.setCell (h : Reads w lo hi size A n xs) {p : Addr} (hB : p.block < lo ∨ hi ≤ p.block) (u : Value) : Reads (w.setCell p u) lo hi size A n xs :=
  h.keep fun q h1 h2 => World.cell?_setCell_other w p q u (fun e => by subst e; omega)
theorem Reads.grown (h : Reads w lo hi size A n xs) {row : Option Nat} (hg : w.grownBy w' row) (hB : hi ≤ w.heap.size) (hr : ∀ g, row = some g → g < lo ∨ hi ≤ g) : Reads w' lo hi size A n xs :=
  h.keep fun p h1 h2 => World.cell?_of_block (hg.block p.block (by omega) (fun e => by have := hr _ e.symm; omega))
theorem Reads.cut (h : Reads w lo hi size A n xs) {k cap : Nat} (hk : k ≤ n) (hc : n ≤ cap) :
    Reads w lo hi size (if cap = k then A else A.map (·.add (k * size))) (n - k) (xs.drop (k * size)) := by
  refine ⟨by rw [List.length_drop, h.1, Nat.sub_mul], fun hn => ?_⟩
  obtain ⟨ad, rfl, hl, hb, hcell⟩ := h.2 (by omega)
  rw [if_neg (by omega)]
  refine ⟨ad.add (k * size), rfl, by rw [block_of_add]; exact hl, by rw [block_of_add]; exact hb, fun j u hu => ?_⟩
  rw [add_of_add]
  exact hcell _ u (by rw [← hu, List.getElem?_drop])
theorem Reads.cut_ (h : Reads w lo hi size A n xs) {k : Nat} (hk : k ≤ n) : Reads w lo hi size (A.map (·.add (k * size))) (n - k) (xs.drop (k * size)) := by
  refine ⟨by rw [List.length_drop, h.1, Nat.sub_mul], fun hn => ?_⟩
  obtain ⟨ad, rfl, hl, hb, hcell⟩ := h.2 (by omega)
  refine ⟨ad.add (k * size), rfl, by rw [block_of_add]; exact hl, by rw [block_of_add]; exact hb, fun j u hu => ?_⟩
  rw [add_of_add]
  exact hcell _ u (by rw [← hu, List.getElem?_drop])
theorem Reads.take (h : Reads w lo hi size A n xs) {k : Nat} (hk : k ≤ n) : Reads w lo hi size A k (xs.take (k * size)) := by
  have h1 : k * size ≤ n * size := Nat.mul_le_mul_right _ hk
  refine ⟨by rw [List.length_take, h.1]; omega, fun hn => ?_⟩
  obtain ⟨ad, rfl, hl, hb, hcell⟩ := h.2 (by omega)
  refine ⟨ad, rfl, hl, hb, fun j u hu => hcell j u ?_⟩
  rw [List.getElem?_take] at hu
  split at hu
  · exact hu
  · cases hu
theorem Reads.of_own {base : Nat} {e : TypeId} {c : Nat} (h : w.ownsRow base e size (.slice A n c) n xs) : Reads w base w.heap.size size A n xs := by
  refine ⟨h.1, fun hn => ?_⟩
  obtain ⟨g, cap, hv, hl, hlt⟩ := h.form hn
  have hA : A = some ⟨g, 0, none⟩ := by injection hv
  subst hA
  exact ⟨_, rfl, hl, hlt, h.cells (g := g) rfl⟩
/-- a block just laid -/
theorem Reads.lit (w : World) (cs : Array Value) (t : TypeId) (n size : Nat) (h : cs.size = n * size) : Reads (w.alloc (.cells cs t)) w.heap.size (w.heap.size + 1) size (some ⟨w.heap.size, 0, none⟩) n cs.toList :=
  ⟨by simpa using h, fun _ => ⟨_, rfl, Nat.le_refl _, by simp, fun j u hu => by
    rw [add_head, (Blk.new w t cs).cell]
    simpa using hu⟩⟩
/-- a block just laid, with the mark of a string's bytes -/
theorem Reads.litF (w : World) (cs : Array Value) (t : TypeId) (fr : Nat × Nat) (n size : Nat) (h : cs.size = n * size) : Reads (w.alloc (.cells cs t fr)) w.heap.size (w.heap.size + 1) size (some ⟨w.heap.size, 0, none⟩) n cs.toList :=
  ⟨by simpa using h, fun _ => ⟨_, rfl, Nat.le_refl _, by simp, fun j u hu => by
    rw [add_head, cell_of_row _ _ _ _ _ _ (heap_alloc_new w (.cells cs t fr))]
    simpa using hu⟩⟩
/-- the same, its block named -/
theorem Reads.of_own_at {base g : Nat} {e : TypeId} {v : Value} (h : w.ownsRow base e size v n xs) (hg : v = .slice none 0 0 ∨ v.ownBlock = some g) : ∃ A c, v = .slice A n c ∧ n ≤ c ∧ Reads w g (g + 1) size A n xs := by
  rcases h.2 with ⟨rfl, rfl⟩ | ⟨g', cap, cur, rfl, _, hh, hc, _⟩
  · have := h.1
    simp at this
    subst this
    exact ⟨none, 0, rfl, Nat.le_refl _, Reads.none_⟩
  · have e : g' = g := by
      rcases hg with hg | hg
      · cases hg
      · simpa [Value.ownBlock] using hg
    subst e
    exact ⟨_, cap, rfl, hc, h.1, fun hn => ⟨_, rfl, Nat.le_refl _, by simp, h.cells (g := g') rfl⟩⟩
end

/-! ## Bytes -/
/-- a byte as a value -/
def B8 (b : UInt8) : Value := .int .u8 b.toNat
theorem B8_one (xs : List UInt8) : ∀ u ∈ xs.map B8, u.oneCell' = true := by
  intro u hu
  obtain ⟨_, _, rfl⟩ := List.mem_map.1 hu
  rfl
theorem B8_ofNat (k : Nat) (h : k < 256) : Value.int .u8 (k : Int) = B8 (UInt8.ofNat k) := by
  unfold B8
  congr 1
  simp
  omega
theorem strNums (xs : List UInt8) : strOfNums (xs.map fun b => (b.toNat : Int)) = ⟨xs.toArray⟩ := by
  unfold strOfNums
  congr 2
  rw [List.map_map]
  conv => rhs; rw [← List.map_id xs]
  exact List.map_congr_left fun b _ => by simp

section
variable {P : Program} {w : World} {lo hi n : Nat} {A : Option Addr} {xs : List UInt8}
theorem Reads.loadCells {ad : Addr} (h : Reads w lo hi 1 (some ad) n (xs.map B8)) : (Go.loadCells ad n).run P w = .ok (xs.map B8).toArray w := by
  have hl : xs.length = n := by simpa using h.1
  have := run_loadCells_list (P := P) w ad (xs.map B8) (fun j v hj => by
    rcases Nat.eq_zero_or_pos n with h0 | h0
    · have : xs = [] := List.eq_nil_of_length_eq_zero (by omega)
      subst this
      simp at hj
    · obtain ⟨ad', e, _, _, hc⟩ := h.2 h0
      cases e
      exact hc j v hj)
  simpa [hl] using this
theorem Reads.str (h : Reads w lo hi 1 A n (xs.map B8)) (src dst e : TypeId) (hs : P.underlying src = some (.slice e)) (he : P.underlying e = some (.int .u8)) (hd : P.underlying dst = some .string) (c : Nat) :
    (convert src dst (.slice A n c)).run P w = .ok (.string ⟨xs.toArray⟩) w := by
  have hl : xs.length = n := by simpa using h.1
  cases A with
  | none =>
    have h0 : n = 0 := by
      rcases Nat.eq_zero_or_pos n with h0 | h0
      · exact h0
      · obtain ⟨ad, e, _⟩ := h.2 h0
        cases e
    have : xs = [] := List.eq_nil_of_length_eq_zero (by omega)
    subst this
    exact run_convert_bytes_nil w src e hs he n c dst hd
  | some ad =>
    rw [run_convert_bytes_string w src dst e _ n c hs he hd]
    have hl := h.loadCells (P := P)
    have hm : xs.map B8 = (xs.map fun b => (b.toNat : Int)).map (Value.int .u8) := by simp [B8, Function.comp_def]
    rw [hm] at hl
    rw [run_bytesToString w ad n c _ hl, foldl_push_bytes]
    have e := strNums xs
    unfold strOfNums at e
    rw [ByteArray.mk.injEq] at e
    rw [e]
    simp [ByteArray.empty, ByteArray.emptyWithCapacity]
    rfl
end

/-! ## append onto a row of the call's own, the source nil, empty or not -/
section
variable {P : Program} (w : World)

theorem run_append_of_nil (base : Nat) (t ty e : TypeId) (i : TypeInfo) (size : Nat) (ht : P.underlying t = some (.slice e)) (hi : P.info? e = some i)
    (v : Value) (n : Nat) (xs : List Value) (hown : w.ownsRow base e size v n xs) (c : Nat) : (Builtin.append_ #[t, t] ty #[v, .slice none 0 c]).run P w = .ok v w := by
  rcases hown.2 with ⟨rfl, rfl⟩ | ⟨g, cap, cur, rfl, _, _, hnc, _⟩
  · simp [Builtin.append_, run_underlying ht, sizeOf, typeInfo, hi, Builtin.lenOf, Builtin.firstCells]
  · simp [Builtin.append_, run_underlying ht, sizeOf, typeInfo, hi, Builtin.lenOf, Builtin.firstCells, hnc, storeCells]

theorem run_append_any (base : Nat) (t ty e : TypeId) (i : TypeInfo) (z : Value) (size bytes : Nat) (ht : P.underlying t = some (.slice e)) (hi : P.info? e = some i) (hz : i.zero = some z)
    (hsize : i.size = size) (hby : i.bytes = bytes) (hzs : z.cells.size = size) (hsz : 0 < size)
    (v : Value) (n : Nat) (xs : List Value) (hown : w.ownsRow base e size v n xs)
    (lo hh : Nat) (A : Option Addr) (m c : Nat) (news : List Value) (hr : Reads w lo hh size A m news) (h1 : ∀ u ∈ news, u.oneCell' = true)
    (h63 : n + m ≤ maxLen) (hbytes : (n + m) * bytes ≤ 140737488355328) (hbase : base ≤ w.heap.size) :
    ∃ v' w', (Builtin.append_ #[t, t] ty #[v, .slice A m c]).run P w = .ok v' w' ∧ w'.ownsRow base e size v' (n + m) (xs ++ news) ∧ w.grownBy w' v.ownBlock ∧
      (v'.ownBlock = v.ownBlock ∨ v'.ownBlock = some w.heap.size) := by
  rcases A with _ | ad
  · have hm : m = 0 := by
      rcases Nat.eq_zero_or_pos m with h0 | h0
      · exact h0
      · obtain ⟨ad, h, _⟩ := hr.2 h0
        cases h
    subst hm
    have hn : news = [] := List.eq_nil_of_length_eq_zero (by simpa using hr.1)
    subst hn
    exact ⟨v, w, run_append_of_nil w base t ty e i size ht hi v n xs hown c, by simpa using hown, World.grownBy.refl w _, .inl rfl⟩
  · have hcells : ∀ j u, news[j]? = some u → w.cell? (ad.add j) = some u := by
      intro j u hu
      rcases Nat.eq_zero_or_pos m with h0 | h0
      · subst h0
        have hn : news = [] := List.eq_nil_of_length_eq_zero (by simpa using hr.1)
        subst hn
        simp at hu
      · obtain ⟨ad', h, _, _, hc⟩ := hr.2 h0
        injection h with h
        subst h
        exact hc j u hu
    obtain ⟨v', w', hrun, h2, h3, _, h5⟩ := run_append_own_at (P := P) w base t ty e i z size bytes ht hi hz hsize hby hzs hsz v n xs hown ad m c news hr.1 hcells h1 h63 hbytes hbase
    exact ⟨v', w', hrun, h2, h3, h5⟩

theorem wp_append_any {o : Oper} {a : Act} {K : Act → World → Prop} {Q : Exit → Act → World → Prop} (s x : Operand) (t : TypeId)
    (ho : o.op = .call { callee := .builtin .append, args := #[s, x], argTypes := #[t, t] })
    (base : Nat) (e : TypeId) (i : TypeInfo) (z : Value) (size bytes : Nat) (ht : P.underlying t = some (.slice e)) (hi : P.info? e = some i) (hz : i.zero = some z)
    (hsize : i.size = size) (hby : i.bytes = bytes) (hzs : z.cells.size = size) (hsz : 0 < size)
    (v : Value) (n : Nat) (xs : List Value) (hs : a.eval s = v) (hown : w.ownsRow base e size v n xs)
    (lo hh : Nat) (A : Option Addr) (m c : Nat) (news : List Value) (hx : a.eval x = .slice A m c) (hr : Reads w lo hh size A m news) (h1 : ∀ u ∈ news, u.oneCell' = true)
    (h63 : n + m ≤ maxLen) (hbytes : (n + m) * bytes ≤ 140737488355328) (hbase : base ≤ w.heap.size)
    (h : ∀ v' w', w'.ownsRow base e size v' (n + m) (xs ++ news) → w.grownBy w' v.ownBlock → (v'.ownBlock = v.ownBlock ∨ v'.ownBlock = some w.heap.size) → K (a.put o.dst v') w') : o.wp P a w K Q := by
  obtain ⟨v', w', hrun, h2, h3, h4⟩ := run_append_any (P := P) w base t o.type e i z size bytes ht hi hz hsize hby hzs hsz v n xs hown lo hh A m c news hr h1 h63 hbytes hbase
  unfold Oper.wp execOp
  simp only [ho, resolve, invoke, builtin, Sem.run_bind, Sem.run_pure, Result.andThen_ok, List.map_toArray, List.map_cons, List.map_nil, hs, hx, hrun]
  exact h v' w' h2 h3 h4

theorem wpList_append_any {ops : Array Oper} {rest : List Oper} {o : Oper} {a : Act} {Q : Exit → Act → World → Prop} (hgd : o.guard = none) (s x : Operand) (t : TypeId)
    (ho : o.op = .call { callee := .builtin .append, args := #[s, x], argTypes := #[t, t] })
    (base : Nat) (e : TypeId) (i : TypeInfo) (z : Value) (size bytes : Nat) (ht : P.underlying t = some (.slice e)) (hi : P.info? e = some i) (hz : i.zero = some z)
    (hsize : i.size = size) (hby : i.bytes = bytes) (hzs : z.cells.size = size) (hsz : 0 < size)
    (v : Value) (n : Nat) (xs : List Value) (hs : a.eval s = v) (hown : w.ownsRow base e size v n xs)
    (lo hh : Nat) (A : Option Addr) (m c : Nat) (news : List Value) (hx : a.eval x = .slice A m c) (hr : Reads w lo hh size A m news) (h1 : ∀ u ∈ news, u.oneCell' = true)
    (h63 : n + m ≤ maxLen) (hbytes : (n + m) * bytes ≤ 140737488355328) (hbase : base ≤ w.heap.size)
    (h : ∀ v' w', w'.ownsRow base e size v' (n + m) (xs ++ news) → w.grownBy w' v.ownBlock → (v'.ownBlock = v.ownBlock ∨ v'.ownBlock = some w.heap.size) → wpList P ops Q rest (a.put o.dst v') w') : wpList P ops Q (o :: rest) a w :=
  wpList_plain hgd fun _ hK => wp_append_any w s x t ho base e i z size bytes ht hi hz hsize hby hzs hsz v n xs hs hown lo hh A m c news hx hr h1 h63 hbytes hbase fun v' w' h2 h3 h4 => hK _ _ (h v' w' h2 h3 h4)
end

/-- a slice type's element: its zero value, its cells, its bytes -/
structure Elem (P : Program) (t e : TypeId) (z : Value) (size bytes : Nat) : Prop where
  slice : P.underlying t = some (.slice e)
  info : (P.info? e).map (fun i => (i.zero, i.size, i.bytes)) = some (some z, size, bytes)
  cells : z.cells.size = size
  pos : 0 < size

section
variable {P : Program} {w : World} {ops : Array Oper} {rest : List Oper} {o : Oper} {a : Act} {Q : Exit → Act → World → Prop} {t e : TypeId} {z : Value} {size bytes : Nat}
theorem own_form {base N : Nat} {v : Value} {ys : List Value} (h : w.ownsRow base e size v N ys) : ∃ A c, v = .slice A N c ∧ N ≤ c ∧ Reads w base w.heap.size size A N ys := by
  rcases h.2 with ⟨rfl, rfl⟩ | ⟨g, cap, cur, rfl, hb, hh, hc, _⟩
  · have h1 := h.1
    simp at h1
    subst h1
    exact ⟨none, 0, rfl, Nat.le_refl _, Reads.none_⟩
  · exact ⟨_, cap, rfl, hc, Reads.of_own h⟩
theorem wpList_app (hE : Elem P t e z size bytes) (s x : Operand) {base : Nat} {v : Value} {n : Nat} {xs : List Value} (hown : w.ownsRow base e size v n xs)
    {lo hh : Nat} {A : Option Addr} {m c : Nat} {news : List Value} (hr : Reads w lo hh size A m news) (h1 : ∀ u ∈ news, u.oneCell' = true)
    {N : Nat} {ys : List Value} (hN : n + m = N) (hys : xs ++ news = ys)
    (h63 : N ≤ maxLen) (hbytes : N * bytes ≤ 140737488355328) (hbase : base ≤ w.heap.size)
    (hgd : o.guard = none) (ho : o.op = .call { callee := .builtin .append, args := #[s, x], argTypes := #[t, t] }) (hs : a.eval s = v) (hx : a.eval x = .slice A m c)
    (h : ∀ A' c' w', w'.ownsRow base e size (.slice A' N c') N ys → w.grownBy w' v.ownBlock → ((Value.slice A' N c').ownBlock = v.ownBlock ∨ (Value.slice A' N c').ownBlock = some w.heap.size) → wpList P ops Q rest (a.put o.dst (.slice A' N c')) w') : wpList P ops Q (o :: rest) a w := by
  obtain ⟨i, hi, hz, hsz, hby⟩ := info_parts hE.info
  subst hN
  subst hys
  refine wpList_append_any w hgd s x t ho base e i z size bytes hE.slice hi hz hsz hby hE.cells hE.pos v n xs hs hown lo hh A m c news hx hr h1 h63 hbytes hbase ?_
  intro v' w' h2 h3 h4
  obtain ⟨A', c', rfl, _⟩ := own_form h2
  exact h A' c' w' h2 h3 h4

/-- append within the capacity: the value is known -/
theorem wpList_app_fits (hE : Elem P t e z size bytes) (s x : Operand) {base g cap : Nat} {n : Nat} {xs : List Value} (hown : w.ownsRow base e size (.slice (some ⟨g, 0, none⟩) n cap) n xs)
    {lo hh : Nat} {A : Option Addr} {m c : Nat} {news : List Value} (hr : Reads w lo hh size A m news) (h1 : ∀ u ∈ news, u.oneCell' = true) (hfit : n + m ≤ cap)
    (hgd : o.guard = none) (ho : o.op = .call { callee := .builtin .append, args := #[s, x], argTypes := #[t, t] }) (hs : a.eval s = .slice (some ⟨g, 0, none⟩) n cap) (hx : a.eval x = .slice A m c) (hA : A = none → c = 0)
    (h : ∀ w', w'.ownsRow base e size (.slice (some ⟨g, 0, none⟩) (n + m) cap) (n + m) (xs ++ news) → w.grownBy w' (some g) → wpList P ops Q rest (a.put o.dst (.slice (some ⟨g, 0, none⟩) (n + m) cap)) w') : wpList P ops Q (o :: rest) a w := by
  obtain ⟨i, hi, hz, hsz, hby⟩ := info_parts hE.info
  refine wpList_append_fits_any w hgd s x t ho base e i size hE.slice hi hsz g n cap xs hs hown A m c news hx hr.1 (fun hA' => ⟨?_, hA hA'⟩) (fun ad hA' j u hu => ?_) h1 hfit h
  · rcases Nat.eq_zero_or_pos m with h0 | h0
    · exact h0
    · obtain ⟨ad, h, _⟩ := hr.2 h0
      rw [hA'] at h
      cases h
  · rcases Nat.eq_zero_or_pos m with h0 | h0
    · subst h0
      have hn : news = [] := List.eq_nil_of_length_eq_zero (by simpa using hr.1)
      subst hn
      simp at hu
    · obtain ⟨ad', h, _, _, hc⟩ := hr.2 h0
      rw [hA'] at h
      cases h
      exact hc j u hu

/-- 'make([]T, 0, n)' -/
theorem wpList_mk0 (hE : Elem P t e z size bytes) (l c : Operand) (base n : Nat) (b2 : bytes * n ≤ 281474976710656) (b3 : n ≤ maxLen) (b4 : base ≤ w.heap.size)
    {kl kc : IntKind} {C : Int} (hg : o.guard = none) (hop : o.op = Op.makeSlice t l c) (hl : a.eval l = .int kl 0) (hc : a.eval c = .int kc C) (hC : C = (n : Int))
    (hK : ∀ w', w'.ownsRow base e size (.slice (some ⟨w.heap.size, 0, none⟩) 0 n) 0 [] → w.grownBy w' none → wpList P ops Q rest (a.put o.dst (.slice (some ⟨w.heap.size, 0, none⟩) 0 n)) w') :
    wpList P ops Q (o :: rest) a w := by
  obtain ⟨i, hi, hz, hsz, hby⟩ := info_parts hE.info
  exact wpList_make_own w hg l c t hop base e i z size hE.slice hi hz hsz kl kc C n hl hc hC (by rw [hby]; exact b2) b3 b4 hK
/-- 'make([]T, n)' -/
theorem wpList_mkn (hE : Elem P t e z size bytes) (l c : Operand) (base n : Nat) (b2 : bytes * n ≤ 281474976710656) (b3 : n ≤ maxLen) (b4 : base ≤ w.heap.size)
    {kl kc : IntKind} {L C : Int} (hg : o.guard = none) (hop : o.op = Op.makeSlice t l c) (hl : a.eval l = .int kl L) (hc : a.eval c = .int kc C) (hL : L = (n : Int)) (hC : C = (n : Int))
    (hK : ∀ w', w'.ownsRow base e size (.slice (some ⟨w.heap.size, 0, none⟩) n n) n (madeCells z.cells (n * size)).toList → w.grownBy w' none → wpList P ops Q rest (a.put o.dst (.slice (some ⟨w.heap.size, 0, none⟩) n n)) w') :
    wpList P ops Q (o :: rest) a w := by
  obtain ⟨i, hi, hz, hsz, hby⟩ := info_parts hE.info
  exact wpList_make_full w hg l c t hop base e i z size hE.slice hi hz hsz kl kc L C n hl hc hL hC (by rw [hby]; exact b2) b3 b4 hK
end

/-! ## A slice of byte slices -/
/-- each value of vs is a byte slice that reads as the list at its place -/
def Rows2 (w : World) (lo hi : Nat) : List Value → List (List UInt8) → Prop
  | [], [] => True
  | v :: vs, x :: xs => (∃ A n c, v = .slice A n c ∧ n ≤ c ∧ Reads w lo hi 1 A n (x.map B8)) ∧ Rows2 w lo hi vs xs
  | _, _ => False

section
variable {w w' : World} {lo hi lo' hi' : Nat}
theorem Rows2.length : ∀ {vs : List Value} {xs : List (List UInt8)}, Rows2 w lo hi vs xs → vs.length = xs.length
  | [], [], _ => rfl
  | _ :: _, _ :: _, h => by simp [Rows2.length h.2]
  | [], _ :: _, h => h.elim
  | _ :: _, [], h => h.elim
theorem Rows2.keep (hk : ∀ p : Addr, lo ≤ p.block → p.block < hi → w'.cell? p = w.cell? p) : ∀ {vs : List Value} {xs : List (List UInt8)}, Rows2 w lo hi vs xs → Rows2 w' lo hi vs xs
  | [], [], _ => trivial
  | _ :: _, _ :: _, ⟨⟨A, n, c, e, hc, hr⟩, h⟩ => ⟨⟨A, n, c, e, hc, hr.keep hk⟩, Rows2.keep hk h⟩
  | [], _ :: _, h => h.elim
  | _ :: _, [], h => h.elim
theorem Rows2.more (hL : lo' ≤ lo) (hB : hi ≤ hi') : ∀ {vs : List Value} {xs : List (List UInt8)}, Rows2 w lo hi vs xs → Rows2 w lo' hi' vs xs
  | [], [], _ => trivial
  | _ :: _, _ :: _, ⟨⟨A, n, c, e, hc, hr⟩, h⟩ => ⟨⟨A, n, c, e, hc, hr.more hL hB⟩, Rows2.more hL hB h⟩
  | [], _ :: _, h => h.elim
  | _ :: _, [], h => h.elim
theorem Rows2.only {S : Nat → Prop} (ho : Only S w w') (hS : ∀ k, lo ≤ k → k < hi → ¬ S k) (hh : hi ≤ w.heap.size) {vs : List Value} {xs : List (List UInt8)} (h : Rows2 w lo hi vs xs) : Rows2 w' lo hi vs xs :=
  h.keep fun p h1 h2 => ho.cell (by omega) (hS _ h1 h2)
theorem Rows2.append : ∀ {vs us : List Value} {xs ys : List (List UInt8)}, Rows2 w lo hi vs xs → Rows2 w lo hi us ys → Rows2 w lo hi (vs ++ us) (xs ++ ys)
  | [], _, [], _, _, h' => h'
  | _ :: _, _, _ :: _, _, h, h' => ⟨h.1, Rows2.append h.2 h'⟩
  | [], _, _ :: _, _, h, _ => h.elim
  | _ :: _, _, [], _, h, _ => h.elim
theorem Rows2.at_ : ∀ {vs : List Value} {xs : List (List UInt8)}, Rows2 w lo hi vs xs → ∀ {k : Nat}, k < vs.length → ∃ A n c x, vs[k]? = some (.slice A n c) ∧ xs[k]? = some x ∧ n ≤ c ∧ Reads w lo hi 1 A n (x.map B8)
  | v :: vs, x :: xs, ⟨⟨A, n, c, e, hc, hr⟩, h⟩, 0, _ => ⟨A, n, c, x, by simp [e], by simp, hc, hr⟩
  | v :: vs, x :: xs, ⟨_, h⟩, k + 1, hk => by
    obtain ⟨A, n, c, y, h1, h2, h3⟩ := Rows2.at_ h (k := k) (by simpa using hk)
    exact ⟨A, n, c, y, by simpa using h1, by simpa using h2, h3⟩
  | [], _ :: _, h, _, _ => h.elim
  | _ :: _, [], h, _, _ => h.elim
theorem Rows2.one : ∀ {vs : List Value} {xs : List (List UInt8)}, Rows2 w lo hi vs xs → ∀ u ∈ vs, u.oneCell' = true
  | [], [], _, u, hu => by cases hu
  | _ :: _, _ :: _, ⟨⟨A, n, c, e, _⟩, h⟩, u, hu => by
    cases hu with
    | head => subst e; rfl
    | tail _ hu => exact Rows2.one h u hu
  | [], _ :: _, h, _, _ => h.elim
  | _ :: _, [], h, _, _ => h.elim
theorem Rows2.drewN {vs : List Value} {xs : List (List UInt8)} (h : Rows2 w lo hi vs xs) (k : Nat) : Rows2 (w.drewN k) lo hi vs xs := Rows2.keep (w := w) (w' := w.drewN k) (fun _ _ _ => rfl) h
theorem Rows2.nil : Rows2 w lo hi [] [] := trivial
end
/-! ## A slice of byte slices, each a row of its own -/
def Own2 (w : World) (e lo hi : Nat) : List Value → List (List UInt8) → Prop
  | [], [] => True
  | v :: vs, x :: xs => (w.ownsRow lo e 1 v x.length (x.map B8) ∧ ∀ k, v.ownBlock = some k → k < hi) ∧ Own2 w e lo hi vs xs
  | _, _ => False
section
variable {w w' : World} {e lo hi lo' hi' : Nat}
theorem Own2.reads (hh : hi ≤ w.heap.size) : ∀ {vs : List Value} {xs : List (List UInt8)}, Own2 w e lo hi vs xs → Rows2 w lo hi vs xs
  | [], [], _ => trivial
  | v :: _, x :: _, ⟨⟨ho, hb⟩, h⟩ => by
    refine ⟨?_, Own2.reads hh h⟩
    obtain ⟨A, c, rfl, hc, hr⟩ := own_form ho
    refine ⟨A, _, c, rfl, hc, hr.1, fun hn => ?_⟩
    obtain ⟨ad, rfl, hl, _, hcell⟩ := hr.2 hn
    exact ⟨ad, rfl, hl, hb _ rfl, hcell⟩
  | [], _ :: _, h => h.elim
  | _ :: _, [], h => h.elim
theorem Own2.keep (hk : ∀ k, lo ≤ k → k < hi → w'.heap[k]? = w.heap[k]?) : ∀ {vs : List Value} {xs : List (List UInt8)}, Own2 w e lo hi vs xs → Own2 w' e lo hi vs xs
  | [], [], _ => trivial
  | v :: _, x :: _, ⟨⟨ho, hb⟩, h⟩ => by
    refine ⟨⟨⟨ho.1, ?_⟩, hb⟩, Own2.keep hk h⟩
    rcases ho.2 with h0 | ⟨g, cap, cur, rfl, hl, hh, r⟩
    · exact .inl h0
    · exact .inr ⟨g, cap, cur, rfl, hl, by rw [hk g hl (hb g rfl)]; exact hh, r⟩
  | [], _ :: _, h => h.elim
  | _ :: _, [], h => h.elim
theorem Own2.only {S : Nat → Prop} (ho : Only S w w') (hS : ∀ k, lo ≤ k → k < hi → ¬ S k) (hh : hi ≤ w.heap.size) {vs : List Value} {xs : List (List UInt8)} (h : Own2 w e lo hi vs xs) : Own2 w' e lo hi vs xs :=
  h.keep fun k h1 h2 => ho.block k (by omega) (hS k h1 h2)
theorem ownsRow_mono {n size lo'' : Nat} {v : Value} {xs : List Value} (h : w.ownsRow lo e size v n xs) (hl : lo'' ≤ lo) : w.ownsRow lo'' e size v n xs := by
  refine ⟨h.1, ?_⟩
  rcases h.2 with h0 | ⟨g, cap, cur, rfl, hb, r⟩
  · exact .inl h0
  · exact .inr ⟨g, cap, cur, rfl, by omega, r⟩
theorem Own2.more (hL : lo' ≤ lo) (hB : hi ≤ hi') : ∀ {vs : List Value} {xs : List (List UInt8)}, Own2 w e lo hi vs xs → Own2 w e lo' hi' vs xs
  | [], [], _ => trivial
  | v :: _, x :: _, ⟨⟨ho, hb⟩, h⟩ => ⟨⟨ownsRow_mono ho hL, fun k hk => by have := hb k hk; omega⟩, Own2.more hL hB h⟩
  | [], _ :: _, h => h.elim
  | _ :: _, [], h => h.elim
theorem Own2.snoc : ∀ {vs : List Value} {xs : List (List UInt8)} {v : Value} {x : List UInt8}, Own2 w e lo hi vs xs → w.ownsRow lo e 1 v x.length (x.map B8) → (∀ k, v.ownBlock = some k → k < hi) → Own2 w e lo hi (vs ++ [v]) (xs ++ [x])
  | [], [], _, _, _, h, h' => ⟨⟨h, h'⟩, trivial⟩
  | _ :: _, _ :: _, _, _, h, h1, h2 => ⟨h.1, Own2.snoc h.2 h1 h2⟩
  | [], _ :: _, _, _, h, _, _ => h.elim
  | _ :: _, [], _, _, h, _, _ => h.elim
theorem Own2.drewN {vs : List Value} {xs : List (List UInt8)} (h : Own2 w e lo hi vs xs) (k : Nat) : Own2 (w.drewN k) e lo hi vs xs := Own2.keep (w := w) (w' := w.drewN k) (fun _ _ _ => rfl) h
theorem Own2.length : ∀ {vs : List Value} {xs : List (List UInt8)}, Own2 w e lo hi vs xs → vs.length = xs.length
  | [], [], _ => rfl
  | _ :: _, _ :: _, h => by simp [Own2.length h.2]
  | [], _ :: _, h => h.elim
  | _ :: _, [], h => h.elim
theorem Own2.one : ∀ {vs : List Value} {xs : List (List UInt8)}, Own2 w e lo hi vs xs → ∀ u ∈ vs, u.oneCell' = true
  | [], [], _, u, hu => by cases hu
  | _ :: _, _ :: _, ⟨⟨ho, _⟩, h⟩, u, hu => by
    cases hu with
    | head =>
      obtain ⟨A, c, rfl, _⟩ := own_form ho
      rfl
    | tail _ hu => exact Own2.one h u hu
  | [], _ :: _, h, _, _ => h.elim
  | _ :: _, [], h, _, _ => h.elim
end
theorem own_drewN {w : World} {base e size n : Nat} {v : Value} {xs : List Value} (h : w.ownsRow base e size v n xs) (k : Nat) : (w.drewN k).ownsRow base e size v n xs := h
theorem own_own_ne {w : World} {base base' e e' size size' n n' : Nat} {v v' : Value} {xs xs' : List Value} (h : w.ownsRow base e size v n xs) (h' : w.ownsRow base' e' size' v' n' xs') (hne : e ≠ e') :
    ∀ k, v.ownBlock = some k → ¬ v'.ownBlock = some k := by
  intro k hk hk'
  rcases h.2 with ⟨rfl, _⟩ | ⟨g, cap, cur, rfl, _, hh, _⟩
  · cases hk
  · rcases h'.2 with ⟨rfl, _⟩ | ⟨g', cap', cur', rfl, _, hh', _⟩
    · cases hk'
    · cases hk
      have e1 : g' = g := by simpa [Value.ownBlock] using hk'
      subst e1
      rw [hh] at hh'
      injection hh' with hh'
      injection hh' with _ ht
      exact hne ht
theorem own_grown {w w' : World} {base e size n : Nat} {v : Value} {xs : List Value} {row : Option Nat} (h : w.ownsRow base e size v n xs) (hg : w.grownBy w' row) (hne : ∀ k, v.ownBlock = some k → ¬ row = some k) : w'.ownsRow base e size v n xs :=
  h.kept hg (by
    cases hv : v.ownBlock with
    | none => exact .inl rfl
    | some k => exact .inr fun e => hne k hv e.symm)
theorem own2_grown {w w' : World} {e lo hi base e' size n : Nat} {v : Value} {ys : List Value} (hv : w.ownsRow base e' size v n ys) (hne : e ≠ e') (hg : w.grownBy w' v.ownBlock) : ∀ {vs : List Value} {xs : List (List UInt8)}, Own2 w e lo hi vs xs → Own2 w' e lo hi vs xs
  | [], [], _ => trivial
  | u :: _, x :: _, ⟨⟨ho, hb⟩, h⟩ => ⟨⟨own_grown ho hg (own_own_ne ho hv hne), hb⟩, own2_grown hv hne hg h⟩
  | [], _ :: _, h => h.elim
  | _ :: _, [], h => h.elim
theorem own_only {w w' : World} {S : Nat → Prop} {base e size n : Nat} {v : Value} {xs : List Value} (h : w.ownsRow base e size v n xs) (ho : Only S w w') (hS : ∀ k, v.ownBlock = some k → ¬ S k) : w'.ownsRow base e size v n xs := by
  refine ⟨h.1, ?_⟩
  rcases h.2 with h0 | ⟨g, cap, cur, rfl, hb, hh, r⟩
  · exact .inl h0
  · refine .inr ⟨g, cap, cur, rfl, hb, ?_, r⟩
    rw [ho.block g (Array.getElem?_eq_some_iff.1 hh).1 (hS g rfl)]
    exact hh
end Go.Proofs.Ytaapbiiiepdopaa.Mem
