/- Values in memory: what six cells read as; what keeps them; rows of bytes that grow; each law's condition stands in its statement. -/
import Derived.Test.YtaapbiiiepdopaaPy
import Derived.Test.YtaapbiiiepdopaaMem2
import Derived.Test.YtaapbiiiepdopaaProg
import Derived.Lib.AppendStr
namespace Go.Proofs.Ytaapbiiiepdopaa
open Go.RowKit Mem
set_option linter.unusedVariables false

theorem el27 : Elem Try.prog 27 5 (.int .u8 0) 1 1 := ⟨Try.underlying27, by kernel_rfl, rfl, by decide⟩
theorem el23 : Elem Try.prog 23 9 (.string ⟨#[]⟩) 1 16 := ⟨Try.underlying23, by kernel_rfl, rfl, by decide⟩
theorem el22 : Elem Try.prog 22 25 (.agg #[.int .i64 0, .bool false, .int .i64 0, .string ⟨#[]⟩, .slice none 0 0, .slice none 0 0]) 6 88 := ⟨Try.underlying22, by kernel_rfl, rfl, by decide⟩

/-! ## A row in one of some blocks -/
def RdS (w : World) (S : Nat → Prop) (size : Nat) (A : Option Addr) (n : Nat) (xs : List Value) : Prop := ∃ b, (0 < n → S b ∧ b < w.heap.size) ∧ Reads w b (b + 1) size A n xs
section
variable {w w' : World} {S S' : Nat → Prop} {size n : Nat} {A : Option Addr} {xs : List Value}
theorem RdS.keep (h : RdS w S size A n xs) (hk : ∀ b, S b → b < w.heap.size → w'.heap[b]? = w.heap[b]?) (hs : ∀ b, S b → b < w.heap.size → S' b) : RdS w' S' size A n xs := by
  obtain ⟨b, h1, h2⟩ := h
  rcases Nat.eq_zero_or_pos n with h0 | h0
  · exact ⟨b, fun h => by omega, h2.1, fun h => by omega⟩
  · obtain ⟨hS, hb⟩ := h1 h0
    have e := hk b hS hb
    refine ⟨b, fun _ => ⟨hs b hS hb, ?_⟩, h2.keep fun p h3 h4 => World.cell?_of_block (w := w) (by rw [show p.block = b by omega]; exact e)⟩
    rw [Array.getElem?_eq_getElem hb] at e
    exact (Array.getElem?_eq_some_iff.1 e).1
theorem RdS.nil : RdS w S size A 0 [] := ⟨0, fun h => by omega, Reads.zero rfl rfl⟩
theorem RdS.len (h : RdS w S size A n xs) : xs.length = n * size := h.choose_spec.2.1
theorem RdS.ofReads {lo hi : Nat} (h : Reads w lo hi size A n xs) (hS : ∀ b, lo ≤ b → b < hi → S b) (hs : hi ≤ w.heap.size) : RdS w S size A n xs := by
  rcases Nat.eq_zero_or_pos n with h0 | h0
  · exact ⟨0, fun h => by omega, h.1, fun h => by omega⟩
  · obtain ⟨ad, e, hl, hb, hc⟩ := h.2 h0
    exact ⟨ad.block, fun _ => ⟨hS _ hl hb, by omega⟩, h.1, fun _ => ⟨ad, e, Nat.le_refl _, by omega, hc⟩⟩
theorem RdS.ofOwn {base e c : Nat} (h : w.ownsRow base e size (.slice A n c) n xs) (hS : ∀ b, (Value.slice A n c).ownBlock = some b → S b) : RdS w S size A n xs := by
  rcases h.2 with ⟨e1, rfl⟩ | ⟨g, cap, cur, e1, hb, hh, hc, _⟩
  · cases e1
    exact ⟨0, fun h => by omega, h.1, fun h => by omega⟩
  · cases e1
    exact ⟨g, fun _ => ⟨hS g rfl, (Array.getElem?_eq_some_iff.1 hh).1⟩, h.1, fun _ => ⟨_, rfl, Nat.le_refl _, by simp, h.cells (g := g) rfl⟩⟩
theorem RdS.reads {hi : Nat} (h : RdS w S size A n xs) (hS : ∀ b, S b → b < hi) : Reads w 0 hi size A n xs := by
  obtain ⟨b, h1, h2⟩ := h
  rcases Nat.eq_zero_or_pos n with h0 | h0
  · exact ⟨h2.1, fun h => by omega⟩
  · have := hS b (h1 h0).1
    exact h2.more (Nat.zero_le _) (by omega)
theorem RdS.plain (h : RdS w S size A n xs) (hn : 0 < n) (hs : 0 < size) : ∃ b off, A = some ⟨b, off, none⟩ ∧ S b ∧ b < w.heap.size ∧ ∀ j, j < n * size → w.cell? ⟨b, off + j, none⟩ = xs[j]? := by
  obtain ⟨b, h1, h2⟩ := h
  obtain ⟨b', off, e, h3, h4, h5, h6⟩ := h2.plain hn hs
  have : b' = b := by omega
  subst this
  exact ⟨b', off, e, (h1 hn).1, h5, h6⟩
end

/-! ## Values -/
mutual
/-- six cells read as a value, what they lead to in blocks of S -/
def IsV (w : World) (S : Nat → Prop) : V → Array Value → Prop
  | .mk k b n s l ks, cs => ∃ AL cL AK cK xs, cs = #[.int .i64 k, .bool b, .int .i64 n, .string s, .slice AL l.length cL, .slice AK ks.length cK] ∧ (l.length ≤ cL ∧ cL ≤ 9223372036854775807 ∧ ks.length ≤ cK ∧ cK ≤ 9223372036854775807) ∧
      (-9223372036854775808 ≤ n ∧ n ≤ 9223372036854775807 ∧ -9223372036854775808 ≤ k ∧ k ≤ 9223372036854775807 ∧ s.size ≤ 9223372036854775807 ∧ ∀ x ∈ ks, x.size ≤ 9223372036854775807) ∧
      RdS w S 6 AL l.length xs ∧ IsVs w S l xs ∧ RdS w S 1 AK ks.length (ks.map .string)
def IsVs (w : World) (S : Nat → Prop) : List V → List Value → Prop
  | [], xs => xs = []
  | v :: l, xs => ∃ cs ys, xs = cs.toList ++ ys ∧ IsV w S v cs ∧ IsVs w S l ys
end
section
variable {w w' : World} {S S' : Nat → Prop}
theorem IsVs.keep_ (l : List V) (hv : ∀ v ∈ l, ∀ cs, IsV w S v cs → IsV w' S' v cs) : ∀ xs, IsVs w S l xs → IsVs w' S' l xs := by
  induction l with
  | nil => intro xs h; rw [IsVs] at h ⊢; exact h
  | cons v l ih =>
    intro xs h
    rw [IsVs] at h ⊢
    obtain ⟨cs, ys, e, h1, h2⟩ := h
    exact ⟨cs, ys, e, hv v List.mem_cons_self cs h1, ih (fun u hu => hv u (List.mem_cons_of_mem _ hu)) ys h2⟩
theorem IsV.keep {v : V} {cs : Array Value} (h : IsV w S v cs) (hk : ∀ b, S b → b < w.heap.size → w'.heap[b]? = w.heap[b]?) (hs : ∀ b, S b → b < w.heap.size → S' b) : IsV w' S' v cs := by
  revert cs
  refine V.ind (P := fun v => ∀ {cs}, IsV w S v cs → IsV w' S' v cs) ?_ v
  intro k b n s l ks ih cs h
  rw [IsV] at h ⊢
  obtain ⟨AL, cL, AK, cK, xs, e, h1, h2, h3, h4, h5⟩ := h
  exact ⟨AL, cL, AK, cK, xs, e, h1, h2, h3.keep hk hs, IsVs.keep_ l (fun v hv cs => ih v hv) xs h4, h5.keep hk hs⟩
theorem IsVs.keep {l : List V} {xs : List Value} (h : IsVs w S l xs) (hk : ∀ b, S b → b < w.heap.size → w'.heap[b]? = w.heap[b]?) (hs : ∀ b, S b → b < w.heap.size → S' b) : IsVs w' S' l xs :=
  IsVs.keep_ l (fun v _ cs h => h.keep hk hs) xs h
theorem IsV.below {v : V} {cs : Array Value} {B : Nat} (h : IsV w S v cs) (hb : Below B w w') (hS : ∀ b, S b → b < B) : IsV w' S v cs := h.keep (fun b h1 _ => hb.block b (hS b h1)) (fun _ h _ => h)
theorem IsVs.below {l : List V} {xs : List Value} {B : Nat} (h : IsVs w S l xs) (hb : Below B w w') (hS : ∀ b, S b → b < B) : IsVs w' S l xs := h.keep (fun b h1 _ => hb.block b (hS b h1)) (fun _ h _ => h)
theorem RdS.below {size n : Nat} {A : Option Addr} {xs : List Value} {B : Nat} (h : RdS w S size A n xs) (hb : Below B w w') (hS : ∀ b, S b → b < B) : RdS w' S size A n xs := h.keep (fun b h1 _ => hb.block b (hS b h1)) (fun _ h _ => h)
theorem IsV.only {v : V} {cs : Array Value} {T : Nat → Prop} (h : IsV w S v cs) (hb : Only T w w') (hS : ∀ b, S b → ¬ T b) : IsV w' S v cs := h.keep (fun b h1 h2 => hb.block b h2 (hS b h1)) (fun _ h _ => h)
theorem IsVs.only {l : List V} {xs : List Value} {T : Nat → Prop} (h : IsVs w S l xs) (hb : Only T w w') (hS : ∀ b, S b → ¬ T b) : IsVs w' S l xs := h.keep (fun b h1 h2 => hb.block b h2 (hS b h1)) (fun _ h _ => h)
theorem RdS.only {size n : Nat} {A : Option Addr} {xs : List Value} {T : Nat → Prop} (h : RdS w S size A n xs) (hb : Only T w w') (hS : ∀ b, S b → ¬ T b) : RdS w' S size A n xs := h.keep (fun b h1 h2 => hb.block b h2 (hS b h1)) (fun _ h _ => h)
theorem IsV.mono {v : V} {cs : Array Value} (h : IsV w S v cs) (hs : ∀ b, S b → b < w.heap.size → S' b) : IsV w S' v cs := h.keep (fun _ _ _ => rfl) hs
theorem IsV.drewN {v : V} {cs : Array Value} (h : IsV w S v cs) (n : Nat) : IsV (w.drewN n) S v cs := h.keep (fun _ _ _ => rfl) (fun _ h _ => h)
theorem IsVs.drewN {l : List V} {xs : List Value} (h : IsVs w S l xs) (n : Nat) : IsVs (w.drewN n) S l xs := h.keep (fun _ _ _ => rfl) (fun _ h _ => h)
theorem IsV.alloc {v : V} {cs : Array Value} (h : IsV w S v cs) (o : Obj) : IsV (w.alloc o) S v cs := h.keep (fun b _ hb => Below.heap_alloc _ _ _ hb) (fun _ h _ => h)
theorem IsVs.alloc {l : List V} {xs : List Value} (h : IsVs w S l xs) (o : Obj) : IsVs (w.alloc o) S l xs := h.keep (fun b _ hb => Below.heap_alloc _ _ _ hb) (fun _ h _ => h)
theorem IsV.size6 {v : V} {cs : Array Value} (h : IsV w S v cs) : cs.size = 6 := by
  obtain ⟨k, b, n, s, l, ks⟩ := v
  rw [IsV] at h
  obtain ⟨AL, cL, AK, cK, xs, rfl, _⟩ := h
  rfl
/-- the six cells' shapes -/
theorem IsV.shape {v : V} {cs : Array Value} (h : IsV w S v cs) : ∃ k b n s AL nL cL AK nK cK, cs = #[.int .i64 k, .bool b, .int .i64 n, .string s, .slice AL nL cL, .slice AK nK cK] := by
  obtain ⟨k, b, n, s, l, ks⟩ := v
  rw [IsV] at h
  obtain ⟨AL, cL, AK, cK, xs, rfl, _⟩ := h
  exact ⟨k, b, n, s, AL, _, cL, AK, _, cK, rfl⟩
theorem IsVs.len : ∀ {l : List V} {xs : List Value}, IsVs w S l xs → xs.length = l.length * 6
  | [], xs, h => by rw [IsVs] at h; subst h; rfl
  | v :: l, xs, h => by
    rw [IsVs] at h
    obtain ⟨cs, ys, rfl, h1, h2⟩ := h
    have := IsVs.len h2
    have := h1.size6
    simp only [List.length_append, List.length_cons, Array.length_toList]
    omega
theorem IsVs.at_ : ∀ {l : List V} {xs : List Value}, IsVs w S l xs → ∀ {i : Nat} {v : V}, l[i]? = some v → ∃ cs, IsV w S v cs ∧ ∀ r, r < 6 → xs[i * 6 + r]? = cs[r]?
  | [], xs, h, i, v, hv => by simp at hv
  | u :: l, xs, h, i, v, hv => by
    rw [IsVs] at h
    obtain ⟨cs, ys, rfl, h1, h2⟩ := h
    have h6 := h1.size6
    cases i with
    | zero =>
      simp at hv
      subst hv
      refine ⟨cs, h1, fun r hr => ?_⟩
      rw [List.getElem?_append_left (by rw [Array.length_toList]; omega)]
      simp
    | succ i =>
      obtain ⟨cs', h3, h4⟩ := IsVs.at_ h2 (i := i) (v := v) (by simpa using hv)
      refine ⟨cs', h3, fun r hr => ?_⟩
      rw [List.getElem?_append_right (by rw [Array.length_toList]; omega), Array.length_toList, h6, show (i + 1) * 6 + r - 6 = i * 6 + r by omega]
      exact h4 r hr
/-- an element by its address -/
theorem IsVs.get {l : List V} {xs : List Value} {A : Option Addr} {i : Nat} (h : IsVs w S l xs) (hx : RdS w S 6 A l.length xs) (hi : i < l.length) : ∃ b off cs, A = some ⟨b, off, none⟩ ∧ S b ∧ b < w.heap.size ∧ IsV w S l[i] cs ∧ ∀ r, r < 6 → w.cell? ⟨b, off + i * 6 + r, none⟩ = cs[r]? := by
  obtain ⟨b, off, e, h1, h2, h3⟩ := hx.plain (by omega) (by omega)
  obtain ⟨cs, h4, h5⟩ := h.at_ (List.getElem?_eq_getElem hi)
  refine ⟨b, off, cs, e, h1, h2, h4, fun r hr => ?_⟩
  rw [Nat.add_assoc, h3 _ (by omega)]
  exact h5 r hr
theorem IsVs.app : ∀ {a b : List V} {xs ys : List Value}, IsVs w S a xs → IsVs w S b ys → IsVs w S (a ++ b) (xs ++ ys)
  | [], b, xs, ys, h, h' => by rw [IsVs] at h; subst h; exact h'
  | v :: a, b, xs, ys, h, h' => by
    rw [IsVs] at h
    obtain ⟨cs, zs, rfl, h1, h2⟩ := h
    rw [List.cons_append, IsVs]
    exact ⟨cs, zs ++ ys, by rw [List.append_assoc], h1, IsVs.app h2 h'⟩
theorem IsVs.nil : IsVs w S [] [] := by rw [IsVs]
theorem IsVs.one {v : V} {cs : Array Value} (h : IsV w S v cs) : IsVs w S [v] cs.toList := by rw [IsVs]; exact ⟨cs, [], by simp, h, IsVs.nil⟩
theorem IsV.oneCell {v : V} {cs : Array Value} (h : IsV w S v cs) : ∀ u ∈ cs.toList, u.oneCell' = true := by
  obtain ⟨k, b, n, s, l, ks⟩ := v
  rw [IsV] at h
  obtain ⟨AL, cL, AK, cK, xs, rfl, _⟩ := h
  intro u hu
  simp at hu
  rcases hu with rfl | rfl | rfl | rfl | rfl | rfl <;> rfl
theorem IsVs.oneCell : ∀ {l : List V} {xs : List Value}, IsVs w S l xs → ∀ u ∈ xs, u.oneCell' = true
  | [], xs, h, u, hu => by rw [IsVs] at h; subst h; cases hu
  | v :: l, xs, h, u, hu => by
    rw [IsVs] at h
    obtain ⟨cs, ys, rfl, h1, h2⟩ := h
    rcases List.mem_append.1 hu with hu | hu
    · exact h1.oneCell u hu
    · exact IsVs.oneCell h2 u hu
theorem wfs_of {l : List V} (h : ∀ v ∈ l, wf v) : wfs l := by
  induction l with
  | nil => rw [wfs]; trivial
  | cons v l ih => rw [wfs]; exact ⟨h v List.mem_cons_self, ih fun u hu => h u (List.mem_cons_of_mem _ hu)⟩
theorem IsVs.all {l : List V} {xs : List Value} (h : IsVs w S l xs) : ∀ v ∈ l, ∃ cs, IsV w S v cs := by
  intro v hv
  obtain ⟨i, hi⟩ := List.mem_iff_getElem?.1 hv
  obtain ⟨cs, h1, _⟩ := h.at_ hi
  exact ⟨cs, h1⟩
theorem IsV.wf {v : V} {cs : Array Value} (h : IsV w S v cs) : wf v := by
  revert cs
  refine V.ind (P := fun v => ∀ {cs}, IsV w S v cs → Go.Proofs.Ytaapbiiiepdopaa.wf v) ?_ v
  intro k b n s l ks ih cs h
  rw [IsV] at h
  obtain ⟨AL, cL, AK, cK, xs, e, h1, h2, h3, h4, h5⟩ := h
  rw [Go.Proofs.Ytaapbiiiepdopaa.wf]
  refine ⟨⟨h2.1, h2.2.1⟩, h2.2.2.2.2.1, wfs_of fun v hv => ?_⟩
  obtain ⟨cs, h6⟩ := h4.all v hv
  exact ih v hv h6
end

/-! ## A row of bytes that grows -/
def BT (o : Obj) : Prop := ∃ cs fr, o = .cells cs 5 fr
/-- the bytes xs lie in a row of the call's own; but for rows of bytes nothing turned -/
structure Lay (w : World) (base : Nat) (w' : World) (A : Option Addr) (N c : Nat) (xs : List UInt8) : Prop where
  own : w'.ownsRow base 5 1 (.slice A N c) N (xs.map B8)
  fr : Fr BT w w'
  bel : Below base w w'
  sz : base ≤ w.heap.size
section
variable {w w' wr : World} {base N c : Nat} {A : Option Addr} {xs : List UInt8}
theorem Lay.len (h : Lay w base w' A N c xs) : xs.length = N := by simpa using h.own.1
theorem Lay.start (h : w.ownsRow base 5 1 (.slice A N c) N (xs.map B8)) (hs : base ≤ w.heap.size) : Lay w base w A N c xs := ⟨h, Fr.refl _ _, Below.refl _ _, hs⟩
theorem Lay.trans {A' : Option Addr} {N' c' : Nat} {ys : List UInt8} (h : Lay w base wr A N c xs) (h' : Lay wr base w' A' N' c' ys) : Lay w base w' A' N' c' ys := ⟨h'.own, h.fr.trans h'.fr, h.bel.trans h'.bel, h.sz⟩
theorem Lay.sz' (h : Lay w base w' A N c xs) : base ≤ w'.heap.size := Nat.le_trans h.sz h.fr.size
theorem Lay.alloc (h : Lay w base w' A N c xs) (o : Obj) : Lay w base (w'.alloc o) A N c xs := ⟨h.own.alloc o, h.fr.alloc o, h.bel.alloc h.sz' o, h.sz⟩
theorem Lay.drewN (h : Lay w base w' A N c xs) (n : Nat) : Lay w base (w'.drewN n) A N c xs := ⟨own_drewN h.own n, h.fr.drewN n, ⟨h.bel.os, h.bel.tape, h.bel.output, h.bel.size, h.bel.block⟩, h.sz⟩
theorem Lay.blk {g t : Nat} {cs : Array Value} (h : Lay w base w' A N c xs) (hb : Blk w g t cs) (ht : t ≠ 5) : Blk w' g t cs := h.fr.block _ _ hb (by rintro ⟨_, _, e⟩; cases e; exact ht rfl)
/-- a row of another type stays -/
theorem Lay.other {A' : Option Addr} {base' e size n' c' : Nat} {ys : List Value} (h : Lay w base w' A N c xs) (ho : w.ownsRow base' e size (.slice A' n' c') n' ys) (he : e ≠ 5) : w'.ownsRow base' e size (.slice A' n' c') n' ys :=
  own_fr ho h.fr (by rintro cs fr ⟨_, _, h⟩; cases h; exact he rfl)
theorem Lay.next {A' : Option Addr} {N' c' : Nat} {ys : List UInt8} (h : Lay w base wr A N c xs) (ho : w'.ownsRow base 5 1 (.slice A' N' c') N' (ys.map B8)) (hg : wr.grownBy w' (Value.slice A N c).ownBlock) : Lay w base w' A' N' c' ys :=
  ⟨ho, fr_grown h.fr h.own hg (fun cs fr => ⟨_, _, rfl⟩), below_grown h.bel h.sz' h.own hg, h.sz⟩

variable {P : Program} {ops : Array Oper} {rest : List Oper} {o : Oper} {a : Act} {Q : Exit → Act → World → Prop}
/-- append of bytes onto such a row -/
theorem wpList_lay (s x : Operand) (h : Lay w base wr A N c xs) {lo hh m cb : Nat} {B : Option Addr} {ys : List UInt8} (hr : Reads wr lo hh 1 B m (ys.map B8)) (hN : N + m ≤ 70368744177664)
    (hgd : o.guard = none) (ho : o.op = .call { callee := .builtin .append, args := #[s, x], argTypes := #[27, 27] }) (hs : a.eval s = .slice A N c) (hx : a.eval x = .slice B m cb)
    (hK : ∀ A' N' c' w', N' ≤ N + m → Lay w base w' A' N' c' (xs ++ ys) → wpList Try.prog ops Q rest (a.put o.dst (.slice A' N' c')) w') : wpList Try.prog ops Q (o :: rest) a wr := by
  refine wpList_app el27 s x h.own hr (B8_one ys) (N := N + m) (ys := (xs ++ ys).map B8) rfl (by rw [List.map_append]) (by unfold maxLen; omega) (by omega) h.sz' hgd ho hs hx ?_
  intro A' c' w' h1 h2 _
  exact hK A' _ c' w' (Nat.le_refl _) (h.next h1 h2)
/-- append of one byte -/
theorem wpList_lay1 (s x : Operand) {wr0 : World} (h : Lay w base wr0 A N c xs) (b : UInt8) (u : Value) (hu : u = B8 b) {n0 : Nat} (hw : wr = wr0.alloc (.cells #[u] 5)) (hN : N + 1 ≤ 70368744177664)
    (hgd : o.guard = none) (ho : o.op = .call { callee := .builtin .append, args := #[s, x], argTypes := #[27, 27] }) (hs : a.eval s = .slice A N c) (hx : a.eval x = .slice (some ⟨n0, 0, none⟩) 1 1) (hn0 : n0 = wr0.heap.size)
    (hK : ∀ A' N' c' w', N' ≤ N + 1 → Lay w base w' A' N' c' (xs ++ [b]) → wpList Try.prog ops Q rest (a.put o.dst (.slice A' N' c')) w') : wpList Try.prog ops Q (o :: rest) a wr := by
  subst hu
  subst hw
  subst hn0
  exact wpList_lay s x (h.alloc _) (ys := [b]) (Reads.lit wr0 #[B8 b] 5 1 1 rfl) hN hgd ho hs hx hK
/-- append of a text's bytes -/
theorem wpList_layS (s x : Operand) (h : Lay w base wr A N c xs) {y : ByteArray} (hN : N + y.size ≤ 70368744177664)
    (hgd : o.guard = none) (ho : o.op = .call { callee := .builtin .append, args := #[s, x], argTypes := #[27, 9] }) (hs : a.eval s = .slice A N c) (hx : a.eval x = .string y)
    (hK : ∀ A' N' c' w', N' ≤ N + y.size → Lay w base w' A' N' c' (xs ++ str y) → wpList Try.prog ops Q rest (a.put o.dst (.slice A' N' c')) w') : wpList Try.prog ops Q (o :: rest) a wr := by
  obtain ⟨i, hi, hz, hsz, hby⟩ := info_parts el27.info
  refine wpList_plain hgd fun K' hK' => ?_
  obtain ⟨v', w', hrun, h2, h3, h4⟩ := Go.Lib.run_append_own_string (P := Try.prog) wr base 27 9 o.type 5 i Try.underlying27 Try.underlying9 hi hz hsz hby _ N _ h.own y (by unfold maxLen; omega) (by omega) h.sz'
  unfold Oper.wp execOp
  simp only [ho, resolve, invoke, builtin, Sem.run_bind, Sem.run_pure, Result.andThen_ok, List.map_toArray, List.map_cons, List.map_nil, hs, hx, hrun]
  obtain ⟨A', c', rfl, _, _⟩ := own_form h2
  refine hK' _ _ (hK A' _ c' w' (Nat.le_refl _) (h.next ?_ h3))
  have e : xs.map B8 ++ Go.Lib.strCells y = (xs ++ str y).map B8 := by rw [List.map_append]; rfl
  rw [e] at h2
  exact h2
end
end Go.Proofs.Ytaapbiiiepdopaa
