/- Values' bytes and their reading, in plain Lean: what is written is read back, what is read is written so, what is cut off ends too early; each law's condition stands in its statement. -/
import Derived.Test.YtaapbiiiepdopaaPv
namespace Go.Proofs.Ytaapbiiiepdopaa
set_option linter.unusedVariables false

/-! ## Which values may be -/
def kOk (k : ByteArray) : Bool := decide (1 ≤ k.size) && decide (k.size ≤ 64)
def behind (p : Option ByteArray) (k : ByteArray) : Bool := match p with
  | none => true
  | some q => less q k
/-- keys rise, behind one -/
def ksOk : Option ByteArray → List ByteArray → Bool
  | _, [] => true
  | p, k :: r => kOk k && behind p k && ksOk (some k) r
/-- what a value's kind does not use is zero; what it uses may be -/
def headB (k : Int) (b : Bool) (n : Int) (s : ByteArray) (l : Nat) (ks : List ByteArray) : Bool :=
  decide (0 ≤ k) && decide (k ≤ 7) && (decide (k = 1) || !b) && (decide (k = 2) || decide (6 ≤ k) || decide (n = 0)) && (decide (k = 3) || decide (s.size = 0)) && (decide (k = 4) || decide (k = 5) || decide (l = 0)) && (decide (k = 5) || decide (ks.length = 0)) &&
  (decide (k < 6) || decide (1 ≤ n)) && (!decide (k = 5) || (decide (ks.length = l) && ksOk none ks))
mutual
/-- parts behind a value that may be, so deep, behind so many parts -/
def may : Nat → Nat → V → Option Nat
  | d, p, .mk k b n s l ks => if p + 1 ≤ 4096 ∧ 1 ≤ d ∧ headB k b n s l.length ks = true then mays (d - 1) (p + 1) l else none
def mays : Nat → Nat → List V → Option Nat
  | d, p, [] => some p
  | d, p, v :: l => match may d p v with
    | none => none
    | some q => mays d q l
end
mutual
/-- numbers of 64 bits, texts of a length -/
def wf : V → Prop
  | .mk k b n s l ks => (-9223372036854775808 ≤ n ∧ n ≤ 9223372036854775807) ∧ s.size ≤ 9223372036854775807 ∧ wfs l
def wfs : List V → Prop
  | [] => True
  | v :: l => wf v ∧ wfs l
end
theorem mays_ge : ∀ (l : List V) {d p q : Nat}, (∀ v ∈ l, ∀ d p q, may d p v = some q → p + 1 ≤ q ∧ q ≤ 4096) → mays d p l = some q → p + l.length ≤ q ∧ (q ≤ 4096 ∨ q = p)
  | [], d, p, q, _, h => by
    rw [mays] at h; cases h; simp
  | v :: l, d, p, q, hv, h => by
    rw [mays] at h
    cases h1 : may d p v with
    | none => rw [h1] at h; cases h
    | some r =>
      rw [h1] at h
      have h2 := hv v List.mem_cons_self d p r h1
      have h3 := mays_ge l (fun u hu => hv u (List.mem_cons_of_mem _ hu)) h
      simp only [List.length_cons]
      omega
theorem may_ge (v : V) : ∀ d p q, may d p v = some q → p + 1 ≤ q ∧ q ≤ 4096 := by
  refine V.ind (P := fun v => ∀ d p q, may d p v = some q → p + 1 ≤ q ∧ q ≤ 4096) ?_ v
  intro k b n s l ks ih d p q h
  rw [may] at h
  by_cases h1 : p + 1 ≤ 4096 ∧ 1 ≤ d ∧ headB k b n s l.length ks = true
  · rw [if_pos h1] at h
    have := mays_ge l ih h
    omega
  · rw [if_neg h1] at h; cases h
theorem mays_le {l : List V} {d p q : Nat} (h : mays d p l = some q) : p + l.length ≤ q ∧ (q ≤ 4096 ∨ q = p) := mays_ge l (fun v _ => may_ge v) h
theorem mays_app : ∀ (a b : List V) (d p : Nat), mays d p (a ++ b) = match mays d p a with
    | none => none
    | some q => mays d q b
  | [], b, d, p => by rw [mays]; rfl
  | v :: a, b, d, p => by
    rw [List.cons_append, mays, mays]
    cases may d p v with
    | none => rfl
    | some q => exact mays_app a b d q
theorem ksOk_app : ∀ (a b : List ByteArray) (p : Option ByteArray), ksOk p (a ++ b) = (ksOk p a && ksOk (a.getLast?.or p) b)
  | [], b, p => by simp [ksOk]
  | k :: a, b, p => by
    rw [List.cons_append, ksOk, ksOk, ksOk_app a b (some k)]
    have : ((k :: a).getLast?.or p) = a.getLast?.or (some k) := by
      cases a with
      | nil => rfl
      | cons x a => rw [List.getLast?_cons_cons]; cases h : (x :: a).getLast? with
        | none => simp at h
        | some y => rfl
    rw [this]
    simp [Bool.and_assoc]

/-! ## Bytes -/
def key1 (m : Bool) (ks : List ByteArray) : List UInt8 := if m then (match ks with
  | k :: _ => num k.size ++ str k
  | [] => []) else []
def tagOf (k : Int) (b : Bool) : UInt8 := if k = 0 then 0 else if k = 1 then (if b then 2 else 1) else UInt8.ofNat (k + 1).toNat
mutual
def byt : V → List UInt8
  | .mk k b n s l ks => tagOf k b :: (if k = 0 ∨ k = 1 then [] else if k = 2 then num (zz n) else if k = 3 then num s.size ++ str s else if k = 6 ∨ k = 7 then num n.toNat else num l.length ++ byts (decide (k = 5)) l ks)
def byts : Bool → List V → List ByteArray → List UInt8
  | m, [], ks => []
  | m, v :: l, ks => key1 m ks ++ (byt v ++ byts m l ks.tail)
end

/-! ## Reading -/
abbrev Rd := Except Int (V × Nat × Nat)
def rkey (p : Option ByteArray) (l : List UInt8) : Except Int (ByteArray × Nat) :=
  match rn 0 l with
  | .error e => .error e
  | .ok (n, c) => if n < 1 ∨ 64 < n then .error 1 else if l.length - c < n then .error 22 else if behind p (ofL ((l.drop c).take n)) = true then .ok (ofL ((l.drop c).take n), c + n) else .error 1
def rkeys (m : Bool) (ks : List ByteArray) (l : List UInt8) : Except Int (List ByteArray × Nat) :=
  if m then (match rkey ks.getLast? l with
    | .error e => .error e
    | .ok (k, c) => .ok (ks ++ [k], c)) else .ok (ks, 0)
/-- so many values more, behind vs under ks, at a place behind so many parts -/
def rows (bs : List UInt8) (f : Nat → Nat → Rd) (m : Bool) : Nat → List V → List ByteArray → Nat → Nat → Except Int (List V × List ByteArray × Nat × Nat)
  | 0, vs, ks, p, at_ => .ok (vs, ks, at_, p)
  | n + 1, vs, ks, p, at_ => match rkeys m ks (bs.drop at_) with
    | .error e => .error e
    | .ok (ks', c) => match f p (at_ + c) with
      | .error e => .error e
      | .ok (v, at', q) => rows bs f m n (vs ++ [v]) ks' q at'
def rdT (bs : List UInt8) (f : Nat → Nat → Rd) (t p at_ : Nat) : Rd :=
  if t = 0 then .ok (nul, at_, p) else if t = 1 ∨ t = 2 then .ok (.mk 1 (decide (t = 2)) 0 .empty [] [], at_, p) else
  match rn 0 (bs.drop at_) with
  | .error e => .error e
  | .ok (n, c) =>
    if t = 3 then .ok (.mk 2 false (uz n) .empty [] [], at_ + c, p)
    else if t = 4 then (if bs.length - (at_ + c) < n then .error 22 else .ok (.mk 3 false 0 (ofL ((bs.drop (at_ + c)).take n)) [] [], at_ + c + n, p))
    else if t = 7 ∨ t = 8 then (if n < 1 ∨ 9223372036854775808 ≤ n then .error 1 else .ok (.mk ((t : Int) - 1) false n .empty [] [], at_ + c, p))
    else match rows bs f (decide (t = 6)) n [] [] p (at_ + c) with
      | .error e => .error e
      | .ok (vs, ks, at', q) => .ok (.mk ((t : Int) - 1) false 0 .empty vs ks, at', q)
/-- the value at a place, nested so deep, behind so many parts: it, where it ends, and parts then -/
def rd (bs : List UInt8) : Nat → Nat → Nat → Rd
  | 0, p, at_ => match bs[at_]? with
    | none => .error 22
    | some t => .error 1
  | d + 1, p, at_ => match bs[at_]? with
    | none => .error 22
    | some t => if 8 < t.toNat ∨ 4096 < p + 1 then .error 1 else rdT bs (rd bs d) t.toNat (p + 1) (at_ + 1)

/-! ## What is written is read back -/
theorem drop_of {bs a b : List UInt8} {at_ : Nat} (h : bs.drop at_ = a ++ b) : bs.drop (at_ + a.length) = b := by
  rw [← List.drop_drop, h, List.drop_left]
theorem len_of {bs a b : List UInt8} {at_ : Nat} (h : bs.drop at_ = a ++ b) : a.length + b.length = bs.length - at_ := by
  rw [← List.length_append, ← h, List.length_drop]
theorem rn_at {bs more : List UInt8} {at_ n : Nat} (hn : n < 18446744073709551616) (h : bs.drop at_ = num n ++ more) : rn 0 (bs.drop at_) = .ok (n, (num n).length) := by rw [h]; exact rn_back hn more
theorem rkeys_back {bs more : List UInt8} {at_ : Nat} {m : Bool} {ks : List ByteArray} {k : ByteArray} (hm : m = true) (hk : kOk k = true) (hb : behind ks.getLast? k = true) (h : bs.drop at_ = (num k.size ++ str k) ++ more) :
    rkeys m ks (bs.drop at_) = .ok (ks ++ [k], (num k.size ++ str k).length) := by
  have hk' : 1 ≤ k.size ∧ k.size ≤ 64 := by simpa [kOk] using hk
  rw [List.append_assoc] at h
  have hl := len_of h
  have hd := drop_of h
  rw [List.length_append, str_len] at hl
  unfold rkeys rkey
  rw [if_pos hm, rn_at (by omega) h]
  simp only [List.drop_drop, List.length_drop]
  have e : (bs.drop (at_ + (num k.size).length)).take k.size = str k := by rw [hd, ← str_len]; exact List.take_left
  rw [if_neg (by omega), if_neg (by omega), e, ofL_str, if_pos hb, List.length_append, str_len]
theorem ks_tail {ks : List ByteArray} {n : Nat} (h : ks.length = n + 1) : ∃ k r, ks = k :: r ∧ r.length = n := by
  cases ks with
  | nil => simp at h
  | cons k r => exact ⟨k, r, rfl, by simpa using h⟩

theorem rows_back (bs : List UInt8) (f : Nat → Nat → Rd) (m : Bool) (d : Nat) : ∀ (l : List V) (ks : List ByteArray) (vs : List V) (ks0 : List ByteArray) (p q at_ : Nat) (more : List UInt8),
    (∀ v ∈ l, ∀ p q at_ more, may d p v = some q → bs.drop at_ = byt v ++ more → f p at_ = .ok (v, at_ + (byt v).length, q)) →
    mays d p l = some q → (m = true → ks.length = l.length ∧ ksOk ks0.getLast? ks = true) → (m = false → ks = []) → bs.drop at_ = byts m l ks ++ more →
    rows bs f m l.length vs ks0 p at_ = .ok (vs ++ l, ks0 ++ ks, at_ + (byts m l ks).length, q)
  | [], ks, vs, ks0, p, q, at_, more, hf, hm, h1, h2, h => by
    rw [mays] at hm
    cases hm
    have : ks = [] := by
      cases m with
      | true => exact List.eq_nil_of_length_eq_zero (h1 rfl).1
      | false => exact h2 rfl
    subst this
    simp [rows, byts]
  | v :: l, ks, vs, ks0, p, q, at_, more, hf, hm, h1, h2, h => by
    rw [mays] at hm
    cases hr : may d p v with
    | none => rw [hr] at hm; cases hm
    | some r =>
      rw [hr] at hm
      dsimp only at hm
      rw [byts, List.append_assoc, List.append_assoc] at h
      rw [List.length_cons, rows, byts]
      cases m with
      | false =>
        have hk := h2 rfl
        subst hk
        have e0 : rkeys false ks0 (bs.drop at_) = .ok (ks0, 0) := rfl
        rw [e0]
        have h' : bs.drop at_ = byt v ++ (byts false l [] ++ more) := h
        dsimp only
        rw [Nat.add_zero, hf v List.mem_cons_self p r at_ _ hr h']
        dsimp only
        have := rows_back bs f false d l [] (vs ++ [v]) ks0 r q (at_ + (byt v).length) more (fun u hu => hf u (List.mem_cons_of_mem _ hu)) hm (by simp) (by simp) (drop_of h')
        rw [this]
        simp [key1, Nat.add_assoc]
      | true =>
        obtain ⟨hl, hks⟩ := h1 rfl
        obtain ⟨k, r', rfl, hl'⟩ := ks_tail hl
        rw [ksOk, Bool.and_eq_true, Bool.and_eq_true] at hks
        have e1 : key1 true (k :: r') = num k.size ++ str k := rfl
        rw [e1] at h ⊢
        rw [List.tail_cons] at h ⊢
        rw [rkeys_back rfl hks.1.1 hks.1.2 h]
        have h' := drop_of h
        dsimp only
        rw [hf v List.mem_cons_self p r _ _ hr h']
        dsimp only
        have := rows_back bs f true d l r' (vs ++ [v]) (ks0 ++ [k]) r q (at_ + (num k.size ++ str k).length + (byt v).length) more (fun u hu => hf u (List.mem_cons_of_mem _ hu)) hm (fun _ => ⟨hl', by simpa using hks.2⟩) (by simp) (drop_of h')
        rw [this]
        simp [Nat.add_assoc]
end Go.Proofs.Ytaapbiiiepdopaa
