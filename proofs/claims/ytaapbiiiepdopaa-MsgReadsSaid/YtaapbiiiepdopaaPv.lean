/- Values as trees, their bytes, and the reading of bytes, in plain Lean: no program, no condition of its own. -/
import Derived.WalkKit
import Derived.WalkLawsBesides
namespace Go.Proofs.Ytaapbiiiepdopaa
set_option linter.unusedVariables false

/-- a value: kind, truth, number, text, list, keys -/
inductive V where
  | mk (k : Int) (b : Bool) (n : Int) (s : ByteArray) (l : List V) (ks : List ByteArray)

theorem V.ind {P : V → Prop} (h : ∀ k b n s l ks, (∀ x ∈ l, P x) → P (.mk k b n s l ks)) (v : V) : P v :=
  V.rec (motive_1 := P) (motive_2 := fun l => ∀ x ∈ l, P x) (fun k b n s l ks hl => h k b n s l ks hl) (fun x hx => by cases hx)
    (fun x l hx hl y hy => by
      cases hy with
      | head => exact hx
      | tail _ hy => exact hl y hy) v

def V.k : V → Int | .mk k _ _ _ _ _ => k
def V.b : V → Bool | .mk _ b _ _ _ _ => b
def V.n : V → Int | .mk _ _ n _ _ _ => n
def V.s : V → ByteArray | .mk _ _ _ s _ _ => s
def V.l : V → List V | .mk _ _ _ _ l _ => l
def V.ks : V → List ByteArray | .mk _ _ _ _ _ ks => ks
def nul : V := .mk 0 false 0 .empty [] []

def less (a b : ByteArray) : Bool := Op.bytesLess a.toList b.toList
def str (s : ByteArray) : List UInt8 := s.data.toList
def ofL (l : List UInt8) : ByteArray := ⟨l.toArray⟩
theorem str_len (s : ByteArray) : (str s).length = s.size := rfl
theorem str_ofL (l : List UInt8) : str (ofL l) = l := rfl
theorem ofL_str (s : ByteArray) : ofL (str s) = s := rfl
theorem size_ofL (l : List UInt8) : (ofL l).size = l.length := rfl

/-! ## Numbers -/
/-- the pieces of a number, the lowest first -/
def num (n : Nat) : List UInt8 := if h : n < 128 then [UInt8.ofNat n] else UInt8.ofNat (n % 128 + 128) :: num (n / 128)
termination_by n
decreasing_by omega
theorem num_small {n : Nat} (h : n < 128) : num n = [UInt8.ofNat n] := by rw [num, dif_pos h]
theorem num_big {n : Nat} (h : ¬ n < 128) : num n = UInt8.ofNat (n % 128 + 128) :: num (n / 128) := by rw [num, dif_neg h]
theorem num_len : ∀ (m n : Nat), n < 128 ^ (m + 1) → (num n).length ≤ m + 1
  | 0, n, h => by rw [num_small (by simpa using h)]; simp
  | m + 1, n, h => by
    by_cases h0 : n < 128
    · rw [num_small h0]; simp
    · rw [num_big h0, List.length_cons]
      have := num_len m (n / 128) (by rw [Nat.pow_succ] at h; omega)
      omega
theorem num_len10 {n : Nat} (h : n < 18446744073709551616) : (num n).length ≤ 10 := num_len 9 n (by omega)
theorem num_pos (n : Nat) : 1 ≤ (num n).length := by
  by_cases h : n < 128
  · rw [num_small h]; simp
  · rw [num_big h]; simp

/-- the number at the front, piece k being next; and how many bytes it has -/
def rn : Nat → List UInt8 → Except Int (Nat × Nat)
  | _, [] => .error 22
  | k, c :: r => if (k = 9 ∧ 1 < c.toNat) ∨ (0 < k ∧ c.toNat = 0) then .error 1 else if c.toNat < 128 then .ok (c.toNat, 1) else
    match rn (k + 1) r with
    | .ok (n, m) => .ok (c.toNat - 128 + 128 * n, m + 1)
    | .error e => .error e
theorem toNat_of {n : Nat} (h : n < 256) : (UInt8.ofNat n).toNat = n := by simp; omega
theorem rn_num : ∀ (m n k : Nat) (more : List UInt8), m + k = 9 → n < 2 * 128 ^ m → (0 < k → 0 < n) → rn k (num n ++ more) = .ok (n, (num n).length)
  | 0, n, k, more, hk, hn, h0 => by
    have hn' : n < 2 := by simpa using hn
    rw [num_small (by omega)]
    simp only [List.cons_append, List.nil_append, rn, toNat_of (show n < 256 by omega)]
    rw [if_neg (by omega), if_pos (by omega)]
    rfl
  | m + 1, n, k, more, hk, hn, h0 => by
    by_cases hs : n < 128
    · rw [num_small hs]
      simp only [List.cons_append, List.nil_append, rn, toNat_of (show n < 256 by omega)]
      rw [if_neg (by omega), if_pos hs]
      rfl
    · rw [num_big hs]
      simp only [List.cons_append, rn, toNat_of (show n % 128 + 128 < 256 by omega)]
      rw [if_neg (by omega), if_neg (by omega), rn_num m (n / 128) (k + 1) more (by omega) (by rw [Nat.pow_succ] at hn; omega) (by omega)]
      simp only [List.length_cons]
      have : n % 128 + 128 - 128 + 128 * (n / 128) = n := by omega
      rw [this]
theorem rn_back {n : Nat} (h : n < 18446744073709551616) (more : List UInt8) : rn 0 (num n ++ more) = .ok (n, (num n).length) :=
  rn_num 9 n 0 more rfl (by omega) (by omega)
theorem rn_one : ∀ (m k : Nat) (l : List UInt8) (n c : Nat), m + k = 9 → rn k l = .ok (n, c) → n < 2 * 128 ^ m ∧ (0 < k → 0 < n) ∧ c = (num n).length ∧ l = num n ++ l.drop c
  | m, k, [], n, c, hk, h => by simp [rn] at h
  | m, k, x :: r, n, c, hk, h => by
    rw [rn] at h
    by_cases h1 : (k = 9 ∧ 1 < x.toNat) ∨ (0 < k ∧ x.toNat = 0)
    · rw [if_pos h1] at h; cases h
    · rw [if_neg h1] at h
      by_cases h2 : x.toNat < 128
      · rw [if_pos h2] at h
        simp only [Except.ok.injEq, Prod.mk.injEq] at h
        obtain ⟨rfl, rfl⟩ := h
        have hp : 1 ≤ 128 ^ m := Nat.one_le_pow _ _ (by omega)
        refine ⟨?_, by omega, by rw [num_small h2]; rfl, ?_⟩
        · cases m with
          | zero => simp; omega
          | succ m => rw [Nat.pow_succ]; have : 1 ≤ 128 ^ m := Nat.one_le_pow _ _ (by omega); omega
        · rw [num_small h2]; simp
      · rw [if_neg h2] at h
        cases m with
        | zero => omega
        | succ m =>
          cases hr : rn (k + 1) r with
          | error e => rw [hr] at h; cases h
          | ok q =>
            obtain ⟨n', c'⟩ := q
            rw [hr] at h
            simp only [Except.ok.injEq, Prod.mk.injEq] at h
            obtain ⟨rfl, rfl⟩ := h
            obtain ⟨h3, h4, h5, h6⟩ := rn_one m (k + 1) r n' c' (by omega) hr
            have hx : x.toNat < 256 := x.toNat_lt
            have h0 : 0 < n' := h4 (by omega)
            have e : num (x.toNat - 128 + 128 * n') = x :: num n' := by
              rw [num_big (by omega)]
              have e1 : (x.toNat - 128 + 128 * n') % 128 + 128 = x.toNat := by omega
              have e2 : (x.toNat - 128 + 128 * n') / 128 = n' := by omega
              rw [e1, e2]
              simp
            refine ⟨by rw [Nat.pow_succ]; omega, by omega, by rw [e, h5]; rfl, ?_⟩
            rw [e, List.cons_append, List.drop_succ_cons, ← h6]
theorem rn_of {l : List UInt8} {n c : Nat} (h : rn 0 l = .ok (n, c)) : n < 18446744073709551616 ∧ c = (num n).length ∧ l = num n ++ l.drop c := by
  obtain ⟨h1, _, h3, h4⟩ := rn_one 9 0 l n c rfl h
  exact ⟨by omega, h3, h4⟩
theorem rn_len {k : Nat} {l : List UInt8} {n c : Nat} (h : rn k l = .ok (n, c)) : 1 ≤ c ∧ c ≤ l.length := by
  induction l generalizing k n c with
  | nil => simp [rn] at h
  | cons x r ih =>
    rw [rn] at h
    by_cases h1 : (k = 9 ∧ 1 < x.toNat) ∨ (0 < k ∧ x.toNat = 0)
    · rw [if_pos h1] at h; cases h
    · rw [if_neg h1] at h
      by_cases h2 : x.toNat < 128
      · rw [if_pos h2] at h
        simp only [Except.ok.injEq, Prod.mk.injEq] at h
        simp only [List.length_cons]
        omega
      · rw [if_neg h2] at h
        cases hr : rn (k + 1) r with
        | error e => rw [hr] at h; cases h
        | ok q =>
          obtain ⟨n', c'⟩ := q
          rw [hr] at h
          simp only [Except.ok.injEq, Prod.mk.injEq] at h
          have := ih hr
          simp only [List.length_cons]
          omega
theorem rn_take (j : Nat) : ∀ (k : Nat) (l : List UInt8), rn k (l.take j) = .error 22 ∨ rn k (l.take j) = rn k l := by
  induction j with
  | zero => intro k l; left; simp [rn]
  | succ j ih =>
    intro k l
    cases l with
    | nil => right; simp
    | cons x r =>
      rw [List.take_succ_cons, rn, rn]
      by_cases h1 : (k = 9 ∧ 1 < x.toNat) ∨ (0 < k ∧ x.toNat = 0)
      · right; rw [if_pos h1, if_pos h1]
      · rw [if_neg h1, if_neg h1]
        by_cases h2 : x.toNat < 128
        · right; rw [if_pos h2, if_pos h2]
        · rw [if_neg h2, if_neg h2]
          rcases ih (k + 1) r with h | h
          · left; rw [h]
          · right; rw [h]

/-- 0, -1, 1, -2 .. as 0, 1, 2, 3 .. -/
def zz (n : Int) : Nat := if n < 0 then (-2 * n - 1).toNat else (2 * n).toNat
def uz (m : Nat) : Int := if m % 2 = 1 then -((m / 2 : Nat) : Int) - 1 else ((m / 2 : Nat) : Int)
theorem uz_zz (n : Int) : uz (zz n) = n := by unfold uz zz; split <;> split <;> omega
theorem zz_uz (m : Nat) : zz (uz m) = m := by unfold uz zz; split <;> split <;> omega
theorem zz_lt {n : Int} (h1 : -9223372036854775808 ≤ n) (h2 : n ≤ 9223372036854775807) : zz n < 18446744073709551616 := by unfold zz; split <;> omega
theorem uz_in {m : Nat} (h : m < 18446744073709551616) : -9223372036854775808 ≤ uz m ∧ uz m ≤ 9223372036854775807 := by unfold uz; split <;> omega
end Go.Proofs.Ytaapbiiiepdopaa
