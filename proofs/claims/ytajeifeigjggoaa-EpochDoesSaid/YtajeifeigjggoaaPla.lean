/- Epochs in plain Lean: which tickets read, what waits; no program in sight. -/
import Derived.Maps.RangeWalk
import Derived.Maps.OwnOps
import Derived.Maps.OwnSet
namespace Go.Proofs.Ytajeifeigjggoaa
open Go.Maps
set_option linter.unusedVariables false

/-- how many read: tickets that were not given back -/
def cnt (p : List Nat) : Nat := p.countP fun v => decide (0 < v)
/-- the epoch of a ticket that reads -/
def look (p : List Nat) (z : Int) : Option Nat := if 1 ≤ z ∧ z ≤ p.length ∧ 0 < p.getD (z.toNat - 1) 0 then some (p.getD (z.toNat - 1) 0) else none
/-- does somebody read in an epoch before now? -/
def busy (now : Nat) (p : List Nat) : Bool := p.any fun v => decide (0 < v) && decide (v < now)

/-- the map D holds the tickets that read -/
structure PinRel (D : DataW Unit) (p : List Nat) : Prop where
  has_ : ∀ z : Int, has D (.int .i64 z) = (look p z).isSome
  at_ : ∀ (z : Int) (v : Nat), look p z = some v → ∀ zd, D.atKey (.int .i64 z) zd = .lit (.int .i64 (v : Int))
  size_ : size D = cnt p
  tidy : Tidy D

theorem look_nil (z : Int) : look [] z = none := by
  unfold look
  rw [if_neg]
  simp only [List.length_nil]
  omega
theorem pin_empty : PinRel (.map []) [] where
  has_ z := by rw [look_nil]; rfl
  at_ z v h := by rw [look_nil] at h; cases h
  size_ := rfl
  tidy := tidy_empty

theorem look_snoc {p : List Nat} {v : Nat} (hv : 0 < v) (z : Int) : look (p ++ [v]) z = if z = (p.length : Int) + 1 then some v else look p z := by
  unfold look
  by_cases hz : z = (p.length : Int) + 1
  · subst hz
    have e : ((p.length : Int) + 1).toNat - 1 = p.length := by omega
    have g : (p ++ [v]).getD p.length 0 = v := by simp [List.getD]
    rw [e, g, if_pos (by simp; omega), if_pos rfl]
  · rw [if_neg hz]
    by_cases h1 : 1 ≤ z ∧ z ≤ p.length
    · have g : (p ++ [v]).getD (z.toNat - 1) 0 = p.getD (z.toNat - 1) 0 := by
        simp only [List.getD, List.getElem?_append]
        rw [if_pos (by omega)]
      rw [g]
      have e : (z ≤ ((p ++ [v]).length : Int)) ↔ z ≤ (p.length : Int) := by simp; omega
      simp only [e]
    · rw [if_neg (by simp; omega), if_neg (by omega)]

theorem look_set {p : List Nat} {t : Nat} (ht : 1 ≤ t) (ht2 : t ≤ p.length) (z : Int) : look (p.set (t - 1) 0) z = if z = (t : Int) then none else look p z := by
  unfold look
  by_cases hz : z = (t : Int)
  · subst hz
    rw [if_pos rfl, if_neg]
    have e : ((t : Int)).toNat - 1 = t - 1 := by omega
    rw [e]
    simp [List.getD, show t - 1 < p.length by omega]
  · rw [if_neg hz]
    by_cases h1 : 1 ≤ z ∧ z ≤ p.length
    · have g : (p.set (t - 1) 0).getD (z.toNat - 1) 0 = p.getD (z.toNat - 1) 0 := by
        simp only [List.getD, List.getElem?_set]
        rw [if_neg (by omega)]
      rw [g, List.length_set]
    · rw [if_neg (by simp; omega), if_neg (by omega)]

theorem key_ne {z t : Int} (h : ¬ z = t) : (Lit.int .i64 z).sameKey (.int .i64 t) = false := sameKey_ne (by intro e; injection e with _ e; exact h e)

theorem pin_put {D : DataW Unit} {p : List Nat} {v : Nat} (h : PinRel D p) (hv : 0 < v) (hk : WideAt.IsKeyLit (.int .i64 ((p.length : Int) + 1))) : PinRel (D.put (.int .i64 ((p.length : Int) + 1)) (.lit (.int .i64 (v : Int)))) (p ++ [v]) where
  has_ z := by
    rw [look_snoc hv]
    by_cases hz : z = (p.length : Int) + 1
    · subst hz
      rw [if_pos rfl, has_put_same h.tidy.isMap hk]
      rfl
    · rw [if_neg hz, has_put_other (by intro e; injection e with _ e; exact hz e)]
      exact h.has_ z
  at_ z u hu zd := by
    rw [look_snoc hv] at hu
    by_cases hz : z = (p.length : Int) + 1
    · subst hz
      rw [if_pos rfl] at hu
      cases hu
      exact atKey_put_same h.tidy.isMap hk _ _
    · rw [if_neg hz] at hu
      rw [atKey_put_other (by intro e; injection e with _ e; exact hz e)]
      exact h.at_ z u hu zd
  size_ := by
    have h0 : has D (.int .i64 ((p.length : Int) + 1)) = false := by
      rw [h.has_, look, if_neg (by omega)]
      rfl
    rw [size_put h.tidy, h0, h.size_]
    simp [cnt, hv]
  tidy := h.tidy.put hk _

theorem cnt_set {p : List Nat} {i : Nat} (hi : i < p.length) : cnt (p.set i 0) + (decide (0 < p[i]?.getD 0)).toNat = cnt p := by
  induction p generalizing i with
  | nil => simp at hi
  | cons a r ih =>
    cases i with
    | zero =>
      unfold cnt
      simp only [List.set_cons_zero, List.getElem?_cons_zero, Option.getD_some, List.countP_cons]
      by_cases ha : 0 < a <;> simp [ha]
    | succ i =>
      have h := ih (i := i) (by simpa using hi)
      unfold cnt at h ⊢
      simp only [List.set_cons_succ, List.getElem?_cons_succ, List.countP_cons]
      generalize (decide (0 < r[i]?.getD 0)).toNat = x at h ⊢
      omega

theorem pin_del {D : DataW Unit} {p : List Nat} {t : Nat} (h : PinRel D p) (ht : 1 ≤ t) (ht2 : t ≤ p.length) : PinRel (D.del (.int .i64 (t : Int))) (p.set (t - 1) 0) where
  has_ z := by
    rw [look_set ht ht2]
    by_cases hz : z = (t : Int)
    · subst hz
      rw [if_pos rfl, has_del_same]
      rfl
    · rw [if_neg hz, has_del_other (by intro e; injection e with _ e; exact hz e)]
      exact h.has_ z
  at_ z u hu zd := by
    rw [look_set ht ht2] at hu
    by_cases hz : z = (t : Int)
    · rw [if_pos hz] at hu
      cases hu
    · rw [if_neg hz] at hu
      rw [atKey_del_other (by intro e; injection e with _ e; exact hz e)]
      exact h.at_ z u hu zd
  size_ := by
    have h1 := size_del h.tidy (k := .int .i64 (t : Int))
    have h2 := cnt_set (p := p) (i := t - 1) (by omega)
    have h3 : has D (.int .i64 (t : Int)) = decide (0 < p.getD (t - 1) 0) := by
      rw [h.has_, look]
      have e : ((t : Int)).toNat - 1 = t - 1 := by omega
      rw [e]
      by_cases hg : 0 < p.getD (t - 1) 0
      · rw [if_pos (by omega)]; exact (decide_eq_true hg).symm
      · rw [if_neg (by omega)]; exact (decide_eq_false hg).symm
    rw [h3, h.size_] at h1
    have e4 : p.getD (t - 1) 0 = p[t - 1]?.getD 0 := rfl
    rw [e4] at h1
    by_cases hg : 0 < p[t - 1]?.getD 0
    · simp only [hg, decide_true, if_true, Bool.toNat_true] at h1 h2
      omega
    · simp only [hg, decide_false, Bool.toNat_false] at h1 h2
      simp at h1
      omega
  tidy := h.tidy.del _

theorem cnt_le (p : List Nat) : cnt p ≤ p.length := List.countP_le_length

/-- a reader before now is a key whose value is less -/
theorem busy_iff {now : Nat} {p : List Nat} : busy now p = true ↔ ∃ z v, look p z = some v ∧ v < now := by
  unfold busy
  rw [List.any_eq_true]
  constructor
  · rintro ⟨v, hv, h⟩
    simp only [Bool.and_eq_true, decide_eq_true_eq] at h
    obtain ⟨i, hi, e⟩ := List.getElem_of_mem hv
    refine ⟨(i : Int) + 1, v, ?_, h.2⟩
    have e2 : ((i : Int) + 1).toNat - 1 = i := by omega
    have e3 : p.getD i 0 = v := by simp [List.getD, hi, e]
    rw [look, e2, e3, if_pos (by omega)]
  · rintro ⟨z, v, h, hlt⟩
    unfold look at h
    split at h
    · rename_i hc
      cases h
      refine ⟨_, ?_, by simp only [Bool.and_eq_true, decide_eq_true_eq]; exact ⟨hc.2.2, hlt⟩⟩
      have hi : z.toNat - 1 < p.length := by omega
      simp only [List.getD, List.getElem?_eq_getElem hi, Option.getD_some]
      exact List.getElem_mem hi
    · cases h

end Go.Proofs.Ytajeifeigjggoaa
