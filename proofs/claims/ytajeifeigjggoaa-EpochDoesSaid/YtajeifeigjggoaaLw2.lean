/- Tickets given back one by one: in plain Lean. -/
import Derived.Test.YtajeifeigjggoaaFr
namespace Go.Proofs.Ytajeifeigjggoaa
open Go.RowKit Go.Maps Mem
set_option linter.unusedVariables false

/-- m tickets, the first i given back -/
def pq (m i : Nat) : List Nat := List.replicate i 0 ++ List.replicate (m - i) 1
theorem pq_zero (m : Nat) : pq m 0 = List.replicate m 1 := by simp [pq]
theorem pq_len {m i : Nat} (h : i ≤ m) : (pq m i).length = m := by simp [pq]; omega
theorem pq_at {m i : Nat} (h : i < m) : (pq m i).getD i 0 = 1 := by
  simp [pq, List.getD, show 0 < m - i by omega]
theorem pq_set {m i : Nat} (h : i < m) : (pq m i).set i 0 = pq m (i + 1) := by
  unfold pq
  obtain ⟨d, hd⟩ : ∃ d, m - i = d + 1 := ⟨m - i - 1, by omega⟩
  rw [hd, show m - (i + 1) = d by omega, List.set_append_right _ _ (by simp)]
  simp only [List.length_replicate, Nat.sub_self, List.replicate_succ, List.set_cons_zero]
  rw [← List.replicate_succ, List.replicate_succ', List.append_assoc]
  rfl
theorem pq_look {m i : Nat} (h : i < m) : look (pq m i) ((i : Int) + 1) = some 1 := by
  unfold look
  have e : ((i : Int) + 1).toNat - 1 = i := by omega
  rw [e, pq_at h, if_pos ⟨by omega, by rw [pq_len (by omega)]; omega, by omega⟩]
theorem pq_unp {m i : Nat} (h : i < m) : unpS (pq m i) ((i : Int) + 1) = pq m (i + 1) ∧ unpE (pq m i) ((i : Int) + 1) = 0 := by
  have hl := pq_len (m := m) (i := i) (by omega)
  have e : ((i : Int) + 1).toNat - 1 = i := by omega
  constructor
  · unfold unpS
    rw [pq_look h, if_pos (by rfl), e, pq_set h]
  · unfold unpE
    rw [if_neg (by rw [hl]; omega), pq_look h]
    rfl
theorem pq_look2 {m i : Nat} (h : i < m) : look (pq m (i + 1)) ((i : Int) + 1) = none := by
  rw [← pq_set h]
  have := look_set (p := pq m i) (t := i + 1) (by omega) (by rw [pq_len (by omega)]; omega) ((i : Int) + 1)
  rw [show i + 1 - 1 = i from rfl] at this
  rw [this, if_pos (by omega)]
theorem pq_unp2 {m i : Nat} (h : i < m) : unpS (pq m (i + 1)) ((i : Int) + 1) = pq m (i + 1) ∧ unpE (pq m (i + 1)) ((i : Int) + 1) = 24 := by
  have hl := pq_len (m := m) (i := i + 1) (by omega)
  constructor
  · unfold unpS
    rw [pq_look2 h]
    rfl
  · unfold unpE
    rw [if_neg (by rw [hl]; omega), pq_look2 h]
    rfl
theorem pq_busy {m i : Nat} (h : i < m) : busy 2 (pq m i) = true := busy_iff.2 ⟨_, _, pq_look h, by omega⟩
theorem pq_free (m : Nat) : busy 2 (pq m m) = false := by simp [busy, pq]
theorem pq_cnt (m : Nat) : cnt (pq m m) = 0 := by simp [cnt, pq]
theorem ones_cnt (m : Nat) : cnt (List.replicate m 1) = m := by simp [cnt, List.countP_replicate]
theorem ones_free (m : Nat) : busy 1 (List.replicate m 1) = false := by
  unfold busy
  rw [List.any_eq_false]
  intro x hx
  obtain ⟨_, rfl⟩ := List.mem_replicate.1 hx
  simp
theorem ones_pin {k : Nat} (h : k < 64) : pinS 1 (List.replicate k 1) = List.replicate (k + 1) 1 ∧ pinT (List.replicate k 1) = (k : Int) + 1 ∧ pinE (List.replicate k 1) = 0 := by
  unfold pinS pinT pinE
  rw [ones_cnt, if_neg (by omega), if_neg (by omega), if_neg (by omega)]
  exact ⟨by rw [List.replicate_succ'], by simp, rfl⟩
/-- the tickets 1, 2, .. -/
def tks (k : Nat) : List Value := (List.range k).map fun (i : Nat) => .int .i64 ((i : Int) + 1)
theorem tks_succ (k : Nat) : tks k ++ [.int .i64 ((k : Int) + 1)] = tks (k + 1) := by simp [tks, List.range_succ]
theorem tks_at {k i : Nat} (h : i < k) : (tks k)[i]? = some (.int .i64 ((i : Int) + 1)) := by simp [tks, h]
end Go.Proofs.Ytajeifeigjggoaa
