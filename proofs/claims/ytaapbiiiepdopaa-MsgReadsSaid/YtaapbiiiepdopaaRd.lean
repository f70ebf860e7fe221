/- What slice arguments read as, and that their sizes are within the bulk of what they read as; no condition of its own. -/
import Derived.Test.YtaapbiiiepdopaaRows
import Derived.Test.YtaapbiiiepdopaaMem
import Derived.ProofKit
import Derived.OpenShut
import Derived.Deep.Slices
namespace Go.Proofs.Ytaapbiiiepdopaa.Mem
open Go.RowKit Go.Deep Go.ChangeShapes Go.WideShapes
set_option linter.unusedVariables false

section
variable {H : Type} {enc : TypeId × Value → H} {P : Program} {w : World} {base : Nat} {sp : Nat → Bool} {held : Bool} {fuel : Nat} {t e : TypeId} {v : Value} {d : DataW H} {ps : List MemPlace}

theorem bulk_pos (d : DataW H) : 1 ≤ Rows.uptoBulk d := by
  cases d with
  | lit l => cases l <;> simp [Rows.uptoBulk]
  | nil => simp [Rows.uptoBulk]
  | ptr d => simp [Rows.uptoBulk]
  | slice elems spare => simp [Rows.uptoBulk]
  | agg parts => simp [Rows.uptoBulk]
  | iface t d => simp [Rows.uptoBulk]
  | map entries => simp [Rows.uptoBulk]
  | held h => simp [Rows.uptoBulk]
theorem bulk_length (l : List (DataW H)) : l.length ≤ Rows.uptoBulkAll l := by
  induction l with
  | nil => simp [Rows.uptoBulkAll]
  | cons x r ih => have := bulk_pos x; simp only [Rows.uptoBulkAll, List.length_cons]; omega
theorem bulk_elems (elems spare : List (DataW H)) : Rows.uptoBulkAll elems + 1 ≤ Rows.uptoBulk (.slice elems spare) := by
  simp only [Rows.uptoBulk]
  omega

theorem rd_ints {k : IntKind} (ht : P.underlying t = some (.slice e)) (he : P.underlying e = some (.int k)) (hc : P.cellsOf e = 1) (h : DataW.trod enc P w base sp held fuel t [v] = some (d, ps)) :
    ∃ (A : Option Addr) (n c : Nat) (zs : List Int), v = .slice A n c ∧ n ≤ c ∧ Reads w 0 w.heap.size 1 A n (zs.map (Value.int k)) ∧ (∀ z ∈ zs, (Lit.int k z).wf = true) ∧ n + 1 ≤ Rows.uptoBulk d := by
  rcases open_ints ht he hc h with ⟨hcs, hx⟩ | ⟨a, len, cap, zs, hcs, _, hl, hm, hz, hx, hcell, hwz⟩
  · simp only [List.cons.injEq, and_true] at hcs
    exact ⟨none, 0, 0, [], hcs, Nat.le_refl _, Reads.none_, (by simp), bulk_pos d⟩
  · simp only [List.cons.injEq, and_true] at hcs
    have hlen : len ≤ zs.length := by rw [hz]; split <;> omega
    simp only [Prod.mk.injEq] at hx
    refine ⟨some a, len, cap, zs.take len, hcs, hl, ⟨by simp; omega, fun hn => ⟨a, rfl, Nat.zero_le _, ?_, fun j u hu => ?_⟩⟩, fun z hz' => hwz z (List.mem_of_mem_take hz'), ?_⟩
    · have := World.block_lt_of_cell? w _ (hcell 0 (by omega))
      rwa [block_of_add] at this
    · have hj : j < len := by
        have := (List.getElem?_eq_some_iff.1 hu).1
        simp at this
        omega
      rw [hcell j (by omega)]
      have e : ((zs.take len).map (Value.int k))[j]? = some (.int k (zs.getD j 0)) := by
        simp [hj, List.getD, show j < zs.length by omega]
      rw [e] at hu
      exact hu
    · rw [hx.1]
      have h1 := bulk_elems (lits (H := H) k (zs.take len)) (lits k (zs.drop len))
      have h2 := bulk_length (lits (H := H) k (zs.take len))
      simp only [lits, List.length_map, List.length_take] at h2
      simp only [lits] at h1 ⊢
      omega

theorem rd_bytes (ht : P.underlying t = some (.slice e)) (he : P.underlying e = some (.int .u8)) (hc : P.cellsOf e = 1) (h : DataW.trod enc P w base sp held fuel t [v] = some (d, ps)) :
    ∃ (A : Option Addr) (n c : Nat) (xs : List UInt8), v = .slice A n c ∧ n ≤ c ∧ Reads w 0 w.heap.size 1 A n (xs.map B8) ∧ n + 1 ≤ Rows.uptoBulk d := by
  obtain ⟨A, n, c, zs, hv, hn, hr, hw, hb⟩ := rd_ints ht he hc h
  refine ⟨A, n, c, zs.map fun n => UInt8.ofNat n.toNat, hv, hn, ?_, hb⟩
  have e : (zs.map fun n => UInt8.ofNat n.toNat).map B8 = zs.map (Value.int .u8) := by
    rw [List.map_map]
    refine List.map_congr_left fun n hn => ?_
    have hw := bounds_u8 (hw n hn)
    show B8 (UInt8.ofNat n.toNat) = _
    rw [← B8_ofNat n.toNat (by omega)]
    congr 1
    omega
  rw [e]
  exact hr

theorem Rows2_map {lo hi : Nat} {V : Nat → Value} {X : Nat → List UInt8} : ∀ (l : List Nat), (∀ i ∈ l, ∃ A n c, V i = .slice A n c ∧ n ≤ c ∧ Reads w lo hi 1 A n ((X i).map B8)) → Rows2 w lo hi (l.map V) (l.map X)
  | [], _ => trivial
  | i :: l, h => ⟨h i List.mem_cons_self, Rows2_map l fun j hj => h j (List.mem_cons_of_mem _ hj)⟩
theorem bulk_map {X : Nat → List UInt8} {D : Nat → DataW H} : ∀ (l : List Nat), (∀ i ∈ l, (X i).length + 1 ≤ Rows.uptoBulk (D i)) → ((l.map X).map fun x => x.length + 1).sum ≤ Rows.uptoBulkAll (l.map D)
  | [], _ => by simp
  | i :: l, h => by
    have h1 := h i List.mem_cons_self
    have h2 := bulk_map l fun j hj => h j (List.mem_cons_of_mem _ hj)
    simp only [List.map_cons, List.sum_cons, Rows.uptoBulkAll]
    omega

theorem rd_rows {e1 : TypeId} (ht : P.underlying t = some (.slice e1)) (he1 : P.underlying e1 = some (.slice e)) (hc1 : P.cellsOf e1 = 1) (he : P.underlying e = some (.int .u8)) (hc : P.cellsOf e = 1) (h : DataW.trod enc P w base sp held fuel t [v] = some (d, ps)) :
    ∃ (A : Option Addr) (n c : Nat) (vs : List Value) (xss : List (List UInt8)), v = .slice A n c ∧ n ≤ c ∧ Reads w 0 w.heap.size 1 A n vs ∧ Rows2 w 0 w.heap.size vs xss ∧ (xss.map fun x => x.length + 1).sum + 1 ≤ Rows.uptoBulk d := by
  rcases open_slice1 ht hc1 h with ⟨hcs, hx⟩ | ⟨a, len, cap, m, k, V, D, Pl, hcs, _, hl, hm, hmm, hx, hel⟩
  · simp only [List.cons.injEq, and_true] at hcs
    exact ⟨none, 0, 0, [], [], hcs, Nat.le_refl _, Reads.none_, trivial, by simpa using bulk_pos d⟩
  · simp only [List.cons.injEq, and_true] at hcs
    have hlen : len ≤ m := by rw [hmm]; split <;> omega
    have each : ∀ i, i < len → ∃ y : Value × List UInt8, w.cell? (a.add i) = some y.1 ∧ (∃ A n c, y.1 = .slice A n c ∧ n ≤ c ∧ Reads w 0 w.heap.size 1 A n (y.2.map B8)) ∧ y.2.length + 1 ≤ Rows.uptoBulk (D i) := by
      intro i hi
      obtain ⟨hcell, htr⟩ := hel i (by omega)
      obtain ⟨A, n, c, xs, hv, hn, hr, hb⟩ := rd_bytes he1 he hc htr
      have hl : xs.length = n := by simpa using hr.1
      refine ⟨(V i, xs), hcell, ⟨A, n, c, hv, hn, hr⟩, ?_⟩
      show xs.length + 1 ≤ _
      omega
    obtain ⟨Y, hY⟩ := choose_lt each
    simp only [Prod.mk.injEq] at hx
    refine ⟨some a, len, cap, (List.range len).map fun i => (Y i).1, (List.range len).map fun i => (Y i).2, hcs, hl, ⟨by simp, fun hn => ⟨a, rfl, Nat.zero_le _, ?_, fun j u hu => ?_⟩⟩, Rows2_map _ fun i hi => (hY i (List.mem_range.1 hi)).2.1, ?_⟩
    · have := World.block_lt_of_cell? w _ (hY 0 (by omega)).1
      rwa [block_of_add] at this
    · have hj : j < len := by
        have := (List.getElem?_eq_some_iff.1 hu).1
        simpa using this
      rw [(hY j hj).1]
      simpa [hj] using hu
    · rw [hx.1]
      have h1 := bulk_elems ((List.range len).map D) ((List.range (m - len)).map fun j => D (len + j))
      have h2 := bulk_map (X := fun i => (Y i).2) (D := D) (List.range len) fun i hi => (hY i (List.mem_range.1 hi)).2.2
      omega
end
end Go.Proofs.Ytaapbiiiepdopaa.Mem
