/- What an argument that is a slice of integers reads as; no condition of its own. -/
import Derived.Test.YthcdepjchbahoaaMem
import Derived.ProofKit
import Derived.OpenShut
namespace Go.Proofs.Ythcdepjchbahoaa
open Go.RowKit Mem
set_option linter.unusedVariables false

/-- a slice of integers that came in: nil, or a row of cap cells, the numbers zs, the first len its elements -/
def IsRow (k : IntKind) (w : World) (a : Option Addr) (len cap : Nat) (zs : List Int) : Prop :=
  (a = none ∧ len = 0 ∧ cap = 0 ∧ zs = []) ∨
  ∃ x, a = some x ∧ len ≤ cap ∧ cap ≤ maxLen ∧ zs.length = cap ∧ (∀ i, i < zs.length → w.cell? (x.add i) = some (.int k (zs.getD i 0))) ∧ ∀ n ∈ zs, (Lit.int k n).wf = true

theorem isRow_reads {k : IntKind} {w : World} {a : Option Addr} {len cap : Nat} {zs : List Int} (h : IsRow k w a len cap zs) : len ≤ cap ∧ Reads w 0 w.heap.size 1 a len ((zs.take len).map (Value.int k)) := by
  rcases h with ⟨rfl, rfl, rfl, rfl⟩ | ⟨x, rfl, h1, h2, h3, h4, h5⟩
  · exact ⟨Nat.le_refl _, Reads.none_⟩
  · refine ⟨h1, by simp; omega, fun hn => ⟨x, rfl, Nat.zero_le _, ?_, fun j u hu => ?_⟩⟩
    · have := World.block_lt_of_cell? w _ (h4 0 (by omega))
      rwa [block_of_add] at this
    · have hj : j < len := by
        have := (List.getElem?_eq_some_iff.1 hu).1
        simp at this
        omega
      rw [h4 j (by omega)]
      have e : ((zs.take len).map (Value.int k))[j]? = some (.int k (zs.getD j 0)) := by
        simp [hj, List.getD, show j < zs.length by omega]
      rw [e] at hu
      exact hu

theorem wf_u8 {n : Int} (h : (Lit.int .u8 n).wf = true) : 0 ≤ n ∧ n < 256 := by
  have := bounds_u8 h
  omega

theorem isRow_bytes {w : World} {a : Option Addr} {len cap : Nat} {zs : List Int} (h : IsRow .u8 w a len cap zs) : ∃ xs : List UInt8, len ≤ cap ∧ Reads w 0 w.heap.size 1 a len (xs.map B8) := by
  obtain ⟨h1, h2⟩ := isRow_reads h
  refine ⟨(zs.take len).map fun n => UInt8.ofNat n.toNat, h1, ?_⟩
  have e : ((zs.take len).map fun n => UInt8.ofNat n.toNat).map B8 = (zs.take len).map (Value.int .u8) := by
    rw [List.map_map]
    refine List.map_congr_left fun n hn => ?_
    have hz : n ∈ zs := List.mem_of_mem_take hn
    have hw : 0 ≤ n ∧ n < 256 := by
      rcases h with ⟨_, _, _, rfl⟩ | ⟨x, rfl, _, _, _, _, h5⟩
      · cases hz
      · exact wf_u8 (h5 n hz)
    show B8 (UInt8.ofNat n.toNat) = _
    rw [← B8_ofNat n.toNat (by omega)]
    congr 1
    omega
  rw [e]
  exact h2

end Go.Proofs.Ythcdepjchbahoaa
