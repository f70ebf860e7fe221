/- Go's copy into a row that is known whole, elements of any size; the condition stands in each statement. -/
import Derived.Test.YtnfaaaehpfddgaaMem2
import Derived.Laws.CopyRow
import Derived.Laws.CopyOwn
namespace Go.Proofs.Ytnfaaaehpfddgaa.Mem
open Go.RowKit
set_option linter.unusedVariables false

theorem run_copy_size {P : Program} (w : World) (dT sT ty elem : TypeId) (g dLen dCap : Nat) (a : Addr) (sLen sCap : Nat) (cur : Array Value) (t : TypeId) (cs : List Value) (size n : Nat)
    (hu : P.underlying dT = some (.slice elem)) (hs : (P.info? elem).map (·.size) = some size)
    (hg : w.heap[g]? = some (.cells cur t (0, 0))) (hn : n = Nat.min sLen dLen) (hcs : cs.length = n * size)
    (hsrc : ∀ j v, cs[j]? = some v → w.cell? (a.add j) = some v) (hfit : cs.length ≤ cur.size) (h1 : ∀ v ∈ cs, v.oneCell' = true) :
    (Builtin.copy_ #[dT, sT] ty #[.slice (some ⟨g, 0, none⟩) dLen dCap, .slice (some a) sLen sCap]).run P w =
      .ok (goInt n) (w.setRow g (cs ++ cur.toList.drop cs.length).toArray) := by
  have hl := run_loadCells_list (P := P) w a cs hsrc
  have hst := run_storeCells_at P g 0 t cs 0 cur w hg (by simpa using hfit) h1
  rw [hcs] at hl
  cases hq : P.info? elem with
  | none => simp [hq] at hs
  | some i =>
    have hi : i.size = size := by simpa [hq] using hs
    simp only [Nat.add_zero, Nat.zero_add, List.take_zero, List.nil_append] at hst
    simp [Builtin.copy_, run_underlying hu, Builtin.lenOf, Builtin.firstCells, sizeOf, typeInfo, hq, hi, ← hn, hl, hst]

theorem run_copy_empty {P : Program} (w : World) (dT sT ty elem : TypeId) (a : Addr) (dLen dCap : Nat) (sp : Option Addr) (sCap : Nat) (hu : P.underlying dT = some (.slice elem)) (hs : ((P.info? elem).map (·.size)).isSome = true) :
    (Builtin.copy_ #[dT, sT] ty #[.slice (some a) dLen dCap, .slice sp 0 sCap]).run P w = .ok (goInt 0) w := by
  cases hq : P.info? elem with
  | none => simp [hq] at hs
  | some i => cases sp <;> simp [Builtin.copy_, run_underlying hu, Builtin.lenOf, Builtin.firstCells, sizeOf, typeInfo, hq, storeCells, loadCells, loadCellsFrom]

theorem wpList_copy_into {P : Program} {w : World} {ops : Array Oper} {rest : List Oper} {o : Oper} {a : Act} {Q : Exit → Act → World → Prop} {t e size bytes : Nat} {z : Value} (hE : Elem P t e z size bytes) (hgd : o.guard = none) (d s : Operand) (sT : TypeId)
    (ho : o.op = .call { callee := .builtin .copy, args := #[d, s], argTypes := #[t, sT] })
    {B g N c n sc lo hi : Nat} {A : Option Addr} {zs xs : List Value} (hown : w.ownsRow B e size (.slice (some ⟨g, 0, none⟩) N c) N zs) (hr : Reads w lo hi size A n xs) (h1 : ∀ u ∈ xs, u.oneCell' = true) (hnN : n ≤ N)
    (hd : a.eval d = .slice (some ⟨g, 0, none⟩) N c) (hs : a.eval s = .slice A n sc)
    (h : ∀ w', w'.ownsRow B e size (.slice (some ⟨g, 0, none⟩) N c) N (xs ++ zs.drop xs.length) → w.grownBy w' (some g) → wpList P ops Q rest (a.put o.dst (goInt n)) w') : wpList P ops Q (o :: rest) a w := by
  obtain ⟨i, hi', hz, hsz, hby⟩ := info_parts hE.info
  have hinf : (P.info? e).map (·.size) = some size := by rw [hi']; simp [hsz]
  refine wpList_plain hgd fun K hK => ?_
  rcases Nat.eq_zero_or_pos n with h0 | h0
  · subst h0
    have hx : xs = [] := List.eq_nil_of_length_eq_zero (by simpa using hr.1)
    subst hx
    have hrun := run_copy_empty (P := P) w t sT o.type e ⟨g, 0, none⟩ N c A sc hE.slice (by rw [hinf]; rfl)
    unfold Oper.wp
    simp [execOp, ho, resolve, invoke, builtin, hd, hs, hrun, Result.andThen]
    exact hK _ _ (h w (by simpa using hown) ⟨rfl, rfl, rfl, Nat.le_refl _, fun _ _ _ => rfl⟩)
  · obtain ⟨ad, rfl, _, _, hc⟩ := hr.2 h0
    obtain ⟨hl, hw⟩ := hown
    rcases hw with ⟨e1, _⟩ | ⟨g', cap, cur, e1, hb, hh, hcap, hmx, hcs, htk⟩
    · cases e1
    · cases e1
      have hxl : xs.length ≤ N * size := by rw [hr.1]; exact Nat.mul_le_mul_right _ hnN
      have hNc : N * size ≤ cur.size := by rw [hcs]; exact Nat.mul_le_mul_right _ hcap
      have hrun := run_copy_size (P := P) w t sT o.type e g N c ad n sc cur e xs size n hE.slice hinf hh (by simp [Nat.min_eq_left hnN]) hr.1 hc (by omega) h1
      unfold Oper.wp
      simp [execOp, ho, resolve, invoke, builtin, hd, hs, hrun, Result.andThen]
      refine hK _ _ (h _ ⟨by simp; omega, .inr ⟨g, c, _, rfl, hb, setRow_heap w g cur _ e _ hh, hcap, hmx, ?_, ?_⟩⟩ ⟨rfl, rfl, rfl, by simp [World.setRow], fun k hk hn => setRow_other w g k _ (fun e => hn (by rw [e]))⟩)
      · simp; omega
      · rw [← htk]
        simp only [List.drop_take]
        rw [List.take_append, List.take_of_length_le hxl]
end Go.Proofs.Ytnfaaaehpfddgaa.Mem
