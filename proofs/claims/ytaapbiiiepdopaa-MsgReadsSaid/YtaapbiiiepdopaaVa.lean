/- A reader of bytes: any value. -/
import Derived.Test.YtaapbiiiepdopaaRo
namespace Go.Proofs.Ytaapbiiiepdopaa
open Go.RowKit Mem
set_option linter.unusedVariables false

theorem byte_low {x : UInt8} (h : ¬ 8 < x.toNat) : x = 0 ∨ x = 1 ∨ x = 2 ∨ x = 3 ∨ x = 4 ∨ x = 5 ∨ x = 6 ∨ x = 7 ∨ x = 8 := by
  have : ∀ n : Nat, x.toNat = n → x = UInt8.ofNat n := fun n hn => by rw [← hn]; simp
  have h9 : x.toNat = 0 ∨ x.toNat = 1 ∨ x.toNat = 2 ∨ x.toNat = 3 ∨ x.toNat = 4 ∨ x.toNat = 5 ∨ x.toNat = 6 ∨ x.toNat = 7 ∨ x.toNat = 8 := by omega
  rcases h9 with h | h | h | h | h | h | h | h | h <;> (have e := this _ h; subst e; simp)
theorem value_any {g n c : Nat} {A : Option Addr} {bs : List UInt8} : ∀ (d : Nat), d ≤ 32 → ValC g A n c bs d := by
  intro d
  induction d with
  | zero =>
    intro _ w at_ p h hp
    cases hx : bs[at_]? with
    | none => exact val_none (x := 0) h hp hx
    | some x => exact val_bad h hp (by omega) hx (.inr (.inl rfl))
  | succ d ih =>
    intro hd w at_ p h hp
    have ih : ValC g A n c bs d := ih (by omega)
    cases hx : bs[at_]? with
    | none => exact val_none (x := 0) h hp hx
    | some x =>
      by_cases hb : 8 < x.toNat ∨ d + 1 = 0 ∨ 4096 < p + 1
      · exact val_bad h hp hd hx hb
      · have hp' : p + 1 ≤ 4096 := by omega
        rcases byte_low (x := x) (by omega) with e | e | e | e | e | e | e | e | e <;> rw [e] at hx
        · exact val_t0 h hp' hd hx
        · exact val_t1 h hp' hd hx
        · exact val_t2 h hp' hd hx
        · exact val_t3 h hp' hd hx
        · exact val_t4 h hp' hd hx
        · exact val_t5 h hp' hd hx ih
        · exact val_t6 h hp' hd hx ih
        · exact val_t7 h hp' hd hx
        · exact val_t8 h hp' hd hx
end Go.Proofs.Ytaapbiiiepdopaa
