/- Reading fails in two ways only. -/
import Derived.Test.YtaapbiiiepdopaaPy
namespace Go.Proofs.Ytaapbiiiepdopaa
set_option linter.unusedVariables false

theorem rn_err : ∀ (l : List UInt8) (k : Nat) (z : Int), rn k l = .error z → z = 1 ∨ z = 22
  | [], k, z, h => by
    simp [rn] at h
    omega
  | c :: r, k, z, h => by
    rw [rn] at h
    split at h
    · cases h; omega
    · split at h
      · cases h
      · split at h
        · cases h
        · rename_i e he
          cases h
          exact rn_err r _ _ he
theorem rkey_err {p : Option ByteArray} {l : List UInt8} {z : Int} (h : rkey p l = .error z) : z = 1 ∨ z = 22 := by
  unfold rkey at h
  split at h
  · rename_i e he
    cases h
    exact rn_err _ _ _ he
  · split at h
    · cases h; omega
    · split at h
      · cases h; omega
      · split at h
        · cases h
        · cases h; omega
theorem rkeys_err {m : Bool} {ks : List ByteArray} {l : List UInt8} {z : Int} (h : rkeys m ks l = .error z) : z = 1 ∨ z = 22 := by
  unfold rkeys at h
  split at h
  · split at h
    · rename_i e he
      cases h
      exact rkey_err he
    · cases h
  · cases h
theorem rows_err {bs : List UInt8} {f : Nat → Nat → Rd} (hf : ∀ p a z, f p a = .error z → z = 1 ∨ z = 22) {m : Bool} : ∀ (n : Nat) (vs : List V) (ks : List ByteArray) (p at_ : Nat) (z : Int), rows bs f m n vs ks p at_ = .error z → z = 1 ∨ z = 22
  | 0, vs, ks, p, at_, z, h => by
    rw [rows] at h
    cases h
  | n + 1, vs, ks, p, at_, z, h => by
    rw [rows] at h
    split at h
    · rename_i e he
      cases h
      exact rkeys_err he
    · split at h
      · rename_i e he
        cases h
        exact hf _ _ _ he
      · exact rows_err hf n _ _ _ _ _ h
theorem rdT_err {bs : List UInt8} {f : Nat → Nat → Rd} (hf : ∀ p a z, f p a = .error z → z = 1 ∨ z = 22) {t p at_ : Nat} {z : Int} (h : rdT bs f t p at_ = .error z) : z = 1 ∨ z = 22 := by
  unfold rdT at h
  split at h
  · cases h
  split at h
  · cases h
  split at h
  · rename_i e he
    cases h
    exact rn_err _ _ _ he
  split at h
  · cases h
  split at h
  · split at h
    · cases h; omega
    · cases h
  split at h
  · split at h
    · cases h; omega
    · cases h
  split at h
  · rename_i e he
    cases h
    exact rows_err hf _ _ _ _ _ _ he
  · cases h
theorem rd_err (bs : List UInt8) : ∀ (d p at_ : Nat) (z : Int), rd bs d p at_ = .error z → z = 1 ∨ z = 22
  | 0, p, at_, z, h => by
    rw [rd] at h
    split at h <;> (cases h; omega)
  | d + 1, p, at_, z, h => by
    rw [rd] at h
    split at h
    · cases h; omega
    · split at h
      · cases h; omega
      · exact rdT_err (rd_err bs d) h
theorem dec_err {bs : List UInt8} {z : Int} (h : dec bs = .error z) : z = 1 ∨ z = 22 := rd_err bs _ _ _ _ h
end Go.Proofs.Ytaapbiiiepdopaa
