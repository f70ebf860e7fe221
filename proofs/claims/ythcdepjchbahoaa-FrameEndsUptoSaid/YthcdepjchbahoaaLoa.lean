/- The reference's reading of the load at the front of bytes, for any bytes. -/
import Derived.Test.YthcdepjchbahoaaLen
namespace Go.Proofs.Ythcdepjchbahoaa
open Go.RowKit Mem

/-- what the reference's Load tells -/
def loadOf (xs : List UInt8) : Int :=
  if xs.length < 4 then 0 else if nat4 xs < 1 ∨ 32768 < nat4 xs then -1 else if xs.length < 4 + nat4 xs then 0 else (nat4 xs : Int)

def LoadR (b0 b1 b2 b3 n : Nat) (r : Int) : Prop :=
  (0 < b0 ∨ 0 < b1 ∨ b2 * 256 + b3 < 1 ∨ 32768 < b2 * 256 + b3) ∧ r = -1 ∨
  (b0 = 0 ∧ b1 = 0 ∧ 1 ≤ b2 * 256 + b3 ∧ b2 * 256 + b3 ≤ 32768) ∧ (n < 4 + (b2 * 256 + b3) ∧ r = 0 ∨ 4 + (b2 * 256 + b3) ≤ n ∧ r = ((b2 * 256 + b3 : Nat) : Int))

theorem load_at (b off n c : Nat) (b0 b1 b2 b3 : UInt8) (w : World) (h4 : 4 ≤ n) (h0 : w.cell? ⟨b, off, none⟩ = some (.int .u8 b0.toNat)) (h1 : w.cell? ⟨b, off + 1, none⟩ = some (.int .u8 b1.toNat))
    (h2 : w.cell? ⟨b, off + 2, none⟩ = some (.int .u8 b2.toNat)) (h3 : w.cell? ⟨b, off + 3, none⟩ = some (.int .u8 b3.toNat)) :
    Calls Try.prog 19 #[.slice (some ⟨b, off, none⟩) n c] w fun e w' => (∃ r : Int, e = .returned (.int .i64 r) ∧ LoadR b0.toNat b1.toNat b2.toNat b3.toNat n r) ∧ ∃ k, w.drewN k = w' := by
  have g0 := b0.toNat_lt
  have g1 := b1.toNat_lt
  have g2 := b2.toNat_lt
  have g3 := b3.toNat_lt
  go_enter Try.func19, Try.ntmps19
  go_wp2
  go_quiet (fail)
  go_wp2
  all_goals go_ret
  all_goals exact ⟨⟨_, rfl, by unfold LoadR; omega⟩, _, rfl⟩

theorem load_any (lo hi n c : Nat) (A : Option Addr) (xs : List UInt8) (w : World) (hr : Reads w lo hi 1 A n (xs.map B8)) :
    Calls Try.prog 19 #[.slice A n c] w fun e w' => e = .returned (.int .i64 (loadOf xs)) ∧ ∃ k, w.drewN k = w' := by
  have hl : xs.length = n := by simpa using hr.1
  by_cases h4 : n < 4
  · have e : loadOf xs = 0 := by rw [loadOf, if_pos (by omega)]
    rw [e]
    clear e hl hr
    go_enter Try.func19, Try.ntmps19
    go_wp2
    go_ret
    exact ⟨rfl, 0, rfl⟩
  · obtain ⟨b, off, b0, b1, b2, b3, rfl, h0, h1, h2, h3, hn, _⟩ := four hr (by omega)
    refine (load_at b off n c b0 b1 b2 b3 w (by omega) h0 h1 h2 h3).mono ?_
    rintro e w' ⟨⟨r, rfl, hR⟩, hk⟩
    have e : r = loadOf xs := by
      have g2 := b2.toNat_lt
      have g3 := b3.toNat_lt
      rw [loadOf, if_neg (by omega)]
      rw [hl, hn]
      rcases hR with ⟨h, rfl⟩ | ⟨h, h' | h'⟩
      · rw [if_pos (by omega)]
      · rw [if_neg (by omega), if_pos (by omega)]; exact h'.2
      · rw [if_neg (by omega), if_neg (by omega)]; omega
    exact ⟨by rw [e], hk⟩

end Go.Proofs.Ythcdepjchbahoaa
