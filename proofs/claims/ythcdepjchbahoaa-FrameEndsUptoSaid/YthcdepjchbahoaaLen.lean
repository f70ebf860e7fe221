/- The number in a frame's first four bytes, as the program and as the reference reads it: at least four bytes are asked. -/
import Derived.Test.YthcdepjchbahoaaMem
import Derived.Test.YthcdepjchbahoaaPla
import Derived.Test.YthcdepjchbahoaaProg
import Derived.Outline
import Derived.Handy
import Derived.Deep.QuietTactic
import Derived.BigQuiet
namespace Go.Proofs.Ythcdepjchbahoaa
open Go.RowKit Mem

theorem mul1 (a b : Nat) : (a * 256 + b) * 65536 = a * 16777216 + b * 65536 := by omega
theorem mul2 (a b c : Nat) : (a * 65536 + b * 256 + c) * 256 = a * 16777216 + b * 65536 + c * 256 := by omega
theorem or4 (b0 b1 b2 b3 : UInt8) : bits BinOp.or IntKind.u32 (bits BinOp.or IntKind.u32 (bits BinOp.or IntKind.u32 ((b0.toNat : Int) % 4294967296 * 16777216 % 4294967296)
      ((b1.toNat : Int) % 4294967296 * 65536 % 4294967296)) ((b2.toNat : Int) % 4294967296 * 256 % 4294967296)) ((b3.toNat : Int) % 4294967296) =
      ((b0.toNat * 16777216 + b1.toNat * 65536 + b2.toNat * 256 + b3.toNat : Nat) : Int) := by
  have h0 := b0.toNat_lt
  have h1 := b1.toNat_lt
  have h2 := b2.toNat_lt
  have h3 := b3.toNat_lt
  have e0 : (b0.toNat : Int) % 4294967296 * 16777216 % 4294967296 = ((b0.toNat * 16777216 : Nat) : Int) := by omega
  have e1 : (b1.toNat : Int) % 4294967296 * 65536 % 4294967296 = ((b1.toNat * 65536 : Nat) : Int) := by omega
  have e2 : (b2.toNat : Int) % 4294967296 * 256 % 4294967296 = ((b2.toNat * 256 : Nat) : Int) := by omega
  have e3 : (b3.toNat : Int) % 4294967296 = ((b3.toNat : Nat) : Int) := by omega
  have o1 : b0.toNat * 16777216 ||| b1.toNat * 65536 = b0.toNat * 16777216 + b1.toNat * 65536 := by
    have := Nat.shiftLeft_add_eq_or_of_lt (i := 24) (b := b1.toNat * 65536) (by omega) b0.toNat
    rw [Nat.shiftLeft_eq] at this
    exact this.symm
  have o2 : (b0.toNat * 16777216 + b1.toNat * 65536) ||| b2.toNat * 256 = b0.toNat * 16777216 + b1.toNat * 65536 + b2.toNat * 256 := by
    have := Nat.shiftLeft_add_eq_or_of_lt (i := 16) (b := b2.toNat * 256) (by omega) (b0.toNat * 256 + b1.toNat)
    simp only [Nat.shiftLeft_eq, Nat.reducePow] at this
    rw [mul1] at this
    exact this.symm
  have o3 : (b0.toNat * 16777216 + b1.toNat * 65536 + b2.toNat * 256) ||| b3.toNat = b0.toNat * 16777216 + b1.toNat * 65536 + b2.toNat * 256 + b3.toNat := by
    have := Nat.shiftLeft_add_eq_or_of_lt (i := 8) (b := b3.toNat) (by omega) (b0.toNat * 65536 + b1.toNat * 256 + b2.toNat)
    simp only [Nat.shiftLeft_eq, Nat.reducePow] at this
    rw [mul2] at this
    exact this.symm
  rw [e0, e1, e2, e3, u32_or_nat _ _ (by omega) (by omega), o1, u32_or_nat _ _ (by omega) (by omega), o2, u32_or_nat _ _ (by omega) (by omega), o3]

theorem len_at (b off n c : Nat) (b0 b1 b2 b3 : UInt8) (w : World) (h4 : 4 ≤ n)
   (h0 : w.cell? ⟨b, off, none⟩ = some (.int .u8 b0.toNat)) (h1 : w.cell? ⟨b, off + 1, none⟩ = some (.int .u8 b1.toNat)) (h2 : w.cell? ⟨b, off + 2, none⟩ = some (.int .u8 b2.toNat)) (h3 : w.cell? ⟨b, off + 3, none⟩ = some (.int .u8 b3.toNat)) :
    Calls Try.prog 18 #[.slice (some ⟨b, off, none⟩) n c] w fun e w' => e = .returned (.int .u32 ((b0.toNat * 16777216 + b1.toNat * 65536 + b2.toNat * 256 + b3.toNat : Nat) : Int)) ∧ ∃ k, w.drewN k = w' := by
  go_enter Try.func18, Try.ntmps18
  go_wp2
  go_quiet (fail)
  go_wp2
  go_ret
  exact ⟨congrArg (fun x => Ending.returned (.int .u32 x)) (or4 b0 b1 b2 b3), _, rfl⟩

/-- the first four cells -/
theorem four {w : World} {lo hi n : Nat} {A : Option Addr} {xs : List UInt8} (hr : Reads w lo hi 1 A n (xs.map B8)) (h4 : 4 ≤ n) : ∃ b off b0 b1 b2 b3, A = some ⟨b, off, none⟩ ∧ w.cell? ⟨b, off, none⟩ = some (.int .u8 (b0 : UInt8).toNat) ∧
    w.cell? ⟨b, off + 1, none⟩ = some (.int .u8 (b1 : UInt8).toNat) ∧ w.cell? ⟨b, off + 2, none⟩ = some (.int .u8 (b2 : UInt8).toNat) ∧ w.cell? ⟨b, off + 3, none⟩ = some (.int .u8 (b3 : UInt8).toNat) ∧
    nat4 xs = b0.toNat * 16777216 + b1.toNat * 65536 + b2.toNat * 256 + b3.toNat ∧ ∃ t, xs = b0 :: b1 :: b2 :: b3 :: t := by
  obtain ⟨b, off, hA, _, _, _, hc⟩ := hr.plain (by omega) (by omega)
  have hl : xs.length = n := by simpa using hr.1
  match xs, hl with
  | b0 :: b1 :: b2 :: b3 :: t, hl =>
    exact ⟨b, off, b0, b1, b2, b3, hA, hc 0 (by omega), hc 1 (by omega), hc 2 (by omega), hc 3 (by omega), rfl, t, rfl⟩
  | [], hl => simp at hl; omega
  | [_], hl => simp at hl; omega
  | [_, _], hl => simp at hl; omega
  | [_, _, _], hl => simp at hl; omega

theorem len_any (lo hi n c : Nat) (A : Option Addr) (xs : List UInt8) (w : World) (hr : Reads w lo hi 1 A n (xs.map B8)) (h4 : 4 ≤ n) :
    Calls Try.prog 18 #[.slice A n c] w fun e w' => e = .returned (.int .u32 (nat4 xs : Int)) ∧ ∃ k, w.drewN k = w' := by
  obtain ⟨b, off, b0, b1, b2, b3, rfl, h0, h1, h2, h3, hn, _⟩ := four hr h4
  rw [hn]
  exact len_at b off n c b0 b1 b2 b3 w h4 h0 h1 h2 h3

end Go.Proofs.Ythcdepjchbahoaa
