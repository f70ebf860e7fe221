/- The reference's Waiting and Unpin. -/
import Derived.Test.YtajeifeigjggoaaRf
namespace Go.Proofs.Ytajeifeigjggoaa
open Go.RowKit Go.Maps Mem
set_option linter.unusedVariables false

theorem gone_at {d n k : Nat} (hd : d ≤ n) (hk : k < n) : (goneRow d n)[k]? = some (.bool (decide (k < d))) := by
  unfold goneRow
  by_cases h : k < d
  · rw [List.getElem?_append_left (by simpa using h)]
    simp [h]
  · rw [List.getElem?_append_right (by simpa using h)]
    simp [h, show k - d < n - d by omega]

theorem refwaiting_any {w : World} {B r now d : Nat} {p : List Nat} {its : List (Int × Nat)} (h : Rf w B r now p its d) (hn : its.length ≤ 4294967296) :
    Calls Try.prog 24 #[.pointer (some ⟨r, 0, none⟩)] w fun e w' => e = .returned (.int .i64 ((its.length - d : Nat) : Int)) ∧ w = w' := by
  obtain ⟨P1, c1, I2, c2, N3, c3, G4, c4, hb, _, _, _, h4, _, _, hd, _⟩ := h
  have f1 : w.cell? ⟨r, 4, none⟩ = some (.slice G4 its.length c4) := by rw [hb.cell]; rfl
  obtain ⟨_, _, e1, _, hr⟩ := own_form h4
  cases e1
  generalize its.length = n at *
  go_enter Try.func24, Try.ntmps24
  go_wp2
  go_loopw [3, 4] (fun s i wr => ∃ k, k ≤ n ∧ i = .int .i64 (k : Nat) ∧ s = .int .i64 ((k - d : Nat) : Int) ∧ wr = w) (fun _ i _ => n - (intOf i).toNat)
  case atStart => exact ⟨0, Nat.zero_le _, rfl, by simp, rfl⟩
  case round =>
    obtain ⟨k, hk, rfl, rfl, rfl⟩ := hrel
    by_cases hlt : k < n
    · obtain ⟨b, o, rfl, _, _, _, hc⟩ := hr.plain (by omega) (by omega)
      have f2 : wr.cell? ⟨b, o + k, none⟩ = some (.bool (decide (k < d))) := by rw [hc k (by omega), gone_at hd hlt]
      clear hc hr
      by_cases hy : k < d
      · rw [show decide (k < d) = true by simpa using hy] at f2
        go_wp2
        go_roundw
        case rel => exact ⟨k + 1, by omega, by go_num, by rw [show k - d = 0 by omega, show k + 1 - d = 0 by omega], trivial⟩
        case measure => simp [intOf]; omega
      · rw [show decide (k < d) = false by simpa using hy] at f2
        go_wp2
        go_roundw
        case rel => exact ⟨k + 1, by omega, by go_num, by rw [show k + 1 - d = (k - d) + 1 by omega]; go_num, trivial⟩
        case measure => simp [intOf]; omega
    · have e : k = n := by omega
      subst e
      go_wp2
      go_ret
      exact ⟨rfl, rfl⟩
end Go.Proofs.Ytajeifeigjggoaa
