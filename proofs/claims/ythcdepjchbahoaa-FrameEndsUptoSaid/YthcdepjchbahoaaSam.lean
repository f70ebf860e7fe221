/- Two slices of byte slices, one by one: as the reference's Same compares them; any slices. -/
import Derived.Test.YthcdepjchbahoaaSma
namespace Go.Proofs.Ythcdepjchbahoaa
open Go.RowKit Mem
set_option linter.unusedVariables false

theorem str_eq (xs ys : List UInt8) : ((⟨xs.toArray⟩ : ByteArray) = ⟨ys.toArray⟩) ↔ xs = ys := by simp

set_option maxHeartbeats 400000 in
theorem same_any (lo hi l1 h1 l2 h2 n1 c1 n2 c2 : Nat) (A1 A2 : Option Addr) (vs1 vs2 : List Value) (xs1 xs2 : List (List UInt8)) (w : World) (hr1 : Reads w l1 h1 1 A1 n1 vs1) (hr2 : Reads w l2 h2 1 A2 n2 vs2)
    (hx1 : Rows2 w lo hi vs1 xs1) (hx2 : Rows2 w lo hi vs2 xs2) (hn1 : n1 ≤ 4294967296) (hn2 : n2 ≤ 4294967296) :
    Calls Try.prog 14 #[.slice A1 n1 c1, .slice A2 n2 c2] w fun e w' => e = .returned (.bool (decide (xs1 = xs2))) ∧ ∃ q, w.drewN q = w' := by
  have hl1 : vs1.length = n1 := by simpa using hr1.1
  have hl2 : vs2.length = n2 := by simpa using hr2.1
  have hy1 := hx1.length
  have hy2 := hx2.length
  by_cases hne : n1 = n2
  · subst hne
    have HL := hide (And.intro hl1 (And.intro hl2 (And.intro hy1 hy2)))
    clear hl1 hl2 hy1 hy2
    go_enter Try.func14, Try.ntmps14
    go_wp2_with fail
    go_loopw [5] (fun i wr => ∃ k q : Nat, k ≤ n1 ∧ i = .int .i64 k ∧ wr = w.drewN q ∧ Hid (xs1.take k = xs2.take k)) (fun i _ => n1 - (intOf i).toNat)
    case atStart => exact ⟨0, 0, Nat.zero_le _, rfl, rfl, rfl⟩
    case round =>
      obtain ⟨k, q, hk, rfl, rfl, hS⟩ := hrel
      by_cases hlt : k < n1
      · obtain ⟨e1, e2, e3, e4⟩ := HL.out
        obtain ⟨B1, m1, d1, x1, g1, g2, _, g3⟩ := hx1.at_ (k := k) (by omega)
        obtain ⟨B2, m2, d2, x2, g4, g5, _, g6⟩ := hx2.at_ (k := k) (by omega)
        obtain ⟨b1, o1, rfl, _, _, _, hc1⟩ := hr1.plain (by omega) (by omega)
        obtain ⟨b2, o2, rfl, _, _, _, hc2⟩ := hr2.plain (by omega) (by omega)
        have f1 : w.cell? ⟨b1, o1 + k, none⟩ = some (.slice B1 m1 d1) := by rw [hc1 k (by omega), g1]
        have f2 : w.cell? ⟨b2, o2 + k, none⟩ = some (.slice B2 m2 d2) := by rw [hc2 k (by omega), g4]
        have s1 : ∀ j, (convert 22 9 (.slice B1 m1 d1)).run Try.prog (w.drewN j) = .ok (.string ⟨x1.toArray⟩) (w.drewN j) := fun j => (g3.drewN j).str 22 9 5 Try.underlying22 Try.underlying5 Try.underlying9 d1
        have s2 : ∀ j, (convert 22 9 (.slice B2 m2 d2)).run Try.prog (w.drewN j) = .ok (.string ⟨x2.toArray⟩) (w.drewN j) := fun j => (g6.drewN j).str 22 9 5 Try.underlying22 Try.underlying5 Try.underlying9 d2
        have G := hide (And.intro g2 g5)
        clear g1 g2 g4 g5 hc1 hc2 e1 e2 e3 e4 g3 g6 hx1 hx2 hr1 hr2
        by_cases hxe : x1 = x2
        · subst hxe
          go_wp2
          go_quiet (fail)
          go_wp2
          go_roundw
          case rel =>
            obtain ⟨g2, g5⟩ := G.out
            refine ⟨k + 1, q + nq, by omega, by go_num, rfl, ?_⟩
            show xs1.take (k + 1) = xs2.take (k + 1)
            rw [List.take_add_one, List.take_add_one, hS.out, g2, g5]
          case measure => simp [intOf]; omega
        · have hxb : (x1 == x2) = false := by simpa using hxe
          go_wp2
          go_quiet (fail)
          go_wp2
          go_ret
          obtain ⟨g2, g5⟩ := G.out
          have hd : decide (xs1 = xs2) = false := by
            simp only [decide_eq_false_iff_not]
            rintro rfl
            rw [g2] at g5
            exact hxe (Option.some.inj g5)
          rw [hd]
          exact ⟨rfl, q + nq, by rw [World.drewN_drewN]⟩
      · obtain ⟨e1, e2, e3, e4⟩ := HL.out
        have hS' := hS.out
        rw [List.take_of_length_le (by omega), List.take_of_length_le (by omega)] at hS'
        have hd : decide (xs1 = xs2) = true := by simp [hS']
        have HD := hide hd
        clear e1 e2 e3 e4 hd hS'
        go_wp2
        go_ret
        rw [HD.out]
        exact ⟨rfl, q, rfl⟩
  · have hd : decide (xs1 = xs2) = false := by
      simp only [decide_eq_false_iff_not]
      rintro rfl
      omega
    rw [hd]
    have hb : ((n1 : Int) == (n2 : Int)) = false := by simp; omega
    clear hl1 hl2 hy1 hy2 hd
    go_enter Try.func14, Try.ntmps14
    go_wp2
    go_ret
    exact ⟨rfl, 0, rfl⟩

end Go.Proofs.Ythcdepjchbahoaa
