/- A handle's slot. -/
import Derived.Test.YtnfaaaehpfddgaaPu
namespace Go.Proofs.Ytnfaaaehpfddgaa
open Go.RowKit Mem
set_option linter.unusedVariables false

/-- what is wrong with a handle -/
def fnd (sl : List S3) (s g : Int) : Int :=
  if s < 0 then 23 else match sl[s.toNat]? with
  | none => 23
  | some x => if g < 1 ∨ (x.1 : Int) < g then 23 else if x.2.2 = false ∨ (x.1 : Int) ≠ g then 24 else 0

def ptrOf (b : Nat) (sl : List S3) (s g : Int) : Value := if fnd sl s g = 0 then .pointer (some ⟨b, s.toNat * 3, none⟩) else .pointer none

set_option maxHeartbeats 800000 in
set_option maxRecDepth 100000 in
/-- find: V is the row of slots -/
theorem find_any {w : World} {B g b c live n : Nat} {most : Int} {sl : List S3} {A : Option Addr} {v : Value} {fr : List Nat} (s h : Int) (hV : SlV w B g most sl live (.slice A n c) v fr) (hA : 0 < sl.length → A = some ⟨b, 0, none⟩) (hn : sl.length ≤ 4294967296) :
    Calls Try.prog 25 #[.pointer (some ⟨g, 0, none⟩), .agg #[.int .i64 s, .int .i64 h]] w fun e w' => e = .returned (.tuple #[ptrOf b sl s h, .int .i64 (fnd sl s h)]) ∧ Only (fun _ => False) w w' := by
  obtain ⟨_, _, e1, _, hrd⟩ := own_form hV.own
  cases e1
  have ha := slv_alloc hV (.cells #[.int .i64 s, .int .i64 h] 29)
  have f1 : (w.alloc (.cells #[.int .i64 s, .int .i64 h] 29)).cell? ⟨g, 1, none⟩ = some (.slice A sl.length c) := by rw [ha.fre.blk.cell]; rfl
  have hb := Blk.new w 29 #[.int .i64 s, .int .i64 h]
  have r0 : (w.alloc (.cells #[.int .i64 s, .int .i64 h] 29)).cell? ⟨w.heap.size, 0, none⟩ = some (.int .i64 s) := by rw [hb.cell]; rfl
  have r1 : (w.alloc (.cells #[.int .i64 s, .int .i64 h] 29)).cell? ⟨w.heap.size, 1, none⟩ = some (.int .i64 h) := by rw [hb.cell]; rfl
  have HO : Hid (Only (fun _ => False) w (w.alloc (.cells #[.int .i64 s, .int .i64 h] 29))) := (Only.refl (fun _ => False) w).alloc _
  have hoV := ha.own
  clear ha hb hV hrd
  by_cases h1 : s < 0
  · have e1 : fnd sl s h = 23 := by unfold fnd; rw [if_pos h1]
    unfold ptrOf
    rw [e1]
    clear hoV
    go_enter Try.func25, Try.ntmps25
    go_wp2
    go_quiet (fail)
    go_wp2
    go_ret2
    exact ⟨rfl, HO.out.drewN _⟩
  · obtain ⟨k, rfl⟩ : ∃ k : Nat, s = k := ⟨s.toNat, by omega⟩
    by_cases h2 : sl.length ≤ k
    · have e1 : fnd sl k h = 23 := by unfold fnd; rw [if_neg h1, Int.toNat_natCast, List.getElem?_eq_none h2]
      unfold ptrOf
      rw [e1]
      have d1 : decide ((k : Int) < 0) = false := decide_eq_false h1
      have d2 : decide ((sl.length : Int) ≤ (k : Int)) = true := decide_eq_true (by omega)
      clear hoV e1
      go_enter Try.func25, Try.ntmps25
      go_wp2
      go_quiet (fail)
      go_wp2
      go_ret2
      exact ⟨rfl, HO.out.drewN _⟩
    · obtain rfl := hA (by omega)
      have hs : sl[k]? = some (sl[k]'(by omega)) := List.getElem?_eq_getElem (by omega)
      generalize sl[k]'(by omega) = x at hs
      obtain ⟨z0, z1, z2⟩ := x
      have c0 := own_at hoV (scells_at hs).1
      have c2 := own_at hoV (scells_at hs).2.2
      dsimp only at c0 c2
      clear hoV
      have e0 : fnd sl k h = if h < 1 ∨ (z0 : Int) < h then 23 else if z2 = false ∨ (z0 : Int) ≠ h then 24 else 0 := by
        unfold fnd
        rw [if_neg h1, Int.toNat_natCast, hs]
      unfold ptrOf
      rw [Int.toNat_natCast]
      have d1 : decide ((k : Int) < 0) = false := decide_eq_false h1
      have d2 : decide ((sl.length : Int) ≤ (k : Int)) = false := decide_eq_false (by omega)
      clear hs
      by_cases h3 : h < 1
      · rw [if_pos (.inl h3)] at e0
        rw [e0]
        clear e0
        have d3 : decide (h < 1) = true := decide_eq_true h3
        go_enter Try.func25, Try.ntmps25
        go_wp2
        go_quiet (fail)
        go_wp2
        go_ret2
        exact ⟨rfl, HO.out.drewN _⟩
      · have d3 : decide (h < 1) = false := decide_eq_false h3
        by_cases h4 : (z0 : Int) < h
        · have d4 : decide ((z0 : Int) < h) = true := decide_eq_true h4
          rw [if_pos (.inr h4)] at e0
          rw [e0]
          clear e0
          go_enter Try.func25, Try.ntmps25
          go_wp2
          go_quiet (fail)
          go_wp2
          go_ret2
          exact ⟨rfl, HO.out.drewN _⟩
        · have d4 : decide ((z0 : Int) < h) = false := decide_eq_false h4
          rw [if_neg (by omega)] at e0
          cases z2 with
          | false =>
            rw [if_pos (.inl rfl)] at e0
            rw [e0]
            clear e0
            go_enter Try.func25, Try.ntmps25
            go_wp2
            go_quiet (fail)
            go_wp2
            go_quiet (fail)
            go_wp2
            go_quiet (fail)
            go_wp2
            go_ret2
            exact ⟨rfl, HO.out.drewN _⟩
          | true =>
            by_cases h5 : (z0 : Int) = h
            · rw [if_neg (by simp [h5])] at e0
              rw [e0]
              clear e0
              go_enter Try.func25, Try.ntmps25
              go_wp2
              go_quiet (fail)
              go_wp2
              go_quiet (fail)
              go_wp2
              go_quiet (fail)
              go_wp2
              go_ret2
              exact ⟨rfl, HO.out.drewN _⟩
            · rw [if_pos (.inr h5)] at e0
              rw [e0]
              clear e0
              go_enter Try.func25, Try.ntmps25
              go_wp2
              go_quiet (fail)
              go_wp2
              go_quiet (fail)
              go_wp2
              go_quiet (fail)
              go_wp2
              go_ret2
              exact ⟨rfl, HO.out.drewN _⟩
end Go.Proofs.Ytnfaaaehpfddgaa
