/- Unpin of an epoch's keeper; numbers far below 2^63 are asked. -/
import Derived.Test.YtajeifeigjggoaaPin
namespace Go.Proofs.Ytajeifeigjggoaa
open Go.RowKit Go.Maps Mem
set_option linter.unusedVariables false

theorem unpin_bad {g b B now : Nat} {p : List Nat} {q : List (Int × Nat)} {V : Value} (t : Int) (w : World) (h : Ep w g b B now p q V) (ht : t < 1 ∨ (p.length : Int) < t) :
    Calls Try.prog 12 #[.pointer (some ⟨g, 0, none⟩), .int .i64 t] w fun e w' => e = .returned (.int .i64 23) ∧ w = w' := by
  obtain ⟨QA, qc, D, rfl, hg, hm, hp, hq⟩ := h
  have h1 : w.cell? ⟨g, 1, none⟩ = some (.int .i64 (p.length : Int)) := by rw [hg.cell]; rfl
  by_cases hc : t < 1
  · have e1 : (decide (t < 1)) = true := by simp [hc]
    go_enter Try.func12, Try.ntmps12
    go_wp2
    all_goals first | omega | skip
    go_ret
    exact ⟨rfl, rfl⟩
  · have hd : (p.length : Int) < t := by omega
    go_enter Try.func12, Try.ntmps12
    go_wp2
    all_goals first | omega | skip
    go_ret
    exact ⟨rfl, rfl⟩

theorem unpin_gone {g b B now : Nat} {p : List Nat} {q : List (Int × Nat)} {V : Value} (t : Nat) (w : World) (h : Ep w g b B now p q V) (ht : 1 ≤ t) (ht2 : t ≤ p.length) (hz : look p t = none) (hp0 : p.length ≤ 4294967296) :
    Calls Try.prog 12 #[.pointer (some ⟨g, 0, none⟩), .int .i64 (t : Int)] w fun e w' => e = .returned (.int .i64 24) ∧ w = w' := by
  obtain ⟨QA, qc, D, rfl, hg, hm, hp, hq⟩ := h
  have h1 : w.cell? ⟨g, 1, none⟩ = some (.int .i64 (p.length : Int)) := by rw [hg.cell]; rfl
  have h2 : w.cell? ⟨g, 2, none⟩ = some (.map (some b)) := by rw [hg.cell]; rfl
  have hkey : keyOf Try.prog 2 (.int .i64 (t : Int)) = some (.int .i64 (t : Int)) := keyOf_int_mk Try.underlying2 (wf64 (by omega) (by omega))
  have hh : Maps.has D (.int .i64 (t : Int)) = false := by rw [hp.has_, hz]; rfl
  go_enter Try.func12, Try.ntmps12
  go_wp2_with (first | (at_lookup; refine wpList_lookup_own_ok_int _ rfl _ _ 51 rfl 2 2 .i64 key2 Try.underlying51 Try.underlying2 (zero2 _) b _ D rfl hm _ _ rfl hkey ?_; intro c hc hwf; rw [hh]) | go_in)
  all_goals first | omega | skip
  go_ret
  exact ⟨rfl, rfl⟩

theorem unpin_ok {g b B now : Nat} {p : List Nat} {q : List (Int × Nat)} {V : Value} (t v : Nat) (w : World) (h : Ep w g b B now p q V) (ht : 1 ≤ t) (ht2 : t ≤ p.length) (hz : look p t = some v) (hp0 : p.length ≤ 4294967296) :
    Calls Try.prog 12 #[.pointer (some ⟨g, 0, none⟩), .int .i64 (t : Int)] w fun e w' => e = .returned (.int .i64 0) ∧ Ep w' g b B now (p.set (t - 1) 0) q V ∧ Only (fun k => k = g ∨ k = b) w w' := by
  obtain ⟨QA, qc, D, rfl, hg, hm, hp, hq⟩ := h
  have hgb := map_blk_ne hm hg
  have hqb := own_map_ne hm hq
  have h1 : w.cell? ⟨g, 1, none⟩ = some (.int .i64 (p.length : Int)) := by rw [hg.cell]; rfl
  have h2 : w.cell? ⟨g, 2, none⟩ = some (.map (some b)) := by rw [hg.cell]; rfl
  have hkey : keyOf Try.prog 2 (.int .i64 (t : Int)) = some (.int .i64 (t : Int)) := keyOf_int_mk Try.underlying2 (wf64 (by omega) (by omega))
  have hh : Maps.has D (.int .i64 (t : Int)) = true := by rw [hp.has_, hz]; rfl
  go_enter Try.func12, Try.ntmps12
  go_wp2_with (first | (at_lookup; refine wpList_lookup_own_ok_int _ rfl _ _ 51 rfl 2 2 .i64 key2 Try.underlying51 Try.underlying2 (zero2 _) b _ D rfl hm _ _ rfl hkey ?_; intro c hc hwf; rw [hh]) | (at_delete; refine wpList_delete_own _ rfl _ _ 51 2 rfl 2 key2 Try.underlying51 _ b _ D rfl hm _ _ rfl hkey ?_; intro w1 hown1 hturn1) | go_in)
  all_goals first | omega | skip
  have hg2 := hturn1.grown
  have O2 := (Only.refl (fun k => k = g ∨ k = b) w).grown hg2 (fun k hk => .inl (.inr (by cases hk; rfl)))
  have G2 := hg.grown hg2 (fun e => hgb (by cases e; rfl))
  have Q2 := own_grown hq hg2 (fun k hk e => hqb k hk (by cases e; rfl))
  go_ret
  refine ⟨rfl, ⟨QA, qc, _, rfl, ?_, ?_, pin_del hp ht ht2, Q2⟩, O2⟩
  · simpa using G2
  · simpa using hown1
end Go.Proofs.Ytajeifeigjggoaa
