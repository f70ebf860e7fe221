/- Pin, Unpin and Retire of an epoch's keeper; numbers far below 2^63 are asked. -/
import Derived.Test.YtajeifeigjggoaaEp
namespace Go.Proofs.Ytajeifeigjggoaa
open Go.RowKit Go.Maps Mem
set_option linter.unusedVariables false

theorem pin_full {g b B now : Nat} {p : List Nat} {q : List (Int × Nat)} {V : Value} (w : World) (h : Ep w g b B now p q V) (hc : 64 ≤ cnt p) :
    Calls Try.prog 9 #[.pointer (some ⟨g, 0, none⟩)] w fun e w' => e = .returned (.tuple #[.int .i64 0, .int .i64 8]) ∧ w = w' := by
  obtain ⟨QA, qc, D, rfl, hg, hm, hp, hq⟩ := h
  have h0 : w.cell? ⟨g, 2, none⟩ = some (.map (some b)) := by rw [hg.cell]; rfl
  have hl := fun ty => hm.len (t := 51) (e := 2) Try.underlying51 ty
  rw [hp.size_] at hl
  go_enter Try.func9, Try.ntmps9
  go_wp2
  go_ret2
  exact ⟨rfl, rfl⟩

theorem wf64 {z : Int} (h1 : -9223372036854775808 ≤ z) (h2 : z < 9223372036854775808) : (Lit.int .i64 z).wf = true := WalkArith.wf_i64 ⟨h1, by omega⟩
theorem map_lt {w : World} {b n : Nat} {D : DataW Unit} {R} (h : w.ownsMap Try.prog 2 R b n D) : b < w.heap.size := by
  obtain ⟨es, cl, hb, _⟩ := h
  exact (Array.getElem?_eq_some_iff.1 hb).1
theorem map_blk_ne {w : World} {b n g : Nat} {D : DataW Unit} {R} {t : TypeId} {cs : Array Value} (h : w.ownsMap Try.prog 2 R b n D) (hg : Blk w g t cs) : b ≠ g := by
  rintro rfl
  obtain ⟨es, cl, hb, _⟩ := h
  unfold Blk at hg
  rw [hb] at hg
  cases hg
theorem own_map_ne {w : World} {b n : Nat} {D : DataW Unit} {R} {B e size m : Nat} {v : Value} {xs : List Value} (h : w.ownsMap Try.prog 2 R b n D) (hq : w.ownsRow B e size v m xs) : ∀ k, v.ownBlock = some k → k ≠ b := by
  intro k hk hkb
  subst hkb
  obtain ⟨es, cl, hb, _⟩ := h
  rcases hq.2 with ⟨rfl, _⟩ | ⟨g', cap, cur, rfl, _, hh, _⟩
  · cases hk
  · cases hk
    rw [hb] at hh
    cases hh
theorem own_far {w : World} {B e size m t : Nat} {v : Value} {xs : List Value} {g : Nat} {cs : Array Value} (hq : w.ownsRow B e size v m xs) (hg : Blk w g t cs) (hne : e ≠ t) : ∀ k, v.ownBlock = some k → k ≠ g :=
  fun k hk e' => own_blk_ne hq hg hne (e' ▸ hk)

theorem pin_ok {g b B now : Nat} {p : List Nat} {q : List (Int × Nat)} {V : Value} (w : World) (h : Ep w g b B now p q V) (hc : cnt p < 64) (hp0 : p.length ≤ 4294967296) (hn : now ≤ 4294967296) (hn1 : 1 ≤ now) :
    Calls Try.prog 9 #[.pointer (some ⟨g, 0, none⟩)] w fun e w' => e = .returned (.tuple #[.int .i64 ((p.length : Int) + 1), .int .i64 0]) ∧ Ep w' g b B now (p ++ [now]) q V ∧ Only (fun k => k = g ∨ k = b) w w' := by
  obtain ⟨QA, qc, D, rfl, hg, hm, hp, hq⟩ := h
  have h0 : w.cell? ⟨g, 2, none⟩ = some (.map (some b)) := by rw [hg.cell]; rfl
  have h1 : w.cell? ⟨g, 1, none⟩ = some (.int .i64 (p.length : Int)) := by rw [hg.cell]; rfl
  have h2 : w.cell? ⟨g, 0, none⟩ = some (.int .i64 (now : Int)) := by rw [hg.cell]; rfl
  have h3 := hg.frozen 1
  have hl := fun ty => hm.len (t := 51) (e := 2) Try.underlying51 ty
  rw [hp.size_] at hl
  go_enter Try.func9, Try.ntmps9
  go_wp2
  have hgb := map_blk_ne hm hg
  have hqb := own_map_ne hm hq
  have hqg := own_far hq hg (by decide)
  have G1 := hg.set_ 1 (.int .i64 ((p.length : Int) + 1))
  have M1 := hm.setCell (a := ⟨g, 1, none⟩) hgb (.int .i64 ((p.length : Int) + 1))
  have O1 := (Only.refl (fun k => k = g ∨ k = b) w).setCell (p := ⟨g, 1, none⟩) (.inl (.inl rfl)) (.int .i64 ((p.length : Int) + 1))
  generalize hW : w.setCell _ _ = W1
  rw [hW] at G1 M1 O1
  have Q1 := own_only hq O1 (fun k hk e => by rcases e with e | e; exact hqg k hk e; exact hqb k hk e)
  have c0 : W1.cell? ⟨g, 0, none⟩ = some (.int .i64 (now : Int)) := by rw [G1.cell]; rfl
  have c1 : W1.cell? ⟨g, 1, none⟩ = some (.int .i64 ((p.length : Int) + 1)) := by rw [G1.cell]; rfl
  have c2 : W1.cell? ⟨g, 2, none⟩ = some (.map (some b)) := by rw [G1.cell]; rfl
  have hkey : keyOf Try.prog 2 (.int .i64 ((p.length : Int) + 1)) = some (.int .i64 ((p.length : Int) + 1)) := keyOf_int_mk Try.underlying2 (wf64 (by omega) (by omega))
  go_still_tail 12, (by kernel_rfl)
  refine wpList_mapUpdate_own _ rfl _ _ _ 51 rfl 2 2 key2 Try.underlying51 _ b _ _ rfl M1 (by unfold maxLen; omega) _ _ _ rfl rfl hkey _ [] (plainElem_int Try.underlying2 (wf64 (by omega) (by omega))) ?_
  intro w2 hown2 hg2
  have O2 := O1.drew.grown hg2 (fun k hk => .inl (.inr (by cases hk; rfl)))
  have G2 := G1.drew.grown hg2 (fun e => hgb (by cases e; rfl))
  have Q2 := own_grown (own_drewN Q1 1) hg2 (fun k hk e => hqb k hk (by cases e; rfl))
  have d1 : w2.cell? ⟨g, 1, none⟩ = some (.int .i64 ((p.length : Int) + 1)) := by rw [G2.cell]; rfl
  refine wpList_nil ?_
  rename_i K hK
  refine hK _ _ ?_
  go_wp2
  go_ret2
  refine ⟨rfl, ⟨QA, qc, _, rfl, ?_, ?_, pin_put hp hn1 (key2.key hkey), Q2⟩, O2⟩
  · simpa using G2
  · simpa using hown2

end Go.Proofs.Ytajeifeigjggoaa
