/- The reference's Pin. -/
import Derived.Test.YtajeifeigjggoaaRu
import Derived.Test.YtajeifeigjggoaaLaw3
namespace Go.Proofs.Ytajeifeigjggoaa
open Go.RowKit Go.Maps Mem
set_option linter.unusedVariables false

theorem own_lt {w : World} {base e size n : Nat} {v : Value} {xs : List Value} (h : w.ownsRow base e size v n xs) {k : Nat} (hk : v.ownBlock = some k) : k < w.heap.size := by
  rcases h.2 with ⟨rfl, _⟩ | ⟨g, cap, cur, rfl, _, hh, _⟩
  · cases hk
  · cases hk
    exact (Array.getElem?_eq_some_iff.1 hh).1

theorem refpin_full {w : World} {B r now d : Nat} {p : List Nat} {its : List (Int × Nat)} (h : Rf w B r now p its d) (hn : p.length ≤ 4294967296) (hc : 64 ≤ cnt p) :
    Calls Try.prog 19 #[.pointer (some ⟨r, 0, none⟩)] w fun e w' => e = .returned (.tuple #[.int .i64 0, .int .i64 8]) ∧ w = w' := by
  go_enter Try.func19, Try.ntmps19
  go_wp2_with fail
  refine (refpinned_any h hn).mono ?_
  rintro e w' ⟨rfl, rfl⟩
  go_wp2
  go_ret2
  exact ⟨rfl, rfl⟩

theorem refpin_ok {w : World} {B r now d : Nat} {p : List Nat} {its : List (Int × Nat)} (h : Rf w B r now p its d) (hn : p.length ≤ 4294967) (hc : cnt p < 64) :
    Calls Try.prog 19 #[.pointer (some ⟨r, 0, none⟩)] w fun e w' => e = .returned (.tuple #[.int .i64 ((p.length : Int) + 1), .int .i64 0]) ∧ Rf w' B r now (p ++ [now]) its d ∧ Fr IT w w' ∧ Below B w w' := by
  have hpin := refpinned_any h (by omega)
  obtain ⟨P1, c1, I2, c2, N3, c3, G4, c4, hb, h1, h2, h3, h4, n1, n2, hd, hr0, hB⟩ := h
  have f1 : w.cell? ⟨r, 1, none⟩ = some (.slice P1 p.length c1) := by rw [hb.cell]; rfl
  have f0 : w.cell? ⟨r, 0, none⟩ = some (.int .i64 (now : Int)) := by rw [hb.cell]; rfl
  have fa : (w.alloc (Obj.cells #[Value.int .i64 (now : Int)] 2)).drew.cell? ⟨r, 1, none⟩ = some (.slice P1 p.length c1) := by
    have := (hb.alloc (Obj.cells #[Value.int .i64 (now : Int)] 2)).drew.cell 1
    rw [this]
    rfl
  have fb : (w.alloc (Obj.cells #[Value.int .i64 (now : Int)] 2)).cell? ⟨r, 1, none⟩ = some (.slice P1 p.length c1) := by
    rw [(hb.alloc (Obj.cells #[Value.int .i64 (now : Int)] 2)).cell]
    rfl
  have hys : nums p ++ [.int .i64 (now : Int)] = nums (p ++ [now]) := by simp [nums]
  go_enter Try.func19, Try.ntmps19
  go_wp2_with fail
  refine hpin.mono ?_
  rintro e w' ⟨rfl, rfl⟩
  go_wp2
  go_region_law (refine step_app el33 (.tmp 11) (.tmp 16) (own_drewN (h1.alloc (.cells #[.int .i64 (now : Int)] 2)) 1) (lo := w.heap.size) (hh := w.heap.size + 1) (A := some ⟨w.heap.size, 0, none⟩) (m := 1) (c := 1) (Reads.lit w.drew #[.int .i64 (now : Int)] 2 1 1 rfl) (fun u hu => by rcases List.mem_cons.1 hu with rfl | hu; rfl; cases hu) rfl hys (by unfold maxLen; omega) (by omega) (by simp; omega) rfl rfl rfl rfl ?_; intro A' c' w' hown hgr hb'; have G2 := (hb.drew.alloc _).grown hgr (fun e => own_far h1 hb (by decide) r e.symm rfl); have f3 := G2.frozen 1; have c3' : w'.cell? ⟨r, 1, none⟩ = some (.slice P1 p.length c1) := (by rw [G2.cell]; rfl))
  all_goals
    have G3 := G2.set_ 1 (.slice A' (p.length + 1) c')
    have F1 : Fr IT w w' := fr_grown (((Fr.refl IT w).alloc (.cells #[.int .i64 (now : Int)] 2)).drewN 1) (own_drewN (h1.alloc _) 1) hgr (fun cs fr => ⟨_, _, _, rfl, .inl rfl⟩)
    have q2 := own_grown (own_drewN (h2.alloc (.cells #[.int .i64 (now : Int)] 2)) 1) hgr (fun k hk e => (n1 k e).1 hk)
    have q3 := own_grown (own_drewN (h3.alloc (.cells #[.int .i64 (now : Int)] 2)) 1) hgr (fun k hk e => (n1 k e).2 hk)
    have q4 := own_grown (own_drewN (h4.alloc (.cells #[.int .i64 (now : Int)] 2)) 1) hgr (fun k hk e => own_own_ne h4 h1 (by decide) k hk e)
    have hn' : ∀ k, (Value.slice A' (p.length + 1) c').ownBlock = some k → (Value.slice P1 p.length c1).ownBlock = some k ∨ w.heap.size ≤ k := by
      intro k hk
      rcases hb' with e | e
      · exact .inl (e ▸ hk)
      · rw [e] at hk
        cases hk
        exact .inr (by simp)
    have k1 : (w'.setCell ⟨r, 1, none⟩ (.slice A' (p.length + 1) c')).cell? ⟨r, 1, none⟩ = some (.slice A' (p.length + 1) c') := by rw [G3.cell]; rfl
    have Os := (Only.refl (fun k => k = r) w').setCell (p := ⟨r, 1, none⟩) (.inl rfl) (.slice A' (p.length + 1) c')
    have t1 := own_only hown Os (own_far hown G2 (by decide))
    have t2 := own_only q2 Os (own_far q2 G2 (by decide))
    have t3 := own_only q3 Os (own_far q3 G2 (by decide))
    have t4 := own_only q4 Os (own_far q4 G2 (by decide))
    rename_i K hK
    refine hK _ _ ?_
    generalize w'.setCell ⟨r, 1, none⟩ (.slice A' (p.length + 1) c') = W2 at G3 k1 Os t1 t2 t3 t4 ⊢
    go_wp2
    go_ret2
    have F2 : Fr IT w W2 := F1.trans (.ofOnly Os (fun k hk => ⟨_, by subst hk; exact G2, _, _, _, rfl, .inr (.inr rfl)⟩))
    have l2 : ∀ k, (Value.slice A' (p.length + 1) c').ownBlock = some k → ¬ (Value.slice I2 its.length c2).ownBlock = some k ∧ ¬ (Value.slice N3 its.length c3).ownBlock = some k := by
      intro k hk
      rcases hn' k hk with e | e
      · exact n1 k e
      · exact ⟨fun e2 => by have := own_lt h2 e2; omega, fun e2 => by have := own_lt h3 e2; omega⟩
    have Bl : Below B w W2 := ⟨F2.os, F2.tape, F2.output, F2.size, fun k hk => by
      have a1 : W2.heap[k]? = w'.heap[k]? := Os.block k (by have := F1.size; omega) (by omega)
      have a2 := hgr.block k (by simp; omega) (fun e => by have := own_lo h1 e.symm; omega)
      have a3 : (w.alloc (Obj.cells #[Value.int .i64 (now : Int)] 2)).drew.heap[k]? = w.heap[k]? := Below.heap_alloc w _ k (by omega)
      rw [a1, a2, a3]⟩
    refine ⟨by simp, ⟨A', c', I2, c2, N3, c3, G4, c4, ?_, ?_, t2, t3, t4, ?_, n2, hd, hr0, Nat.le_trans hB F2.size⟩, F2, Bl⟩
    · simpa using G3
    · simpa using t1
    · simpa using l2
end Go.Proofs.Ytajeifeigjggoaa
