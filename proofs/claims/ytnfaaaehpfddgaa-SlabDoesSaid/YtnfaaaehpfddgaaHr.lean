/- The free slots' heap: Push and Pop of container/heap. -/
import Derived.Test.YtnfaaaehpfddgaaHq
namespace Go.Proofs.Ytnfaaaehpfddgaa
open Go.RowKit Mem
set_option linter.unusedVariables false

theorem own_cut {w : World} {B e g n m c : Nat} {xs : List Value} (h : w.ownsRow B e 1 (.slice (some ⟨g, 0, none⟩) n c) n xs) (hm : m ≤ n) : w.ownsRow B e 1 (.slice (some ⟨g, 0, none⟩) m c) m (xs.take m) := by
  obtain ⟨h0, h1⟩ := h
  rcases h1 with ⟨e1, _⟩ | ⟨g', cap, cur, e1, hb, hh, hc, hl, hs, ht⟩
  · cases e1
  · cases e1
    refine ⟨by rw [List.length_take]; omega, .inr ⟨_, _, cur, rfl, hb, hh, by omega, hl, hs, ?_⟩⟩
    rw [← ht, List.take_take]
    congr 1
    omega

theorem mpop_any {w : World} {B gs g c n : Nat} {cs : Array Value} {xs : List Nat} (h : HpM w B gs g c (n + 1) cs xs) (hn : n ≤ 4294967296) :
    Calls Try.prog 50 #[.pointer (some ⟨gs, 2, none⟩)] w fun e w' => e = .returned (.iface 3 (.int .i64 (at_ xs n : Int))) ∧ HpM w' B gs g c n (cs.setIfInBounds 2 (.slice (some ⟨g, 0, none⟩) n c)) (xs.take n) ∧ Only (fun k => k = gs) w w' := by
  have hl := h.len
  have f2 := h.cell
  have p2 : w.frozen? ⟨gs, 2, none⟩ = false := h.blk.frozen 2
  have fx : w.cell? ⟨g, n, none⟩ = some (.int .i64 (at_ xs n : Int)) := by
    have := own_cell h.own (i := n) (by omega)
    rw [Nat.zero_add] at this
    rw [this, nats_at (by omega)]
  have hcap : n + 1 ≤ c := by
    obtain ⟨_, _, e1, hc, _⟩ := own_form h.own
    cases e1
    exact hc
  have hlt2 : 2 < cs.size := (Array.getElem?_eq_some_iff.1 h.fld).1
  have G2 := h.blk.set_ 2 (.slice (some ⟨g, 0, none⟩) n c)
  have Os := (Only.refl (fun k => k = gs) w).setCell (p := ⟨gs, 2, none⟩) (.inl rfl) (.slice (some ⟨g, 0, none⟩) n c)
  have O2 := own_only (own_cut h.own (Nat.le_succ n)) Os (own_far (own_cut h.own (Nat.le_succ n)) h.blk (by decide))
  have HR : Hid (HpM (w.setCell ⟨gs, 2, none⟩ (.slice (some ⟨g, 0, none⟩) n c)) B gs g c n (cs.setIfInBounds 2 (.slice (some ⟨g, 0, none⟩) n c)) (xs.take n)) :=
    ⟨G2, by simp [hlt2], by rw [List.length_take]; omega, by
      have e : (nats xs).take n = nats (xs.take n) := by unfold nats; rw [List.map_take]
      rw [← e]
      exact O2⟩
  have HO := hide Os
  generalize at_ xs n = m at fx ⊢
  clear G2 Os O2 h hl
  go_enter Try.func50, Try.ntmps50
  go_wp2
  go_ret
  exact ⟨rfl, HR.out, HO.out⟩

theorem ta3 (x : Int) (w : World) : (Instr.typeAssert (.iface 3 (.int .i64 x)) 20 3 false).run Try.prog w = .ok (.int .i64 x) w := by kernel_rfl
theorem mpush_any {w : World} {B gs n x : Nat} {cs : Array Value} {v : Value} {xs : List Nat} (hb : Blk w gs 58 cs) (hf : cs[2]? = some v) (ho : w.ownsRow B 3 1 v n (nats xs)) (hn : n ≤ 4294967) (hB : B ≤ w.heap.size) :
    Calls Try.prog 51 #[.pointer (some ⟨gs, 2, none⟩), .iface 3 (.int .i64 (x : Int))] w fun e w' => e = .returned (.tuple #[]) ∧ ∃ g c, HpM w' B gs g c (n + 1) (cs.setIfInBounds 2 (.slice (some ⟨g, 0, none⟩) (n + 1) c)) (xs ++ [x]) ∧ Only (fun k => k = gs ∨ v.ownBlock = some k) w w' ∧ (v.ownBlock = some g ∨ w.heap.size ≤ g) := by
  have hlt2 : 2 < cs.size := (Array.getElem?_eq_some_iff.1 hf).1
  have hl : xs.length = n := by have := ho.1; rw [nats_len] at this; omega
  have f2 : w.cell? ⟨gs, 2, none⟩ = some v := by rw [hb.cell]; exact hf
  have ha := ho.alloc (.cells #[.int .i64 (x : Int)] 3)
  have hba := hb.alloc (.cells #[.int .i64 (x : Int)] 3)
  have f2a : (w.alloc (.cells #[.int .i64 (x : Int)] 3)).cell? ⟨gs, 2, none⟩ = some v := by rw [hba.cell]; exact hf
  have f2b : (w.alloc (.cells #[.int .i64 (x : Int)] 3)).drew.cell? ⟨gs, 2, none⟩ = some v := by rw [hba.drew.cell]; exact hf
  have hys : nats xs ++ [.int .i64 (x : Int)] = nats (xs ++ [x]) := by simp [nats]
  have t1 := ta3 (x : Int) w.drew
  have t2 := ta3 (x : Int) w
  go_enter Try.func51, Try.ntmps51
  go_wp2
  go_region_law (refine step_app el56 (.tmp 7) (.tmp 10) (own_drewN ha 1) (lo := w.heap.size) (hh := w.heap.size + 1) (A := some ⟨w.heap.size, 0, none⟩) (m := 1) (c := 1) (Reads.lit w.drew #[.int .i64 (x : Int)] 3 1 1 rfl) (fun u hu => by rcases List.mem_cons.1 hu with rfl | hu; rfl; cases hu) (N := n + 1) rfl hys (by unfold maxLen; omega) (by omega) (by simp; omega) rfl rfl rfl rfl ?_; intro A2 c2 w2 hown2 hg2 hb2; have G2 := (hba.drewN 1).grown hg2 (fun e => own_far ha hba (by decide) gs e.symm rfl); have p3 := G2.frozen 2; have k3 : w2.cell? ⟨gs, 2, none⟩ = some v := (by rw [G2.cell]; exact hf))
  all_goals
    refine bodyPost_end (results_none rfl _ _ _) rfl ?_
    obtain ⟨g, hg, rfl⟩ : ∃ g, B ≤ g ∧ A2 = some ⟨g, 0, none⟩ := by
      rcases hown2.2 with ⟨_, e2⟩ | ⟨g', cap, cur, e1, hgB, _⟩
      · omega
      · cases e1
        exact ⟨g', hgB, rfl⟩
    have G3 := G2.set_ 2 (.slice (some ⟨g, 0, none⟩) (n + 1) c2)
    have Os := (Only.refl (fun k => k = gs) w2).setCell (p := ⟨gs, 2, none⟩) (.inl rfl) (.slice (some ⟨g, 0, none⟩) (n + 1) c2)
    have O2 := own_only hown2 Os (own_far hown2 G2 (by decide))
    refine ⟨rfl, g, c2, ⟨G3, by simp [hlt2], by simp [hl], O2⟩, ?_, ?_⟩
    · exact ((((Only.refl (fun k => k = gs ∨ v.ownBlock = some k) w).alloc (.cells #[.int .i64 (x : Int)] 3)).drewN 1).grown hg2 (fun k hk => .inl (.inr hk))).setCell (p := ⟨gs, 2, none⟩) (.inl (.inl rfl)) _
    · rcases hb2 with e | e
      · exact .inl (e.symm ▸ rfl)
      · refine .inr ?_
        have : g = (w.alloc (.cells #[.int .i64 (x : Int)] 3)).heap.size := by simpa [Value.ownBlock] using e
        rw [this]
        simp
end Go.Proofs.Ytnfaaaehpfddgaa
