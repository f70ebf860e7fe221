/- Push and Pop of container/heap over the free slots: their contracts. -/
import Derived.Test.YtnfaaaehpfddgaaHr
namespace Go.Proofs.Ytnfaaaehpfddgaa
open Go.RowKit Mem
set_option linter.unusedVariables false

theorem at_app_lt {xs : List Nat} {x i : Nat} (h : i < xs.length) : at_ (xs ++ [x]) i = at_ xs i := by
  unfold at_
  simp only [List.getD, List.getElem?_append_left h]
theorem heap_app {xs : List Nat} {x n : Nat} (h : IsHeap xs n) (hn : xs.length = n) : IsHeap (xs ++ [x]) n := by
  intro i h0 hi
  rw [at_app_lt (by omega), at_app_lt (by omega)]
  exact h i h0 hi
theorem at_count {xs : List Nat} {u : Nat} (h : 0 < xs.count u) : ∃ i, i < xs.length ∧ at_ xs i = u := by
  obtain ⟨i, hi, e⟩ := List.getElem_of_mem (List.count_pos_iff.1 h)
  exact ⟨i, hi, by unfold at_; rw [List.getD, List.getElem?_eq_getElem hi]; exact e⟩

/-- the slab's block, its field of free slots, their row as a heap -/
structure FreeR (w : World) (B gs : Nat) (cs : Array Value) (v : Value) (fr : List Nat) : Prop where
  blk : Blk w gs 58 cs
  fld : cs[2]? = some v
  own : w.ownsRow B 3 1 v fr.length (nats fr)
  heap : IsHeap fr fr.length

theorem push_any {w : World} {B gs x : Nat} {cs : Array Value} {v : Value} {fr : List Nat} (h : FreeR w B gs cs v fr) (hn : fr.length ≤ 4294967) (hB : B ≤ w.heap.size) :
    Calls Try.prog 26 #[.iface 60 (.pointer (some ⟨gs, 2, none⟩)), .iface 3 (.int .i64 (x : Int))] w fun e w' => e = .returned (.tuple #[]) ∧ ∃ v' fr', FreeR w' B gs (cs.setIfInBounds 2 v') v' fr' ∧ fr'.length = fr.length + 1 ∧ (∀ u, fr'.count u = fr.count u + (if x = u then 1 else 0)) ∧
      Only (fun k => k = gs ∨ v.ownBlock = some k) w w' ∧ (v'.ownBlock = v.ownBlock ∨ ∃ k, v'.ownBlock = some k ∧ w.heap.size ≤ k) := by
  have mp := m_push ⟨gs, 2, none⟩ w
  go_enter Try.func26, Try.ntmps26
  go_wp2_with fail
  refine (mpush_any (x := x) h.blk h.fld h.own hn hB).mono ?_
  rintro e w1 ⟨rfl, g, c, h1, o1, hg⟩
  have hh := h.heap
  have hlen := h1.len
  have ml := m_len _ _ _ h1.cell
  clear mp
  go_wp2_with fail
  refine (len_any _ _ _ w1).mono ?_
  rintro e w2 ⟨rfl, rfl⟩
  go_wp2_with fail
  have e1 : ((fr.length : Int) + 1) - 1 = (fr.length : Int) := by omega
  refine (up_any (j := fr.length) h1 (Nat.lt_succ_self _) (up_start (heap_app hh rfl)) (by omega)).mono ?_
  rintro e w3 ⟨rfl, ys, h3, hy, hc, o3⟩
  go_wp2
  refine bodyPost_end (results_none rfl _ _ _) rfl ?_
  refine ⟨rfl, _, ys, ⟨h3.blk, h3.fld, by rw [h3.len]; exact h3.own, by rw [h3.len]; exact hy⟩, h3.len, ?_, ?_, ?_⟩
  · intro u
    rw [hc, List.count_append, List.count_cons, List.count_nil]
    simp
  · refine o1.trans o3 ?_
    intro k hk e
    subst e
    rcases hg with hg | hg
    · exact .inr hg
    · omega
  · rcases hg with hg | hg
    · exact .inl hg.symm
    · exact .inr ⟨g, rfl, hg⟩

theorem pop_any {w : World} {B gs : Nat} {cs : Array Value} {v : Value} {fr : List Nat} (h : FreeR w B gs cs v fr) (h0 : 0 < fr.length) (hn : fr.length ≤ 4294967) :
    Calls Try.prog 24 #[.iface 60 (.pointer (some ⟨gs, 2, none⟩))] w fun e w' => ∃ m : Nat, e = .returned (.iface 3 (.int .i64 (m : Int))) ∧ ∃ v' fr', FreeR w' B gs (cs.setIfInBounds 2 v') v' fr' ∧ fr'.length + 1 = fr.length ∧ (∀ u, fr.count u = fr'.count u + (if m = u then 1 else 0)) ∧ (∀ u, 0 < fr.count u → m ≤ u) ∧
      Only (fun k => k = gs ∨ v.ownBlock = some k) w w' ∧ v'.ownBlock = v.ownBlock := by
  obtain ⟨n, hl⟩ : ∃ n, fr.length = n + 1 := ⟨fr.length - 1, by omega⟩
  have ho := h.own
  obtain ⟨g, c, hv⟩ : ∃ g c, v = .slice (some ⟨g, 0, none⟩) fr.length c := by
    rcases ho.2 with ⟨_, e2⟩ | ⟨g', cap, cur, e1, _⟩
    · omega
    · exact ⟨g', cap, e1⟩
  have hH : HpM w B gs g c (n + 1) cs fr := ⟨h.blk, by rw [h.fld, hv, hl], hl, by rw [← hl, ← hv]; exact ho⟩
  have hh := h.heap
  rw [hl] at hh
  have ml := m_len _ _ _ hH.cell
  have ms := m_swap _ _ _ hH.cell
  go_enter Try.func24, Try.ntmps24
  go_wp2_with fail
  refine (len_any _ _ _ w).mono ?_
  rintro e w1 ⟨rfl, rfl⟩
  go_wp2_with fail
  refine (hH.swap (i := 0) (j := n) (by omega) (by omega)).mono ?_
  rintro e w2 ⟨rfl, h2, o2⟩
  clear ml ms
  go_wp2_with fail
  refine (down_any (n := n) h2 (Nat.le_succ n) (pop_start hl hh) (by omega)).mono ?_
  rintro e w3 ⟨⟨b, rfl⟩, ys, h3, hy, hc, hk, o3⟩
  have mp := m_pop ⟨gs, 2, none⟩ w3
  go_wp2_with fail
  refine (mpop_any h3 (by omega)).mono ?_
  rintro e w4 ⟨rfl, h4, o4⟩
  have hyl := h3.len
  have hm : at_ ys n = at_ fr 0 := by rw [hk n (Nat.le_refl _), sw_at (by omega) (by omega), if_pos rfl]
  have hcnt : ∀ u, fr.count u = (ys.take n).count u + (if at_ fr 0 = u then 1 else 0) := fun u => by
    have h1 := count_take (xs := ys) (n := n) hyl u
    rw [hm, hc u, sw_count (by omega) (by omega)] at h1
    exact h1
  have hmin : ∀ u, 0 < fr.count u → at_ fr 0 ≤ u := fun u hu => by
    obtain ⟨i, hi, rfl⟩ := at_count hu
    exact heap_min hh i (by omega)
  have hgv : v.ownBlock = some g := by rw [hv]; rfl
  rw [hm]
  have HE : Hid (∃ v' fr', FreeR w4 B gs (cs.setIfInBounds 2 v') v' fr' ∧ fr'.length + 1 = fr.length ∧ (∀ u, fr.count u = fr'.count u + (if at_ fr 0 = u then 1 else 0)) ∧ (∀ u, 0 < fr.count u → at_ fr 0 ≤ u) ∧ Only (fun k => k = gs ∨ v.ownBlock = some k) w w4 ∧ v'.ownBlock = v.ownBlock) := by
    refine ⟨_, ys.take n, ⟨h4.blk, h4.fld, by rw [h4.len]; exact h4.own, by rw [h4.len]; exact heap_take hy⟩, by rw [h4.len, hl], hcnt, hmin, ?_, hgv.symm⟩
    refine ((o2.mono (S' := fun k => k = gs ∨ v.ownBlock = some k) (fun k _ hk => .inr (by rw [hgv, hk]))).trans o3 (fun k _ hk => .inr (by rw [hgv, hk]))).trans o4 (fun k _ hk => .inl hk)
  generalize at_ fr 0 = m at HE ⊢
  clear hcnt hmin hm h4 o4 h3 h2 o2 o3 mp hk hc hy hh hH h
  go_wp2
  go_ret
  exact ⟨m, rfl, HE.out⟩
end Go.Proofs.Ytnfaaaehpfddgaa
