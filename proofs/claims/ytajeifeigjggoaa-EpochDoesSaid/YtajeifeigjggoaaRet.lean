/- Retire of an epoch's keeper; numbers far below 2^63 are asked. -/
import Derived.Test.YtajeifeigjggoaaPin
import Derived.Deep.RegionLaw
namespace Go.Proofs.Ytajeifeigjggoaa
open Go.RowKit Go.Maps Mem
set_option linter.unusedVariables false

/-- append, at a step of a region that draws -/
theorem step_app {P : Program} {t e size bytes : Nat} {z : Value} (hE : Elem P t e z size bytes) (s x : Operand) {w : World} {ops : Array Oper} {o : Oper} {a : Act} {K : Act → World → Prop} {Q : Exit → Act → World → Prop} {E : Prop} {base : Nat} {v : Value} {n : Nat} {xs : List Value} (hown : w.ownsRow base e size v n xs)
    {lo hh : Nat} {A : Option Addr} {m c : Nat} {news : List Value} (hr : Reads w lo hh size A m news) (h1 : ∀ u ∈ news, u.oneCell' = true)
    {N : Nat} {ys : List Value} (hN : n + m = N) (hys : xs ++ news = ys)
    (h63 : N ≤ maxLen) (hbytes : N * bytes ≤ 140737488355328) (hbase : base ≤ w.heap.size)
    (hgd : o.guard = none) (ho : o.op = .call { callee := .builtin .append, args := #[s, x], argTypes := #[t, t] }) (hs : a.eval s = v) (hx : a.eval x = .slice A m c)
    (h : ∀ A' c' w', w'.ownsRow base e size (.slice A' N c') N ys → w.grownBy w' v.ownBlock → ((Value.slice A' N c').ownBlock = v.ownBlock ∨ (Value.slice A' N c').ownBlock = some w.heap.size) → K (a.put o.dst (.slice A' N c')) w') :
    if Region.wanted o (yielded ops a.tmps) = true then Oper.wp P o a w K Q else E := by
  have hw : Region.wanted o (yielded ops a.tmps) = true := by simp [Region.wanted, hgd]
  rw [if_pos hw]
  obtain ⟨i, hi, hz, hsz, hby⟩ := info_parts hE.info
  subst hN
  subst hys
  refine wp_append_any w s x t ho base e i z size bytes hE.slice hi hz hsz hby hE.cells hE.pos v n xs hs hown lo hh A m c news hx hr h1 h63 hbytes hbase ?_
  intro v' w' h2 h3 h4
  obtain ⟨A', c', rfl, _, _⟩ := own_form h2
  exact h A' c' w' h2 h3 h4

theorem retire_any {g b B now : Nat} {p : List Nat} {q : List (Int × Nat)} {V : Value} (x : Int) (w : World) (h : Ep w g b B now p q V) (hn : q.length ≤ 2000000) (hB : B ≤ w.heap.size) :
    Calls Try.prog 11 #[.pointer (some ⟨g, 0, none⟩), .int .i64 x] w fun e w' => e = .returned (.tuple #[]) ∧
      ∃ V', Ep w' g b B now p (q ++ [(x, now)]) V' ∧ Only (fun k => k = g ∨ V.ownBlock = some k) w w' ∧ (V'.ownBlock = V.ownBlock ∨ V'.ownBlock = some (w.heap.size + 1)) := by
  obtain ⟨QA, qc, D, rfl, hg, hm, hp, hq⟩ := h
  have hgb := map_blk_ne hm hg
  have hqb := own_map_ne hm hq
  have hqg := own_far hq hg (by decide)
  have h0 : w.cell? ⟨g, 3, none⟩ = some (.slice QA q.length qc) := by rw [hg.cell]; rfl
  have h1 : w.cell? ⟨g, 0, none⟩ = some (.int .i64 (now : Int)) := by rw [hg.cell]; rfl
  have hbl := map_lt hm
  have hgl := hg.lt
  have hqq : qcells q ++ [.int .i64 x, .int .i64 (now : Int)] = qcells (q ++ [(x, now)]) := (qcells_append q [(x, now)]).symm
  go_enter Try.func11, Try.ntmps11
  go_wp2
  go_region_law (refine step_app el52 (.tmp 8) (.tmp 15) (own_drewN (hq.alloc (.cells #[.int .i64 x, .int .i64 (now : Int)] 56)) 1) (lo := w.heap.size) (hh := w.heap.size + 1) (A := some ⟨w.heap.size, 0, none⟩) (m := 1) (c := 1) (Reads.lit w.drew #[.int .i64 x, .int .i64 (now : Int)] 56 1 2 rfl) (fun u hu => by rcases List.mem_cons.1 hu with rfl | hu; rfl; rcases List.mem_cons.1 hu with rfl | hu; rfl; cases hu) rfl hqq (by unfold maxLen; omega) (by omega) (by simp; omega) rfl rfl rfl rfl ?_; intro A' c' w' hown hgr hb'; have G2 := (hg.drew.alloc _).grown hgr (fun e => hqg g e.symm rfl); have f3 := G2.frozen 3; have c3 : w'.cell? ⟨g, 3, none⟩ = some (.slice QA q.length qc) := (by rw [G2.cell]; rfl))
  all_goals
    have M1 : (w.alloc (.cells #[.int .i64 x, .int .i64 (now : Int)] 56)).drew.ownsMap Try.prog 2 (plainElem Try.prog 2) b p.length D := hm.alloc _
    have M2 := M1.kept hgr (fun e => hqb b e.symm rfl)
    refine bodyPost_end (results_none rfl _ _ _) rfl ?_
    have G3 := G2.set_ 3 (.slice A' (q.length + 1) c')
    refine ⟨rfl, .slice A' (q.length + 1) c', ⟨A', c', D, by simp, by simpa using G3, ?_, hp, ?_⟩, ?_, ?_⟩
    · exact M2.setCell hgb _
    · have := own_only hown ((Only.refl (fun k => k = g) w').setCell (p := ⟨g, 3, none⟩) (.inl rfl) (.slice A' (q.length + 1) c')) (own_far hown G2 (by decide))
      simpa using this
    · refine ((((Only.refl _ w).drew.alloc _).grown hgr (fun k hk => .inl (.inr hk))).setCell (p := ⟨g, 3, none⟩) (.inl (.inl rfl)) _)
    · simpa using hb'
end Go.Proofs.Ytajeifeigjggoaa
