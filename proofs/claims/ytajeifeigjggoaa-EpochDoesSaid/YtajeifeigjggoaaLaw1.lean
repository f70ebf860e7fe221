/- EpochSafe, walked: whatever is done, the answer is true. -/
import Derived.Test.YtajeifeigjggoaaLw1
import Derived.Test.YtajeifeigjggoaaRd
import Derived.Deep.SlicePairs
namespace Go.Proofs.Ytajeifeigjggoaa
open Go.RowKit Go.Maps Mem Go.Deep Go.ChangeShapes Go.WideShapes
set_option linter.unusedVariables false

theorem rd_ops {H : Type} {enc : TypeId × Value → H} {w : World} {base : Nat} {sp : Nat → Bool} {held : Bool} {fuel : Nat} {v : Value} {d : DataW H} {ps : List MemPlace} (h : DataW.trod enc Try.prog w base sp held fuel 22 [v] = some (d, ps)) :
    ∃ (A : Option Addr) (n c : Nat) (l : List (Int × Int)), v = .slice A n c ∧ n ≤ c ∧ Reads w 0 w.heap.size 2 A n (opcells l) ∧ (∀ o ∈ l, (Lit.int .i64 o.1).wf = true ∧ (Lit.int .i64 o.2).wf = true) ∧ n + 1 ≤ Rows.uptoBulk d := by
  rcases open_slice_pairs Try.underlying22 Try.underlying46 (by kernel_rfl) (by kernel_rfl) (by kernel_rfl) (by kernel_rfl) (by kernel_rfl) h with ⟨hcs, hx⟩ | ⟨a, len, cap, m, k, V0, V1, D0, D1, P0, P1, hcs, _, hl, hm, hmm, hx, hi⟩
  · simp only [List.cons.injEq, and_true] at hcs
    exact ⟨none, 0, 0, [], hcs, Nat.le_refl _, Reads.none_, (by simp), bulk_pos d⟩
  · simp only [List.cons.injEq, and_true] at hcs
    have hlm : len ≤ m := by rw [hmm]; split <;> omega
    have each : ∀ i, i < len → ∃ o : Int × Int, V0 i = .int .i64 o.1 ∧ V1 i = .int .i64 o.2 ∧ (Lit.int .i64 o.1).wf = true ∧ (Lit.int .i64 o.2).wf = true := by
      intro i hil
      obtain ⟨_, _, h1, h2⟩ := hi i (by omega)
      obtain ⟨z1, e1, _, w1⟩ := DataW.trod_int Try.underlying3 h1
      obtain ⟨z2, e2, _, w2⟩ := DataW.trod_int Try.underlying2 h2
      simp only [List.cons.injEq, and_true] at e1 e2
      exact ⟨(z1, z2), e1, e2, w1, w2⟩
    let f : Nat → Int × Int := fun i => if hil : i < len then (each i hil).choose else (0, 0)
    have hf : ∀ i, i < len → V0 i = .int .i64 (f i).1 ∧ V1 i = .int .i64 (f i).2 ∧ (Lit.int .i64 (f i).1).wf = true ∧ (Lit.int .i64 (f i).2).wf = true := by
      intro i hil
      have := (each i hil).choose_spec
      simp only [f, dif_pos hil]
      exact this
    refine ⟨some a, len, cap, (List.range len).map f, hcs, hl, ⟨by rw [opcells_len]; simp, fun hn => ⟨a, rfl, Nat.zero_le _, ?_, fun j u hu => ?_⟩⟩, ?_, ?_⟩
    · have := World.block_lt_of_cell? w _ (hi 0 (by omega)).1
      rwa [block_of_add] at this
    · have hj : j < len * 2 := by
        have := (List.getElem?_eq_some_iff.1 hu).1
        rw [opcells_len] at this
        simpa using this
      have hj2 : j / 2 < ((List.range len).map f).length := by simp; omega
      obtain ⟨g0, g1⟩ := opcells_at hj2
      obtain ⟨e0, e1, _, _⟩ := hf (j / 2) (by omega)
      obtain ⟨c0, c1, _, _⟩ := hi (j / 2) (by omega)
      rcases Nat.mod_two_eq_zero_or_one j with hp | hp
      · have ej : j = j / 2 * 2 := by omega
        rw [ej] at hu ⊢
        rw [c0, e0, ← hu, g0]
        simp
      · have ej : j = j / 2 * 2 + 1 := by omega
        rw [ej] at hu ⊢
        rw [c1, e1, ← hu, g1]
        simp
    · intro o ho
      obtain ⟨i, hi', rfl⟩ := List.mem_map.1 ho
      obtain ⟨_, _, w1, w2⟩ := hf i (by simpa using hi')
      exact ⟨w1, w2⟩
    · simp only [Prod.mk.injEq] at hx
      rw [hx.1]
      have h1 := bulk_elems (H := H) ((List.range len).map fun i => .agg [D0 i, D1 i]) ((List.range (m - len)).map fun j => .agg [D0 (len + j), D1 (len + j)])
      have h2 := bulk_length (H := H) ((List.range len).map fun i => .agg [D0 i, D1 i])
      simp only [List.length_map, List.length_range] at h2
      omega

theorem arg_ops {H : Type} {enc : TypeId × Value → H} {w : World} {b0 : Nat} {r : Reach} {v : Value} {d : DataW H} {ps : List MemPlace} (x : Value.okWide Try.prog w r b0 22 v) (h : DataW.Trod enc Try.prog w 0 (fun _ => true) true 22 v d ps) :
    ∃ (A : Option Addr) (n c : Nat) (l : List (Int × Int)), v = .slice A n c ∧ n ≤ c ∧ Reads w 0 w.heap.size 2 A n (opcells l) ∧ (∀ o ∈ l, (Lit.int .i64 o.1).wf = true ∧ (Lit.int .i64 o.2).wf = true) ∧ n + 1 ≤ Rows.uptoBulk d := by
  obtain ⟨A, n, c, rfl⟩ := okWide_slice Try.underlying22 x
  obtain ⟨fuel, h⟩ := h
  exact rd_ops (by simpa [Value.cells] using h)

theorem safe_any (n c n1 c1 : Nat) (A A1 : Option Addr) (l l1 : List (Int × Int)) (x : Int) (w : World) (hr : Reads w 0 w.heap.size 2 A n (opcells l)) (hr1 : Reads w 0 w.heap.size 2 A1 n1 (opcells l1)) :
    Calls Try.prog 3 #[.slice A n c, .slice A1 n1 c1, .int .i64 x] w fun e w' => e = .returned (.bool true) ∧ Below w.heap.size w w' := by
  go_enter Try.func3, Try.ntmps3
  go_wp2_with fail
  refine (new_all w).mono ?_
  rintro e w1 ⟨rfl, h1, b1, s1⟩
  go_wp2_with fail
  refine (do_any (s := ⟨1, [], [], false⟩) l 0 n c A w1 (hr.below b1 (Nat.le_refl _)) h1 (by decide) (by decide) 0 x).mono ?_
  rintro e w2 ⟨rfl, h2, b2⟩
  have hz := do_size 0 x (l.take 300) ⟨1, [], [], false⟩
  have hcl := clean_do (t := 0) (x := x) (l.take 300) (s := ⟨1, [], [], false⟩) (by intro y hy; cases hy)
  have hl3 : (l.take 300).length ≤ 300 := by rw [List.length_take]; omega
  dsimp only at h2
  generalize doS 0 x ⟨1, [], [], false⟩ (l.take 300) = d at h2 hz hcl
  obtain ⟨now, p, q, gone⟩ := d
  unfold KS.size at hz
  dsimp only [List.length_nil] at hz hcl
  replace h2 : Keep w2 w.heap.size (w.heap.size + 1) w.heap.size now p q := h2
  go_wp2_with fail
  refine (pin_all h2 (by omega) (by omega) (by omega)).mono ?_
  rintro e w3 ⟨rfl, h3, _, b3⟩
  by_cases hc : 64 ≤ cnt p
  · have e1 : pinE p = 8 := if_pos hc
    rw [e1]
    go_wp2_with fail
    refine (works_any w3).mono ?_
    rintro e w4 ⟨rfl, b4⟩
    go_wp2
    go_ret
    have hb := (b1.trans b2).trans b3
    exact ⟨rfl, hb.trans (b4.mono hb.size)⟩
  · have e1 : pinE p = 0 := if_neg hc
    have e2 : pinT p = (p.length : Int) + 1 := if_neg hc
    have e3 : pinS now p = p ++ [now] := if_neg hc
    rw [e1, e2]
    rw [e3] at h3
    clear e1 e2 e3
    go_wp2_with fail
    refine (retire_all x h3 (by omega)).mono ?_
    rintro e w4 ⟨rfl, h4, _, b4⟩
    go_wp2_with fail
    have hS : Safe ((p.length : Int) + 1) x now ⟨now, p ++ [now], q ++ [(x, now)], false⟩ := by
      refine ⟨rfl, ?_, Nat.le_succ _, ?_, (by show 1 ≤ now; omega)⟩
      · show look (p ++ [now]) _ = _
        rw [look_snoc (by omega), if_pos rfl]
      · intro y hy hyx
        rcases List.mem_append.1 hy with hy | hy
        · exact absurd hyx (hcl y hy)
        · rcases List.mem_cons.1 hy with rfl | hy
          · exact Nat.le_refl _
          · cases hy
    have hS2 := safe_do (l1.take 300) hS
    refine (do_any (s := ⟨now, p ++ [now], q ++ [(x, now)], false⟩) l1 0 n1 c1 A1 w4 (hr1.below (((b1.trans b2).trans b3).trans b4) (Nat.le_refl _)) h4 (by show now + (p ++ [now]).length + (q ++ [(x, now)]).length ≤ 2000; rw [List.length_append, List.length_append]; simp only [List.length_cons, List.length_nil]; omega) (by show 1 ≤ now; omega) ((p.length : Int) + 1) x).mono ?_
    rintro e w5 ⟨rfl, h5, b5⟩
    have hz2 := do_size ((p.length : Int) + 1) x (l1.take 300) ⟨now, p ++ [now], q ++ [(x, now)], false⟩
    dsimp only at h5 ⊢
    generalize doS ((p.length : Int) + 1) x ⟨now, p ++ [now], q ++ [(x, now)], false⟩ (l1.take 300) = d at h5 hS2 hz2 ⊢
    obtain ⟨now5, p5, q5, gone5⟩ := d
    have hg5 : gone5 = false := hS2.gone
    have hl5 : look p5 ((p.length : Int) + 1) = some now := hS2.reads
    have hu5 : unpE p5 ((p.length : Int) + 1) = 0 := by
      have hin : ¬ ((p.length : Int) + 1 < 1 ∨ (p5.length : Int) < (p.length : Int) + 1) := by
        intro hbad
        unfold look at hl5
        rw [if_neg (by omega)] at hl5
        cases hl5
      rw [unpE, if_neg hin, hl5]
      rfl
    have hp5 : p5.length ≤ 4294967296 := by
      have h1 := hz2.1
      have h2 : (l1.take 300).length ≤ 300 := by rw [List.length_take]; omega
      unfold KS.size at h1
      dsimp only at h1
      rw [List.length_append, List.length_append] at h1
      simp only [List.length_cons, List.length_nil] at h1
      omega
    subst hg5
    replace h5 : Keep w5 w.heap.size (w.heap.size + 1) w.heap.size now5 p5 q5 := h5
    have hB := (((b1.trans b2).trans b3).trans b4).trans b5
    clear hl5 hS2 hz2 hS hz hcl hl3 hr hr1 h4 h3 h2 h1
    go_wp2_with fail
    refine (unpin_all _ h5 hp5).mono ?_
    rintro e w6 ⟨rfl, h6, _, b6⟩
    rw [hu5]
    go_wp2_with fail
    refine (works_any w6).mono ?_
    rintro e w7 ⟨rfl, b7⟩
    go_wp2
    go_ret
    have hb := hB.trans b6
    exact ⟨rfl, hb.trans (b7.mono hb.size)⟩

theorem epochSafe_walk (H : Type) (enc : TypeId × Value → H) (W : World) (base : Nat) (v0 : Value) (d0 : DataW H) (p0 : List MemPlace) (v1 : Value) (d1 : DataW H) (p1 : List MemPlace) (v2 : Value) (d2 : DataW H) (p2 : List MemPlace)
    (x0 : Value.okWide Try.prog W .any base 22 v0) (h0 : DataW.Trod enc Try.prog W 0 (fun _ => true) true 22 v0 d0 p0) (x1 : Value.okWide Try.prog W .any base 22 v1) (h1 : DataW.Trod enc Try.prog W 0 (fun _ => true) true 22 v1 d1 p1)
    (x2 : Value.okWide Try.prog W .any base 2 v2) (h2 : DataW.Trod enc Try.prog W 0 (fun _ => true) true 2 v2 d2 p2) :
    Calls Try.prog 3 #[v0, v1, v2] W fun e W' => e = .returned (.bool true) ∧ Below W.heap.size W W' := by
  obtain ⟨A, n, c, l, rfl, _, hr, _⟩ := arg_ops x0 h0
  obtain ⟨A1, n1, c1, l1, rfl, _, hr1, _⟩ := arg_ops x1 h1
  obtain ⟨x, rfl, _⟩ := open_int Try.underlying2 x2 h2
  exact safe_any n c n1 c1 A A1 l l1 x W hr hr1
end Go.Proofs.Ytajeifeigjggoaa
