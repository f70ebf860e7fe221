/- What a value of an argument reads as. -/
import Derived.Test.YtaapbiiiepdopaaMv
import Derived.Test.YtaapbiiiepdopaaPy
import Derived.Test.YtaapbiiiepdopaaRd
import Derived.Deep.SlicePairs
namespace Go.Proofs.Ytaapbiiiepdopaa
open Go.RowKit Mem Go.Deep Go.ChangeShapes Go.WideShapes
set_option linter.unusedVariables false

instance : Inhabited V := ⟨nul⟩
theorem flat_len {α : Type} (g : α → List Value) {k : Nat} : ∀ (l : List α), (∀ x ∈ l, (g x).length = k) → (l.flatMap g).length = l.length * k
  | [], _ => by simp
  | x :: r, h => by
    rw [List.flatMap_cons, List.length_append, h x List.mem_cons_self, flat_len g r fun y hy => h y (List.mem_cons_of_mem _ hy), List.length_cons, Nat.add_mul, Nat.one_mul, Nat.add_comm]
theorem flat_at {α : Type} (g : α → List Value) {k : Nat} : ∀ (l : List α), (∀ x ∈ l, (g x).length = k) → ∀ (i : Nat) (x : α), l[i]? = some x → ∀ r, r < k → (l.flatMap g)[i * k + r]? = (g x)[r]?
  | [], _, i, x, h, _, _ => by simp at h
  | y :: l, hg, 0, x, h, r, hr => by
    simp at h
    subst h
    rw [List.flatMap_cons, Nat.zero_mul, Nat.zero_add, List.getElem?_append_left (by rw [hg _ List.mem_cons_self]; exact hr)]
  | y :: l, hg, i + 1, x, h, r, hr => by
    have hy := hg y List.mem_cons_self
    rw [List.flatMap_cons, List.getElem?_append_right (by rw [hy, Nat.add_mul]; omega), hy, show (i + 1) * k + r - k = i * k + r by rw [Nat.add_mul]; omega]
    exact flat_at g l (fun z hz => hg z (List.mem_cons_of_mem _ hz)) i x (by simpa using h) r hr
theorem IsVs_map {w : World} {S : Nat → Prop} {f : Nat → V} {g : Nat → Array Value} : ∀ (l : List Nat), (∀ i ∈ l, IsV w S (f i) (g i)) → IsVs w S (l.map f) (l.flatMap fun i => (g i).toList)
  | [], _ => by rw [List.map_nil, List.flatMap_nil, IsVs]
  | i :: l, h => by
    rw [List.map_cons, List.flatMap_cons, IsVs]
    exact ⟨g i, _, rfl, h i List.mem_cons_self, IsVs_map l fun j hj => h j (List.mem_cons_of_mem _ hj)⟩
theorem bulks_map {H : Type} {f : Nat → V} {D : Nat → DataW H} : ∀ (l : List Nat), (∀ i ∈ l, bulk (f i) ≤ Rows.uptoBulk (D i)) → bulks (l.map f) ≤ Rows.uptoBulkAll (l.map D)
  | [], _ => by simp [bulks, Rows.uptoBulkAll]
  | i :: l, h => by
    have h1 := h i List.mem_cons_self
    have h2 := bulks_map l fun j hj => h j (List.mem_cons_of_mem _ hj)
    simp only [List.map_cons, bulks, Rows.uptoBulkAll]
    omega
theorem sums_map {H : Type} {f : Nat → ByteArray} {D : Nat → DataW H} : ∀ (l : List Nat), (∀ i ∈ l, (f i).size + 1 ≤ Rows.uptoBulk (D i)) → ((l.map f).map fun k => k.size + 1).sum ≤ Rows.uptoBulkAll (l.map D)
  | [], _ => by simp [Rows.uptoBulkAll]
  | i :: l, h => by
    have h1 := h i List.mem_cons_self
    have h2 := sums_map l fun j hj => h j (List.mem_cons_of_mem _ hj)
    simp only [List.map_cons, List.sum_cons, Rows.uptoBulkAll]
    omega
theorem bulk_part {H : Type} {D : Nat → DataW H} : ∀ (l : List Nat) (i : Nat), i ∈ l → Rows.uptoBulk (D i) ≤ Rows.uptoBulkAll (l.map D)
  | [], _, h => by cases h
  | j :: l, i, h => by
    simp only [List.map_cons, Rows.uptoBulkAll]
    rcases List.mem_cons.1 h with rfl | h
    · omega
    · have := bulk_part (D := D) l i h
      omega

section
variable {H : Type} {enc : TypeId × Value → H} {w : World} {base : Nat} {sp : Nat → Bool} {held : Bool}
/-- keys -/
theorem rd_names {fuel : Nat} {cs : List Value} {d : DataW H} {ps : List MemPlace} (h : DataW.trod enc Try.prog w base sp held fuel 23 cs = some (d, ps)) :
    ∃ (A : Option Addr) (c : Nat) (ks : List ByteArray), cs = [.slice A ks.length c] ∧ ks.length ≤ c ∧ c ≤ 9223372036854775807 ∧ (∀ x ∈ ks, x.size ≤ 9223372036854775807) ∧ RdS w (fun b => b < w.heap.size) 1 A ks.length (ks.map .string) ∧ (ks.map fun k => k.size + 1).sum + 1 ≤ Rows.uptoBulk d := by
  rcases open_slice Try.underlying23 h with ⟨hcs, hx⟩ | ⟨a, len, cap, m, n, D, Pl, hcs, hb, hl, hcm, hm, hx, hi⟩
  · simp only [Prod.mk.injEq] at hx
    rw [hx.1]
    exact ⟨none, 0, [], hcs, Nat.le_refl _, by decide, (by simp), RdS.nil, by simp [Rows.uptoBulk]⟩
  · have hlm : len ≤ m := by rw [hm]; split <;> omega
    have c9 : Try.prog.cellsOf 9 = 1 := by kernel_rfl
    have each : ∀ i, i < len → ∃ s : ByteArray, w.cell? (a.add i) = some (.string s) ∧ s.size ≤ 9223372036854775807 ∧ s.size + 1 ≤ Rows.uptoBulk (D i) := by
      intro i hil
      obtain ⟨cs', h1, h2⟩ := hi i (by omega)
      rw [c9, Nat.mul_one] at h1
      obtain ⟨_, hlen, hcell⟩ := World.cells?_some h1
      obtain ⟨s, e1, e2, e3⟩ := DataW.trod_string Try.underlying9 h2
      subst e1
      simp only [Prod.mk.injEq] at e2
      have := hcell 0 (by omega)
      refine ⟨s, ?_, e3, ?_⟩
      · rw [add_of_add, Nat.add_zero] at this
        simpa using this
      · rw [e2.1]
        simp [Rows.uptoBulk]
    obtain ⟨Y, hY⟩ := choose_lt each
    simp only [Prod.mk.injEq] at hx
    have hlen : ((List.range len).map Y).length = len := by simp
    refine ⟨some a, cap, (List.range len).map Y, by rw [hlen]; exact hcs, by rw [hlen]; exact hl, hcm, ?_, ?_, ?_⟩
    · intro x hx'
      obtain ⟨i, hi', rfl⟩ := List.mem_map.1 hx'
      exact (hY i (List.mem_range.1 hi')).2.1
    · rw [hlen]
      refine ⟨a.block, fun hn => ?_, by simp, fun hn => ⟨a, rfl, Nat.le_refl _, by omega, fun j u hu => ?_⟩⟩
      · have := World.block_lt_of_cell? w _ (hY 0 hn).1
        rw [block_of_add] at this
        exact ⟨this, this⟩
      · have hj : j < len := by
          have := (List.getElem?_eq_some_iff.1 hu).1
          simpa using this
        rw [(hY j hj).1]
        simpa [hj] using hu
    · rw [hx.1]
      have h1 := bulk_elems ((List.range len).map D) ((List.range (m - len)).map fun j => D (len + j))
      have h2 := sums_map (f := Y) (D := D) (List.range len) fun i hi' => (hY i (List.mem_range.1 hi')).2.2
      omega
set_option maxRecDepth 100000 in
/-- a value -/
theorem rd_val : ∀ (N : Nat) {fuel : Nat} {cs : List Value} {d : DataW H} {ps : List MemPlace}, Rows.uptoBulk d ≤ N → DataW.trod enc Try.prog w base sp held fuel 25 cs = some (d, ps) →
    ∃ v, IsV w (fun b => b < w.heap.size) v cs.toArray ∧ bulk v ≤ Rows.uptoBulk d := by
  intro N
  induction N with
  | zero => intro fuel cs d ps hN _; have := bulk_pos d; omega
  | succ N ih =>
    intro fuel cs d ps hN h
    obtain ⟨xs, k, hk, hx, hlen, hxl, hf⟩ := DataW.trod_struct Try.underlying25 h
    have c25 : Try.prog.cellsOf 25 = 6 := by kernel_rfl
    rw [c25] at hlen
    match cs, hlen with
    | [v0, v1, v2, v3, v4, v5], _ =>
      match xs, hxl with
      | [y0, y1, y2, y3, y4, y5], _ =>
        have c2 : Try.prog.cellsOf 2 = 1 := by kernel_rfl
        have c3 : Try.prog.cellsOf 3 = 1 := by kernel_rfl
        have c4 : Try.prog.cellsOf 4 = 1 := by kernel_rfl
        have c9 : Try.prog.cellsOf 9 = 1 := by kernel_rfl
        have c22 : Try.prog.cellsOf 22 = 1 := by kernel_rfl
        have c23 : Try.prog.cellsOf 23 = 1 := by kernel_rfl
        have g0 := hf 0 _ rfl
        have g1 := hf 1 _ rfl
        have g2 := hf 2 _ rfl
        have g3 := hf 3 _ rfl
        have g4 := hf 4 _ rfl
        have g5 := hf 5 _ rfl
        simp [c2, c3, c4, c9, c22, c23] at g0 g1 g2 g3 g4 g5
        obtain ⟨z0, e0, f0, b0⟩ := DataW.trod_int Try.underlying3 g0
        obtain ⟨z1, e1, f1⟩ := DataW.trod_bool Try.underlying4 g1
        obtain ⟨z2, e2, f2, b2⟩ := DataW.trod_int Try.underlying2 g2
        obtain ⟨z3, e3, f3, b3⟩ := DataW.trod_string Try.underlying9 g3
        obtain ⟨A5, c5, ks, e5, l5, m5, s5, r5, u5⟩ := rd_names (d := y5.1) (ps := y5.2) g5
        simp only [List.cons.injEq, and_true] at e0 e1 e2 e3 e5
        subst e0; subst e1; subst e2; subst e3; subst e5
        simp only [Prod.mk.injEq] at hx
        obtain ⟨hd, _⟩ := hx
        have hbk : Rows.uptoBulk d = 1 + (1 + (1 + ((z3.size + 1) + (Rows.uptoBulk y4.1 + (Rows.uptoBulk y5.1 + 0))))) + 1 := by
          rw [hd, f0, f1, f2, f3]
          simp [Rows.uptoBulk, Rows.uptoBulkAll]
        have hw0 : -9223372036854775808 ≤ z0 ∧ z0 ≤ 9223372036854775807 := bounds_i64 b0
        have hw2 : -9223372036854775808 ≤ z2 ∧ z2 ≤ 9223372036854775807 := bounds_i64 b2
        clear hd hf h g0 g1 g2 g3 g5
        rcases open_slice (x := (y4.1, y4.2)) Try.underlying22 g4 with ⟨hcs, hx⟩ | ⟨a, len, cap, m, n, D, Pl, hcs, hb, hl, hcm, hm, hx, hi⟩
        · simp only [List.cons.injEq, and_true] at hcs
          subst hcs
          refine ⟨.mk z0 z1 z2 z3 [] ks, ?_, ?_⟩
          · rw [IsV]
            exact ⟨none, 0, A5, c5, [], rfl, ⟨Nat.le_refl _, by decide, l5, m5⟩, ⟨hw2.1, hw2.2, hw0.1, hw0.2, b3, s5⟩, RdS.nil, by rw [IsVs], r5⟩
          · rw [bulk, bulks]
            omega
        · simp only [List.cons.injEq, and_true] at hcs
          subst hcs
          have hlm : len ≤ m := by rw [hm]; split <;> omega
          simp only [Prod.mk.injEq] at hx
          have h1 := bulk_elems ((List.range len).map D) ((List.range (m - len)).map fun j => D (len + j))
          rw [← hx.1] at h1
          have each : ∀ i, i < len → ∃ y : V × Array Value, IsV w (fun b => b < w.heap.size) y.1 y.2 ∧ bulk y.1 ≤ Rows.uptoBulk (D i) ∧ y.2.toList.length = 6 ∧ ∀ r u, y.2.toList[r]? = some u → w.cell? (a.add (i * 6 + r)) = some u := by
            intro i hil
            obtain ⟨cs', g1, g2⟩ := hi i (by omega)
            rw [c25] at g1
            obtain ⟨_, hlen', hcell⟩ := World.cells?_some g1
            have hp := bulk_part (D := D) (List.range len) i (List.mem_range.2 hil)
            obtain ⟨v, hv1, hv2⟩ := ih (by omega) g2
            refine ⟨(v, cs'.toArray), hv1, hv2, by simpa using hlen', fun r u hu => ?_⟩
            have hr : r < 6 := by
              have := (List.getElem?_eq_some_iff.1 hu).1
              simp at this
              omega
            rw [← add_of_add, hcell r hr]
            simpa using hu
          obtain ⟨Y, hY⟩ := choose_lt each
          have hll : ((List.range len).map fun i => (Y i).1).length = len := by simp
          refine ⟨.mk z0 z1 z2 z3 ((List.range len).map fun i => (Y i).1) ks, ?_, ?_⟩
          · rw [IsV]
            refine ⟨some a, cap, A5, c5, (List.range len).flatMap fun i => (Y i).2.toList, by rw [hll], ⟨by rw [hll]; exact hl, hcm, l5, m5⟩, ⟨hw2.1, hw2.2, hw0.1, hw0.2, b3, s5⟩, ?_, IsVs_map _ fun i hi' => (hY i (List.mem_range.1 hi')).1, r5⟩
            rw [hll]
            have h6 : ∀ x ∈ List.range len, (Y x).2.toList.length = 6 := fun x hx' => (hY x (List.mem_range.1 hx')).2.2.1
            have hfl := flat_len (fun i => (Y i).2.toList) (List.range len) h6
            rw [List.length_range] at hfl
            refine ⟨a.block, fun hn => ?_, hfl, fun hn => ⟨a, rfl, Nat.le_refl _, by omega, fun j u hu => ?_⟩⟩
            · obtain ⟨u, hu⟩ : ∃ u, (Y 0).2.toList[0]? = some u := ⟨_, List.getElem?_eq_getElem (by rw [(hY 0 hn).2.2.1]; decide)⟩
              have := World.block_lt_of_cell? w _ ((hY 0 hn).2.2.2 0 u hu)
              rw [block_of_add] at this
              exact ⟨this, this⟩
            · have hj : j < len * 6 := by
                have := (List.getElem?_eq_some_iff.1 hu).1
                omega
              have hj2 : j / 6 < len := by omega
              have e6 := flat_at (fun i => (Y i).2.toList) (List.range len) h6 (j / 6) (j / 6) (by simp [hj2]) (j % 6) (by omega)
              rw [show j / 6 * 6 + j % 6 = j by omega] at e6
              rw [e6] at hu
              have := (hY (j / 6) hj2).2.2.2 (j % 6) u hu
              rwa [show j / 6 * 6 + j % 6 = j by omega] at this
          · rw [bulk]
            have h2 := bulks_map (f := fun i => (Y i).1) (D := D) (List.range len) fun i hi' => (hY i (List.mem_range.1 hi')).2.1
            omega
/-- a value that a function is handed -/
theorem arg_val {r : Reach} {b0 : Nat} {v : Value} {d : DataW H} {ps : List MemPlace} (x : Value.okWide Try.prog w r b0 25 v) (h : DataW.Trod enc Try.prog w 0 (fun _ => true) true 25 v d ps) :
    ∃ (t : V) (cs : Array Value), v = .agg cs ∧ IsV w (fun b => b < w.heap.size) t cs ∧ bulk t ≤ Rows.uptoBulk d := by
  obtain ⟨fuel, h⟩ := h
  obtain ⟨t, h1, h2⟩ := rd_val _ (Nat.le_refl _) h
  simp only [Value.okWide, Try.underlying25] at x
  obtain ⟨cs, rfl, _⟩ := x
  exact ⟨t, cs, rfl, by simpa [Value.cells] using h1, h2⟩
/-- bytes that a function is handed -/
theorem arg_bytes {r : Reach} {b0 : Nat} {v : Value} {d : DataW H} {ps : List MemPlace} (x : Value.okWide Try.prog w r b0 27 v) (h : DataW.Trod enc Try.prog w 0 (fun _ => true) true 27 v d ps) :
    ∃ (A : Option Addr) (n c : Nat) (bs : List UInt8), v = .slice A n c ∧ (n ≤ c ∧ c ≤ 9223372036854775807) ∧ Reads w 0 w.heap.size 1 A n (bs.map B8) ∧ n + 1 ≤ Rows.uptoBulk d := by
  obtain ⟨A, n, c, rfl⟩ := okWide_slice Try.underlying27 x
  obtain ⟨fuel, h⟩ := h
  have h' : DataW.trod enc Try.prog w 0 (fun _ => true) true fuel 27 [.slice A n c] = some (d, ps) := by simpa [Value.cells] using h
  obtain ⟨A', n', c', xs, e, h1, h2, h3⟩ := rd_bytes Try.underlying27 Try.underlying5 (by kernel_rfl) h'
  cases e
  refine ⟨A, n, c, xs, rfl, ⟨h1, ?_⟩, h2, h3⟩
  rcases open_slice Try.underlying27 h' with ⟨hcs, _⟩ | ⟨a, len, cap, m, k, D, Pl, hcs, _, _, hm, _⟩
  · cases hcs; decide
  · cases hcs; exact hm
/-- an int that a function is handed -/
theorem arg_int {r : Reach} {b0 : Nat} {v : Value} {d : DataW H} {ps : List MemPlace} (x : Value.okWide Try.prog w r b0 3 v) (h : DataW.Trod enc Try.prog w 0 (fun _ => true) true 3 v d ps) :
    ∃ z : Int, v = .int .i64 z ∧ -9223372036854775808 ≤ z ∧ z ≤ 9223372036854775807 := by
  obtain ⟨n, rfl⟩ := okWide_int Try.underlying3 x
  obtain ⟨fuel, h⟩ := h
  obtain ⟨z, e, _, b⟩ := DataW.trod_int Try.underlying3 (by simpa [Value.cells] using h)
  cases e
  exact ⟨n, rfl, bounds_i64 b⟩
theorem small1 {d : DataW H} (h : Rows.uptoSmall H ([d] ++ []) = true) : Rows.uptoBulk d ≤ 1048576 := by
  simp [Rows.uptoSmall, Rows.uptoBulkAll] at h
  exact h
theorem small2 {d e : DataW H} (h : Rows.uptoSmall H ([d, e] ++ []) = true) : Rows.uptoBulk d + Rows.uptoBulk e ≤ 1048576 := by
  simp [Rows.uptoSmall, Rows.uptoBulkAll] at h
  exact h
end
end Go.Proofs.Ytaapbiiiepdopaa
