/- MsgWrites. -/
import Derived.Test.YtaapbiiiepdopaaLa
import Derived.Test.YtaapbiiiepdopaaCo
namespace Go.Proofs.Ytaapbiiiepdopaa
open Go.RowKit Mem Go.Deep Go.ChangeShapes Go.WideShapes
set_option linter.unusedVariables false
set_option linter.unusedSimpArgs false

def EncV (R : Except Int (List UInt8)) (bs : List UInt8) (z : Int) : Prop := match R with
  | .ok b => bs = b ∧ z = 0
  | .error y => bs = [] ∧ z = y
theorem EncMP_un {m : M} {w w' : World} {e : Ending} (h : EncMP m w e w') : Below w.heap.size w w' ∧ ∃ (A : Option Addr) (c : Nat) (bs : List UInt8) (z : Int), e = .returned (.tuple #[.slice A bs.length c, .int .i64 z]) ∧ Reads w' 0 w'.heap.size 1 A bs.length (bs.map B8) ∧ EncV (encM m) bs z := by
  obtain ⟨h1, h2⟩ := h
  refine ⟨h1, ?_⟩
  cases he : encM m with
  | ok b => rw [he] at h2; obtain ⟨A, c, h3, h4⟩ := h2; exact ⟨A, c, b, 0, h3, h4, rfl, rfl⟩
  | error z => rw [he] at h2; exact ⟨none, 0, [], z, h2, Reads.none_, rfl, rfl⟩
theorem EncV_same {R : Except Int (List UInt8)} {a b : List UInt8} {y z : Int} (h : EncV R a y) (h' : EncV R b z) : a = b ∧ y = z := by
  cases R with
  | ok r => obtain ⟨rfl, rfl⟩ := h; obtain ⟨rfl, rfl⟩ := h'; exact ⟨rfl, rfl⟩
  | error r => obtain ⟨rfl, rfl⟩ := h; obtain ⟨rfl, rfl⟩ := h'; exact ⟨rfl, rfl⟩
theorem request_any (k : Int) (w : World) : Calls Try.prog 29 #[.int .i64 k] w fun e w' => e = .returned (.bool (decide (1 ≤ k) && decide (k ≤ 8))) ∧ w = w' := by
  by_cases h1 : 1 ≤ k
  · by_cases h2 : k ≤ 8
    · have t1 : decide (1 ≤ k) = true := by simp [h1]
      have t2 : decide (k ≤ 8) = true := by simp [h2]
      rw [t1, t2]
      go_enter Try.func29, Try.ntmps29
      go_wp2
      go_ret
      exact ⟨rfl, rfl⟩
    · have t1 : decide (1 ≤ k) = true := by simp [h1]
      have t2 : decide (k ≤ 8) = false := by simp; omega
      rw [t1, t2]
      go_enter Try.func29, Try.ntmps29
      go_wp2
      go_ret
      exact ⟨rfl, rfl⟩
  · have t1 : decide (1 ≤ k) = false := by simp; omega
    rw [t1, Bool.false_and]
    go_enter Try.func29, Try.ntmps29
    go_wp2
    go_ret
    exact ⟨rfl, rfl⟩
set_option maxRecDepth 100000 in
set_option maxHeartbeats 8000000 in
theorem mwrites_law {w : World} {m : M} {cs : Array Value} (hM : IsM w (fun b => b < w.heap.size) m cs) (hn : m.s.size + m.t.size + bulk m.v ≤ 1048576) :
    Calls Try.prog 12 #[.agg cs] w fun e w' => e = .returned (.bool true) ∧ Below w.heap.size w w' := by
  have hwf := hM.wf
  obtain ⟨mk, ms, mt, mn, mv⟩ := m
  have hM0 := hM
  obtain ⟨k, b, n, s, AL, nL, cL, AK, nK, cK, rfl, hV, hrg⟩ := hM0
  dsimp only at hM hV hn hrg
  have hlv : mayB (listM ⟨mk, ms, mt, mn, mv⟩) = true → (byt (listM ⟨mk, ms, mt, mn, mv⟩)).length ≤ 35184372088832 := fun h => by
    have h1 := mayB_len h (wf_list hwf)
    have h2 := bulk_rest ⟨mk, ms, mt, mn, mv⟩
    dsimp only at h2
    omega
  have HB := hide (((Below.refl w.heap.size w).alloc (Nat.le_refl _) (.cells #[.int .i64 mk, .string ms, .string mt, .int .i64 mn, .int .i64 k, .bool b, .int .i64 n, .string s, .slice AL nL cL, .slice AK nK cK] 41)).alloc (by simp) (.cells #[.int .i64 mk, .string ms, .string mt, .int .i64 mn, .int .i64 k, .bool b, .int .i64 n, .string s, .slice AL nL cL, .slice AK nK cK] 41))
  have HM := hide ((hM.alloc (.cells #[.int .i64 mk, .string ms, .string mt, .int .i64 mn, .int .i64 k, .bool b, .int .i64 n, .string s, .slice AL nL cL, .slice AK nK cK] 41)).alloc (.cells #[.int .i64 mk, .string ms, .string mt, .int .i64 mn, .int .i64 k, .bool b, .int .i64 n, .string s, .slice AL nL cL, .slice AK nK cK] 41))
  have HV := hide ((hV.alloc (.cells #[.int .i64 mk, .string ms, .string mt, .int .i64 mn, .int .i64 k, .bool b, .int .i64 n, .string s, .slice AL nL cL, .slice AK nK cK] 41)).alloc (.cells #[.int .i64 mk, .string ms, .string mt, .int .i64 mn, .int .i64 k, .bool b, .int .i64 n, .string s, .slice AL nL cL, .slice AK nK cK] 41))
  have HN := hide ((Blk.new w 41 #[.int .i64 mk, .string ms, .string mt, .int .i64 mn, .int .i64 k, .bool b, .int .i64 n, .string s, .slice AL nL cL, .slice AK nK cK]).alloc (.cells #[.int .i64 mk, .string ms, .string mt, .int .i64 mn, .int .i64 k, .bool b, .int .i64 n, .string s, .slice AL nL cL, .slice AK nK cK] 41))
  have HO := hide (show Blk ((w.alloc (.cells #[.int .i64 mk, .string ms, .string mt, .int .i64 mn, .int .i64 k, .bool b, .int .i64 n, .string s, .slice AL nL cL, .slice AK nK cK] 41)).alloc (.cells #[.int .i64 mk, .string ms, .string mt, .int .i64 mn, .int .i64 k, .bool b, .int .i64 n, .string s, .slice AL nL cL, .slice AK nK cK] 41)) (w.heap.size + 1) 41 #[.int .i64 mk, .string ms, .string mt, .int .i64 mn, .int .i64 k, .bool b, .int .i64 n, .string s, .slice AL nL cL, .slice AK nK cK] by simpa using Blk.new (w.alloc (.cells #[.int .i64 mk, .string ms, .string mt, .int .i64 mn, .int .i64 k, .bool b, .int .i64 n, .string s, .slice AL nL cL, .slice AK nK cK] 41)) 41 #[.int .i64 mk, .string ms, .string mt, .int .i64 mn, .int .i64 k, .bool b, .int .i64 n, .string s, .slice AL nL cL, .slice AK nK cK])
  have HLV := hide hlv
  have HRG := hide hrg
  clear hM hV hlv hwf hrg
  go_enter Try.func12, Try.ntmps12
  go_wp2_with fail
  generalize (w.alloc (.cells #[.int .i64 mk, .string ms, .string mt, .int .i64 mn, .int .i64 k, .bool b, .int .i64 n, .string s, .slice AL nL cL, .slice AK nK cK] 41)).alloc (.cells #[.int .i64 mk, .string ms, .string mt, .int .i64 mn, .int .i64 k, .bool b, .int .i64 n, .string s, .slice AL nL cL, .slice AK nK cK] 41) = W at HB HM HV HN HO ⊢
  refine (copy_any mv (by omega) HV.out).mono ?_
  rintro e w1 ⟨cs', rfl, hV1, hb1⟩
  obtain ⟨k2, b2, n2, s2, AL2, nL2, cL2, AK2, nK2, cK2, rfl⟩ := hV1.shape
  have hO1 := HO.out.below hb1 HO.out.lt
  have f0 : w1.frozen? ⟨w.heap.size + 1, 4, none⟩ = false := hO1.frozen 4
  have ff : ∀ i, w1.frozen? ⟨w.heap.size + 1, i, none⟩ = false := fun i => hO1.frozen i
  have o0 : w1.cell? ⟨w.heap.size + 1, 0, none⟩ = some (.int .i64 mk) := blkR hO1 rfl
  have o1 : w1.cell? ⟨w.heap.size + 1, 1, none⟩ = some (.string ms) := blkR hO1 rfl
  have o2 : w1.cell? ⟨w.heap.size + 1, 2, none⟩ = some (.string mt) := blkR hO1 rfl
  have o3 : w1.cell? ⟨w.heap.size + 1, 3, none⟩ = some (.int .i64 mn) := blkR hO1 rfl
  have o4 : w1.cell? ⟨w.heap.size + 1, 4, none⟩ = some (.int .i64 k) := blkR hO1 rfl
  have o5 : w1.cell? ⟨w.heap.size + 1, 5, none⟩ = some (.bool b) := blkR hO1 rfl
  have o6 : w1.cell? ⟨w.heap.size + 1, 6, none⟩ = some (.int .i64 n) := blkR hO1 rfl
  have o7 : w1.cell? ⟨w.heap.size + 1, 7, none⟩ = some (.string s) := blkR hO1 rfl
  have o8 : w1.cell? ⟨w.heap.size + 1, 8, none⟩ = some (.slice AL nL cL) := blkR hO1 rfl
  have o9 : w1.cell? ⟨w.heap.size + 1, 9, none⟩ = some (.slice AK nK cK) := blkR hO1 rfl
  go_upto_region 3 with (fail)
  have OB : Only (fun b => b = w.heap.size + 1) w1 ((((((w1.setCell ⟨w.heap.size + 1, 4, none⟩ (.int .i64 k2)).setCell ⟨w.heap.size + 1, 5, none⟩ (.bool b2)).setCell ⟨w.heap.size + 1, 6, none⟩ (.int .i64 n2)).setCell ⟨w.heap.size + 1, 7, none⟩ (.string s2)).setCell ⟨w.heap.size + 1, 8, none⟩ (.slice AL2 nL2 cL2)).setCell ⟨w.heap.size + 1, 9, none⟩ (.slice AK2 nK2 cK2)) := ((((((Only.refl (fun b => b = w.heap.size + 1) w1).setCell (p := ⟨w.heap.size + 1, 4, none⟩) (.inl rfl) (.int .i64 k2)).setCell (p := ⟨w.heap.size + 1, 5, none⟩) (.inl rfl) (.bool b2)).setCell (p := ⟨w.heap.size + 1, 6, none⟩) (.inl rfl) (.int .i64 n2)).setCell (p := ⟨w.heap.size + 1, 7, none⟩) (.inl rfl) (.string s2)).setCell (p := ⟨w.heap.size + 1, 8, none⟩) (.inl rfl) (.slice AL2 nL2 cL2)).setCell (p := ⟨w.heap.size + 1, 9, none⟩) (.inl rfl) (.slice AK2 nK2 cK2)
  have N3 : Blk ((((((w1.setCell ⟨w.heap.size + 1, 4, none⟩ (.int .i64 k2)).setCell ⟨w.heap.size + 1, 5, none⟩ (.bool b2)).setCell ⟨w.heap.size + 1, 6, none⟩ (.int .i64 n2)).setCell ⟨w.heap.size + 1, 7, none⟩ (.string s2)).setCell ⟨w.heap.size + 1, 8, none⟩ (.slice AL2 nL2 cL2)).setCell ⟨w.heap.size + 1, 9, none⟩ (.slice AK2 nK2 cK2)) (w.heap.size + 1) 41 #[.int .i64 mk, .string ms, .string mt, .int .i64 mn, .int .i64 k2, .bool b2, .int .i64 n2, .string s2, .slice AL2 nL2 cL2, .slice AK2 nK2 cK2] := by simpa using ((((((hO1).set_ 4 (.int .i64 k2)).set_ 5 (.bool b2)).set_ 6 (.int .i64 n2)).set_ 7 (.string s2)).set_ 8 (.slice AL2 nL2 cL2)).set_ 9 (.slice AK2 nK2 cK2)
  have hlo : w.heap.size + 1 < W.heap.size := HO.out.lt
  have hV3 := hV1.only OB (fun b hb e => by have hb : W.heap.size ≤ b := hb; have e : b = w.heap.size + 1 := e; omega)
  have hN3 := (HN.out.below hb1 HN.out.lt).only OB (by omega)
  have hM3 := (HM.out.below hb1 (fun b h => Nat.lt_of_lt_of_le h HB.out.size)).only OB (fun b hb e => by have hb : b < w.heap.size := hb; have e : b = w.heap.size + 1 := e; omega)
  have hB3 := HB.out.trans ((hb1.mono HB.out.size).trans (OB.below (B := w.heap.size) (by intro b _ e; have e : b = w.heap.size + 1 := e; omega) (Nat.le_trans HB.out.size hb1.size)))
  generalize ((((((w1.setCell ⟨w.heap.size + 1, 4, none⟩ (.int .i64 k2)).setCell ⟨w.heap.size + 1, 5, none⟩ (.bool b2)).setCell ⟨w.heap.size + 1, 6, none⟩ (.int .i64 n2)).setCell ⟨w.heap.size + 1, 7, none⟩ (.string s2)).setCell ⟨w.heap.size + 1, 8, none⟩ (.slice AL2 nL2 cL2)).setCell ⟨w.heap.size + 1, 9, none⟩ (.slice AK2 nK2 cK2)) = w3 at OB N3 hV3 hN3 hM3 hB3 ⊢
  have HO3 := hide N3
  have HN3 := hide hN3
  have HM3 := hide hM3
  have HB3 := hide hB3
  have HU3 := hide (show IsM w3 (fun b => W.heap.size ≤ b) ⟨mk, ms, mt, mn, mv⟩ #[.int .i64 mk, .string ms, .string mt, .int .i64 mn, .int .i64 k2, .bool b2, .int .i64 n2, .string s2, .slice AL2 nL2 cL2, .slice AK2 nK2 cK2] from ⟨_, _, _, _, _, _, _, _, _, _, rfl, hV3, HRG.out⟩)
  clear OB N3 hV3 hN3 hM3 hB3 hO1 hb1 hV1 HB HM HV HN HO f0 ff o0 o1 o2 o3 o4 o5 o6 o7 o8 o9
  have y0 : w3.cell? ⟨w.heap.size + 1, 0, none⟩ = some (.int .i64 mk) := blkR HO3.out rfl
  have y1 : w3.cell? ⟨w.heap.size + 1, 1, none⟩ = some (.string ms) := blkR HO3.out rfl
  have y2 : w3.cell? ⟨w.heap.size + 1, 2, none⟩ = some (.string mt) := blkR HO3.out rfl
  have y3 : w3.cell? ⟨w.heap.size + 1, 3, none⟩ = some (.int .i64 mn) := blkR HO3.out rfl
  have y4 : w3.cell? ⟨w.heap.size + 1, 4, none⟩ = some (.int .i64 k2) := blkR HO3.out rfl
  have y5 : w3.cell? ⟨w.heap.size + 1, 5, none⟩ = some (.bool b2) := blkR HO3.out rfl
  have y6 : w3.cell? ⟨w.heap.size + 1, 6, none⟩ = some (.int .i64 n2) := blkR HO3.out rfl
  have y7 : w3.cell? ⟨w.heap.size + 1, 7, none⟩ = some (.string s2) := blkR HO3.out rfl
  have y8 : w3.cell? ⟨w.heap.size + 1, 8, none⟩ = some (.slice AL2 nL2 cL2) := blkR HO3.out rfl
  have y9 : w3.cell? ⟨w.heap.size + 1, 9, none⟩ = some (.slice AK2 nK2 cK2) := blkR HO3.out rfl
  go_wp2_with fail
  refine (encodeM_any HU3.out HLV.out).mono ?_
  intro e w4 he
  obtain ⟨hb4, A1, c1, bs1, z1, rfl, hr1, hev1⟩ := EncMP_un he.p
  have HO4 := hide (HO3.out.below hb4 HO3.out.lt)
  have HN4 := hide (HN3.out.below hb4 HN3.out.lt)
  have HM4 := hide (HM3.out.grow hb4)
  have HU4 := hide (HU3.out.grow hb4)
  have HB4 := hide (HB3.out.trans (hb4.mono HB3.out.size))
  have HR1 := hide hr1
  have HE1 := hide hev1
  clear he hb4 hr1 hev1 HO3 HN3 HM3 HU3 y0 y1 y2 y3 y4 y5 y6 y7 y8 y9
  have x0 : w4.cell? ⟨w.heap.size, 0, none⟩ = some (.int .i64 mk) := blkR HN4.out rfl
  have x1 : w4.cell? ⟨w.heap.size, 1, none⟩ = some (.string ms) := blkR HN4.out rfl
  have x2 : w4.cell? ⟨w.heap.size, 2, none⟩ = some (.string mt) := blkR HN4.out rfl
  have x3 : w4.cell? ⟨w.heap.size, 3, none⟩ = some (.int .i64 mn) := blkR HN4.out rfl
  have x4 : w4.cell? ⟨w.heap.size, 4, none⟩ = some (.int .i64 k) := blkR HN4.out rfl
  have x5 : w4.cell? ⟨w.heap.size, 5, none⟩ = some (.bool b) := blkR HN4.out rfl
  have x6 : w4.cell? ⟨w.heap.size, 6, none⟩ = some (.int .i64 n) := blkR HN4.out rfl
  have x7 : w4.cell? ⟨w.heap.size, 7, none⟩ = some (.string s) := blkR HN4.out rfl
  have x8 : w4.cell? ⟨w.heap.size, 8, none⟩ = some (.slice AL nL cL) := blkR HN4.out rfl
  have x9 : w4.cell? ⟨w.heap.size, 9, none⟩ = some (.slice AK nK cK) := blkR HN4.out rfl
  go_wp2_with fail
  refine (refencM_any HM4.out HLV.out).mono ?_
  intro e w5 he
  obtain ⟨hb5, A2, c2, bs2, z2, rfl, hr2, hev2⟩ := EncMP_un he
  obtain ⟨rfl, rfl⟩ := EncV_same HE1.out hev2
  have HO5 := hide (HO4.out.below hb5 HO4.out.lt)
  have HN5 := hide (HN4.out.below hb5 HN4.out.lt)
  have HM5 := hide (HM4.out.grow hb5)
  have HU5 := hide (HU4.out.grow hb5)
  have HB5 := hide (HB4.out.trans (hb5.mono HB4.out.size))
  have HR1' := hide (HR1.out.below hb5 (Nat.le_refl _))
  have hs45 := hb5.size
  have HR2 := hide hr2
  clear he hb5 hr2 hev2 HO4 HN4 HM4 HU4 x0 x1 x2 x3 x4 x5 x6 x7 x8 x9
  go_upto_region 5 with (fail)
  have t1 : ∀ W', Below w5.heap.size w5 W' → (convert 27 9 (.slice A1 bs1.length c1)).run Try.prog W' = .ok (.string (ofL bs1)) W' := fun W' h => (HR1'.out.below h hs45).str 27 9 5 Try.underlying27 Try.underlying5 Try.underlying9 c1
  have t2 : ∀ W', Below w5.heap.size w5 W' → (convert 27 9 (.slice A2 bs1.length c2)).run Try.prog W' = .ok (.string (ofL bs1)) W' := fun W' h => (HR2.out.below h (Nat.le_refl _)).str 27 9 5 Try.underlying27 Try.underlying5 Try.underlying9 c2
  generalize ofL bs1 = S1 at t1 t2
  have hS1 : (S1.toList == S1.toList) = true := by simp
  have p0 : ∀ W', Below w5.heap.size w5 W' → W'.cell? ⟨w.heap.size, 0, none⟩ = some (.int .i64 mk) := fun W' h => blkR (HN5.out.below h HN5.out.lt) rfl
  have p1 : ∀ W', Below w5.heap.size w5 W' → W'.cell? ⟨w.heap.size, 1, none⟩ = some (.string ms) := fun W' h => blkR (HN5.out.below h HN5.out.lt) rfl
  have p2 : ∀ W', Below w5.heap.size w5 W' → W'.cell? ⟨w.heap.size, 2, none⟩ = some (.string mt) := fun W' h => blkR (HN5.out.below h HN5.out.lt) rfl
  have p3 : ∀ W', Below w5.heap.size w5 W' → W'.cell? ⟨w.heap.size, 3, none⟩ = some (.int .i64 mn) := fun W' h => blkR (HN5.out.below h HN5.out.lt) rfl
  have p4 : ∀ W', Below w5.heap.size w5 W' → W'.cell? ⟨w.heap.size, 4, none⟩ = some (.int .i64 k) := fun W' h => blkR (HN5.out.below h HN5.out.lt) rfl
  have p5 : ∀ W', Below w5.heap.size w5 W' → W'.cell? ⟨w.heap.size, 5, none⟩ = some (.bool b) := fun W' h => blkR (HN5.out.below h HN5.out.lt) rfl
  have p6 : ∀ W', Below w5.heap.size w5 W' → W'.cell? ⟨w.heap.size, 6, none⟩ = some (.int .i64 n) := fun W' h => blkR (HN5.out.below h HN5.out.lt) rfl
  have p7 : ∀ W', Below w5.heap.size w5 W' → W'.cell? ⟨w.heap.size, 7, none⟩ = some (.string s) := fun W' h => blkR (HN5.out.below h HN5.out.lt) rfl
  have p8 : ∀ W', Below w5.heap.size w5 W' → W'.cell? ⟨w.heap.size, 8, none⟩ = some (.slice AL nL cL) := fun W' h => blkR (HN5.out.below h HN5.out.lt) rfl
  have p9 : ∀ W', Below w5.heap.size w5 W' → W'.cell? ⟨w.heap.size, 9, none⟩ = some (.slice AK nK cK) := fun W' h => blkR (HN5.out.below h HN5.out.lt) rfl
  have q0 : ∀ W', Below w5.heap.size w5 W' → W'.cell? ⟨w.heap.size + 1, 0, none⟩ = some (.int .i64 mk) := fun W' h => blkR (HO5.out.below h HO5.out.lt) rfl
  have q1 : ∀ W', Below w5.heap.size w5 W' → W'.cell? ⟨w.heap.size + 1, 1, none⟩ = some (.string ms) := fun W' h => blkR (HO5.out.below h HO5.out.lt) rfl
  have q2 : ∀ W', Below w5.heap.size w5 W' → W'.cell? ⟨w.heap.size + 1, 2, none⟩ = some (.string mt) := fun W' h => blkR (HO5.out.below h HO5.out.lt) rfl
  have q3 : ∀ W', Below w5.heap.size w5 W' → W'.cell? ⟨w.heap.size + 1, 3, none⟩ = some (.int .i64 mn) := fun W' h => blkR (HO5.out.below h HO5.out.lt) rfl
  have q4 : ∀ W', Below w5.heap.size w5 W' → W'.cell? ⟨w.heap.size + 1, 4, none⟩ = some (.int .i64 k2) := fun W' h => blkR (HO5.out.below h HO5.out.lt) rfl
  have q5 : ∀ W', Below w5.heap.size w5 W' → W'.cell? ⟨w.heap.size + 1, 5, none⟩ = some (.bool b2) := fun W' h => blkR (HO5.out.below h HO5.out.lt) rfl
  have q6 : ∀ W', Below w5.heap.size w5 W' → W'.cell? ⟨w.heap.size + 1, 6, none⟩ = some (.int .i64 n2) := fun W' h => blkR (HO5.out.below h HO5.out.lt) rfl
  have q7 : ∀ W', Below w5.heap.size w5 W' → W'.cell? ⟨w.heap.size + 1, 7, none⟩ = some (.string s2) := fun W' h => blkR (HO5.out.below h HO5.out.lt) rfl
  have q8 : ∀ W', Below w5.heap.size w5 W' → W'.cell? ⟨w.heap.size + 1, 8, none⟩ = some (.slice AL2 nL2 cL2) := fun W' h => blkR (HO5.out.below h HO5.out.lt) rfl
  have q9 : ∀ W', Below w5.heap.size w5 W' → W'.cell? ⟨w.heap.size + 1, 9, none⟩ = some (.slice AK2 nK2 cK2) := fun W' h => blkR (HO5.out.below h HO5.out.lt) rfl
  have hE : eqM ⟨mk, ms, mt, mn, mv⟩ ⟨mk, ms, mt, mn, mv⟩ = true := eqM_iff.2 rfl
  have C26 := hide (show ∀ W', Below w5.heap.size w5 W' → Calls Try.prog 26 #[.agg #[.int .i64 mk, .string ms, .string mt, .int .i64 mn, .int .i64 k, .bool b, .int .i64 n, .string s, .slice AL nL cL, .slice AK nK cK]] W' _ from fun W' h => mcheck_any (HM5.out.grow h))
  have C28 := hide (show ∀ W', Below w5.heap.size w5 W' → Calls Try.prog 28 #[.agg #[.int .i64 mk, .string ms, .string mt, .int .i64 mn, .int .i64 k, .bool b, .int .i64 n, .string s, .slice AL nL cL, .slice AK nK cK]] W' _ from fun W' h => rcheckM_any (HM5.out.grow h))
  have C23 := hide (show ∀ W', Below w5.heap.size w5 W' → Calls Try.prog 23 #[.agg #[.int .i64 mk, .string ms, .string mt, .int .i64 mn, .int .i64 k2, .bool b2, .int .i64 n2, .string s2, .slice AL2 nL2 cL2, .slice AK2 nK2 cK2], .agg #[.int .i64 mk, .string ms, .string mt, .int .i64 mn, .int .i64 k, .bool b, .int .i64 n, .string s, .slice AL nL cL, .slice AK nK cK]] W' (fun e w' => e = .returned (.bool true) ∧ Below W'.heap.size W' w') from fun W' h => by have := msame_any (HU5.out.grow h) (HM5.out.grow h); rw [hE] at this; exact this)
  clear hE
  generalize (if okM ⟨mk, ms, mt, mn, mv⟩ = true then (0 : Int) else 9) = zc at C26 C28
  by_cases h1 : 1 ≤ mk
  · have d1 : decide (1 ≤ mk) = true := by simp [h1]
    by_cases h2 : mk ≤ 8
    · have d2 : decide (mk ≤ 8) = true := by simp [h2]
      have C29 := fun W' : World => hide (show Calls Try.prog 29 #[.int .i64 mk] W' (fun e w' => e = .returned (.bool true) ∧ W' = w') from by have := request_any mk W'; rw [d1, d2] at this; exact this)
      go_region_held3 (fun W' => Below w5.heap.size w5 W') (first | exact (Below.refl _ w5).drew | (have hx := ‹Below w5.heap.size w5 _›; exact hx.trans (hc26.mono hx.size)) | (have hx := ‹Below w5.heap.size w5 _›; exact hx.trans (hc28.mono hx.size)) | (have hx := ‹Below w5.heap.size w5 _›; exact hx.trans (hc23.mono hx.size)) | (have hx := ‹Below w5.heap.size w5 _›; exact hx.trans (hc24.mono hx.size)) | assumption) (first | (go_at_call 26; refine (C26.out _ (by assumption)).mono ?_; rintro e v26 ⟨rfl, hc26⟩) | (go_at_call 28; refine (C28.out _ (by assumption)).mono ?_; rintro e v28 ⟨rfl, hc28⟩) | (go_at_call 23; refine (C23.out _ (by assumption)).mono ?_; rintro e v23 ⟨rfl, hc23⟩) | (go_at_call 29; refine (C29 _).out.mono ?_; rintro e v29 ⟨rfl, rfl⟩) | (go_at_call 24; refine mworks_any.mono ?_; rintro e v24 ⟨rfl, hc24⟩))
      all_goals (
        have hx := ‹Below w5.heap.size w5 _›
        have HX := hide (HB5.out.trans (hx.mono HB5.out.size))
        clear hx p0 p1 p2 p3 p4 p5 p6 p7 p8 p9 q0 q1 q2 q3 q4 q5 q6 q7 q8 q9 t1 t2
        go_wp2
        go_ret
        exact ⟨rfl, HX.out⟩)
    · have d2 : decide (mk ≤ 8) = false := by simp; omega
      have C29 := fun W' : World => hide (show Calls Try.prog 29 #[.int .i64 mk] W' (fun e w' => e = .returned (.bool false) ∧ W' = w') from by have := request_any mk W'; rw [d1, d2] at this; exact this)
      go_region_held3 (fun W' => Below w5.heap.size w5 W') (first | exact (Below.refl _ w5).drew | (have hx := ‹Below w5.heap.size w5 _›; exact hx.trans (hc26.mono hx.size)) | (have hx := ‹Below w5.heap.size w5 _›; exact hx.trans (hc28.mono hx.size)) | (have hx := ‹Below w5.heap.size w5 _›; exact hx.trans (hc23.mono hx.size)) | (have hx := ‹Below w5.heap.size w5 _›; exact hx.trans (hc24.mono hx.size)) | assumption) (first | (go_at_call 26; refine (C26.out _ (by assumption)).mono ?_; rintro e v26 ⟨rfl, hc26⟩) | (go_at_call 28; refine (C28.out _ (by assumption)).mono ?_; rintro e v28 ⟨rfl, hc28⟩) | (go_at_call 23; refine (C23.out _ (by assumption)).mono ?_; rintro e v23 ⟨rfl, hc23⟩) | (go_at_call 29; refine (C29 _).out.mono ?_; rintro e v29 ⟨rfl, rfl⟩) | (go_at_call 24; refine mworks_any.mono ?_; rintro e v24 ⟨rfl, hc24⟩))
      all_goals (
        have hx := ‹Below w5.heap.size w5 _›
        have HX := hide (HB5.out.trans (hx.mono HB5.out.size))
        clear hx p0 p1 p2 p3 p4 p5 p6 p7 p8 p9 q0 q1 q2 q3 q4 q5 q6 q7 q8 q9 t1 t2
        go_wp2
        go_ret
        exact ⟨rfl, HX.out⟩)
  · have d1 : decide (1 ≤ mk) = false := by simp; omega
    have C29 := fun W' : World => hide (show Calls Try.prog 29 #[.int .i64 mk] W' (fun e w' => e = .returned (.bool false) ∧ W' = w') from by have := request_any mk W'; rw [d1, Bool.false_and] at this; exact this)
    have HP0 := hide p0
    have HQ0 := hide q0
    have HP1 := hide p1
    have HQ1 := hide q1
    have HP2 := hide p2
    have HQ2 := hide q2
    have HP3 := hide p3
    have HQ3 := hide q3
    have HP4 := hide p4
    have HQ4 := hide q4
    have HP5 := hide p5
    have HQ5 := hide q5
    have HP6 := hide p6
    have HQ6 := hide q6
    have HP7 := hide p7
    have HQ7 := hide q7
    have HP8 := hide p8
    have HQ8 := hide q8
    have HP9 := hide p9
    have HQ9 := hide q9
    have HT1 := hide t1
    have HT2 := hide t2
    clear t1 t2 p0 p1 p2 p3 p4 p5 p6 p7 p8 p9 q0 q1 q2 q3 q4 q5 q6 q7 q8 q9
    refine wp_region_held_drew (S := fun W' => Below w5.heap.size w5 W') (by kernel_rfl) ((Below.refl _ w5).drew) (fun hA => ?_)
    refine wpAnyH_take (i := 0) (v := ?_) rfl (by kernel_rfl) (by kernel_rfl) (by kernel_rfl) (fun _ _ _ h => h) (Or.inl ⟨by rfl, ?_⟩) (by assumption) ?_
    rotate_left
    · ((intro w hSw); (try dsimp only at hSw); have tt0 := HP0.out w hSw; have tt1 := HP1.out w hSw; have tt2 := HP2.out w hSw; have tt3 := HP3.out w hSw; have tt4 := HP4.out w hSw; have tt5 := HP5.out w hSw; have tt6 := HP6.out w hSw; have tt7 := HP7.out w hSw; have tt8 := HP8.out w hSw; have tt9 := HP9.out w hSw; (go_simp <;> with_reducible rfl))
    try simp only [Act.put, List.setIfInBounds_toArray, List.set_cons_zero, List.set_cons_succ, List.getElem_toArray, List.getElem_cons_zero, List.getElem_cons_succ]
    refine wpAnyH_take (i := 2) (v := ?_) rfl (by kernel_rfl) (by kernel_rfl) (by kernel_rfl) (fun _ _ _ h => h) (Or.inl ⟨by rfl, ?_⟩) (by assumption) ?_
    rotate_left
    · ((intro w hSw); (try dsimp only at hSw); have tt0 := HP0.out w hSw; have tt1 := HP1.out w hSw; have tt2 := HP2.out w hSw; have tt3 := HP3.out w hSw; have tt4 := HP4.out w hSw; have tt5 := HP5.out w hSw; have tt6 := HP6.out w hSw; have tt7 := HP7.out w hSw; have tt8 := HP8.out w hSw; have tt9 := HP9.out w hSw; (go_simp <;> with_reducible rfl))
    try simp only [Act.put, List.setIfInBounds_toArray, List.set_cons_zero, List.set_cons_succ, List.getElem_toArray, List.getElem_cons_zero, List.getElem_cons_succ]
    refine wpAnyH_ready (rs := [1]) (by kernel_rfl) (by simp) ?_
    refine AllReadyH.cons rfl (fun K hK => ?_) AllReadyH.nil
    go_simp
    refine (C26.out _ hA).mono ?_
    rintro e v26 ⟨rfl, hc26⟩
    (try go_wp2_with fail)
    refine hK.out _ _ ?_ (fun hB => ?_)
    · exact hA.trans (hc26.mono hA.size)
    clear hK K
    try simp only [Act.put, List.setIfInBounds_toArray, List.set_cons_zero, List.set_cons_succ, List.getElem_toArray, List.getElem_cons_zero, List.getElem_cons_succ]
    refine wpAnyH_ready (rs := [3]) (by kernel_rfl) (by simp) ?_
    refine AllReadyH.cons rfl (fun K hK => ?_) AllReadyH.nil
    go_simp
    refine (C28.out _ hB).mono ?_
    rintro e v28 ⟨rfl, hc28⟩
    (try go_wp2_with fail)
    refine hK.out _ _ ?_ (fun hC => ?_)
    · exact hB.trans (hc28.mono hB.size)
    clear hK K
    try simp only [Act.put, List.setIfInBounds_toArray, List.set_cons_zero, List.set_cons_succ, List.getElem_toArray, List.getElem_cons_zero, List.getElem_cons_succ]
    refine wpAnyH_take (i := 4) (v := ?_) rfl (by kernel_rfl) (by kernel_rfl) (by kernel_rfl) (fun _ _ _ h => h) (Or.inl ⟨by rfl, ?_⟩) (by assumption) ?_
    rotate_left
    · ((intro w hSw); (try dsimp only at hSw); (go_simp <;> with_reducible rfl))
    try simp only [Act.put, List.setIfInBounds_toArray, List.set_cons_zero, List.set_cons_succ, List.getElem_toArray, List.getElem_cons_zero, List.getElem_cons_succ]
    refine wpAnyH_take (i := 5) (v := ?_) rfl (by kernel_rfl) (by kernel_rfl) (by kernel_rfl) (fun _ _ _ h => h) (Or.inl ⟨by rfl, ?_⟩) (by assumption) ?_
    rotate_left
    · ((intro w hSw); (try dsimp only at hSw); (go_simp <;> with_reducible rfl))
    try simp only [Act.put, List.setIfInBounds_toArray, List.set_cons_zero, List.set_cons_succ, List.getElem_toArray, List.getElem_cons_zero, List.getElem_cons_succ]
    refine wpAnyH_take (i := 6) (v := ?_) rfl (by kernel_rfl) (by kernel_rfl) (by kernel_rfl) (fun _ _ _ h => h) (Or.inl ⟨by rfl, ?_⟩) (by assumption) ?_
    rotate_left
    · ((intro w hSw); (try dsimp only at hSw); (go_simp <;> with_reducible rfl))
    try simp only [Act.put, List.setIfInBounds_toArray, List.set_cons_zero, List.set_cons_succ, List.getElem_toArray, List.getElem_cons_zero, List.getElem_cons_succ]
    refine wpAnyH_take (i := 7) (v := ?_) rfl (by kernel_rfl) (by kernel_rfl) (by kernel_rfl) (fun _ _ _ h => h) (Or.inl ⟨by rfl, ?_⟩) (by assumption) ?_
    rotate_left
    · ((intro w hSw); (try dsimp only at hSw); have tt := HT1.out w hSw; (go_simp <;> with_reducible rfl))
    try simp only [Act.put, List.setIfInBounds_toArray, List.set_cons_zero, List.set_cons_succ, List.getElem_toArray, List.getElem_cons_zero, List.getElem_cons_succ]
    refine wpAnyH_take (i := 8) (v := ?_) rfl (by kernel_rfl) (by kernel_rfl) (by kernel_rfl) (fun _ _ _ h => h) (Or.inl ⟨by rfl, ?_⟩) (by assumption) ?_
    rotate_left
    · ((intro w hSw); (try dsimp only at hSw); (go_simp <;> with_reducible rfl))
    try simp only [Act.put, List.setIfInBounds_toArray, List.set_cons_zero, List.set_cons_succ, List.getElem_toArray, List.getElem_cons_zero, List.getElem_cons_succ]
    refine wpAnyH_take (i := 9) (v := ?_) rfl (by kernel_rfl) (by kernel_rfl) (by kernel_rfl) (fun _ _ _ h => h) (Or.inl ⟨by rfl, ?_⟩) (by assumption) ?_
    rotate_left
    · ((intro w hSw); (try dsimp only at hSw); have tt := HT2.out w hSw; (go_simp <;> with_reducible rfl))
    try simp only [Act.put, List.setIfInBounds_toArray, List.set_cons_zero, List.set_cons_succ, List.getElem_toArray, List.getElem_cons_zero, List.getElem_cons_succ]
    refine wpAnyH_take (i := 10) (v := .bool true) rfl (by kernel_rfl) (by kernel_rfl) (by kernel_rfl) (fun _ _ _ h => h) (Or.inl ⟨by rfl, ?_⟩) (by assumption) ?_
    · (intro w hSw; (try dsimp only at hSw); go_simp)
    try simp only [Act.put, List.setIfInBounds_toArray, List.set_cons_zero, List.set_cons_succ, List.getElem_toArray, List.getElem_cons_zero, List.getElem_cons_succ]
    refine wpAnyH_take (i := 11) (v := .bool true) rfl (by kernel_rfl) (by kernel_rfl) (by kernel_rfl) (fun _ _ _ h => h) (Or.inl ⟨by rfl, ?_⟩) (by assumption) ?_
    · (intro w hSw; (try dsimp only at hSw); go_simp)
    try simp only [Act.put, List.setIfInBounds_toArray, List.set_cons_zero, List.set_cons_succ, List.getElem_toArray, List.getElem_cons_zero, List.getElem_cons_succ]
    refine wpAnyH_take (i := 12) (v := .bool true) rfl (by kernel_rfl) (by kernel_rfl) (by kernel_rfl) (fun _ _ _ h => h) (Or.inl ⟨by rfl, ?_⟩) (by assumption) ?_
    · (intro w hSw; (try dsimp only at hSw); go_simp)
    try simp only [Act.put, List.setIfInBounds_toArray, List.set_cons_zero, List.set_cons_succ, List.getElem_toArray, List.getElem_cons_zero, List.getElem_cons_succ]
    refine wpAnyH_take (i := 13) (v := ?_) rfl (by kernel_rfl) (by kernel_rfl) (by kernel_rfl) (fun _ _ _ h => h) (Or.inl ⟨by rfl, ?_⟩) (by assumption) ?_
    rotate_left
    · ((intro w hSw); (try dsimp only at hSw); (go_simp <;> with_reducible rfl))
    try simp only [Act.put, List.setIfInBounds_toArray, List.set_cons_zero, List.set_cons_succ, List.getElem_toArray, List.getElem_cons_zero, List.getElem_cons_succ]
    refine wpAnyH_take (i := 14) (v := ?_) rfl (by kernel_rfl) (by kernel_rfl) (by kernel_rfl) (fun _ _ _ h => h) (Or.inl ⟨by rfl, ?_⟩) (by assumption) ?_
    rotate_left
    · ((intro w hSw); (try dsimp only at hSw); (go_simp <;> with_reducible rfl))
    try simp only [Act.put, List.setIfInBounds_toArray, List.set_cons_zero, List.set_cons_succ, List.getElem_toArray, List.getElem_cons_zero, List.getElem_cons_succ]
    refine wpAnyH_take (i := 15) (v := .bool true) rfl (by kernel_rfl) (by kernel_rfl) (by kernel_rfl) (fun _ _ _ h => h) (Or.inl ⟨by rfl, ?_⟩) (by assumption) ?_
    · (intro w hSw; (try dsimp only at hSw); go_simp)
    try simp only [Act.put, List.setIfInBounds_toArray, List.set_cons_zero, List.set_cons_succ, List.getElem_toArray, List.getElem_cons_zero, List.getElem_cons_succ]
    refine wpAnyH_take (i := 16) (v := .bool true) rfl (by kernel_rfl) (by kernel_rfl) (by kernel_rfl) (fun _ _ _ h => h) (Or.inl ⟨by rfl, ?_⟩) (by assumption) ?_
    · (intro w hSw; (try dsimp only at hSw); go_simp)
    try simp only [Act.put, List.setIfInBounds_toArray, List.set_cons_zero, List.set_cons_succ, List.getElem_toArray, List.getElem_cons_zero, List.getElem_cons_succ]
    refine wpAnyH_take (i := 17) (v := .bool true) rfl (by kernel_rfl) (by kernel_rfl) (by kernel_rfl) (fun _ _ _ h => h) (Or.inl ⟨by rfl, ?_⟩) (by assumption) ?_
    · (intro w hSw; (try dsimp only at hSw); go_simp)
    try simp only [Act.put, List.setIfInBounds_toArray, List.set_cons_zero, List.set_cons_succ, List.getElem_toArray, List.getElem_cons_zero, List.getElem_cons_succ]
    refine wpAnyH_take (i := 18) (v := ?_) rfl (by kernel_rfl) (by kernel_rfl) (by kernel_rfl) (fun _ _ _ h => h) (Or.inl ⟨by rfl, ?_⟩) (by assumption) ?_
    rotate_left
    · ((intro w hSw); (try dsimp only at hSw); have tt0 := HQ0.out w hSw; have tt1 := HQ1.out w hSw; have tt2 := HQ2.out w hSw; have tt3 := HQ3.out w hSw; have tt4 := HQ4.out w hSw; have tt5 := HQ5.out w hSw; have tt6 := HQ6.out w hSw; have tt7 := HQ7.out w hSw; have tt8 := HQ8.out w hSw; have tt9 := HQ9.out w hSw; (go_simp <;> with_reducible rfl))
    try simp only [Act.put, List.setIfInBounds_toArray, List.set_cons_zero, List.set_cons_succ, List.getElem_toArray, List.getElem_cons_zero, List.getElem_cons_succ]
    refine wpAnyH_take (i := 19) (v := ?_) rfl (by kernel_rfl) (by kernel_rfl) (by kernel_rfl) (fun _ _ _ h => h) (Or.inl ⟨by rfl, ?_⟩) (by assumption) ?_
    rotate_left
    · ((intro w hSw); (try dsimp only at hSw); have tt0 := HP0.out w hSw; have tt1 := HP1.out w hSw; have tt2 := HP2.out w hSw; have tt3 := HP3.out w hSw; have tt4 := HP4.out w hSw; have tt5 := HP5.out w hSw; have tt6 := HP6.out w hSw; have tt7 := HP7.out w hSw; have tt8 := HP8.out w hSw; have tt9 := HP9.out w hSw; (go_simp <;> with_reducible rfl))
    try simp only [Act.put, List.setIfInBounds_toArray, List.set_cons_zero, List.set_cons_succ, List.getElem_toArray, List.getElem_cons_zero, List.getElem_cons_succ]
    refine wpAnyH_ready (rs := [20]) (by kernel_rfl) (by simp) ?_
    refine AllReadyH.cons rfl (fun K hK => ?_) AllReadyH.nil
    go_simp
    refine (C23.out _ hC).mono ?_
    rintro e v23 ⟨rfl, hc23⟩
    (try go_wp2_with fail)
    refine hK.out _ _ ?_ (fun hD => ?_)
    · exact hC.trans (hc23.mono hC.size)
    clear hK K
    try simp only [Act.put, List.setIfInBounds_toArray, List.set_cons_zero, List.set_cons_succ, List.getElem_toArray, List.getElem_cons_zero, List.getElem_cons_succ]
    refine wpAnyH_take (i := 21) (v := ?_) rfl (by kernel_rfl) (by kernel_rfl) (by kernel_rfl) (fun _ _ _ h => h) (Or.inl ⟨by rfl, ?_⟩) (by assumption) ?_
    rotate_left
    · ((intro w hSw); (try dsimp only at hSw); (go_simp <;> with_reducible rfl))
    try simp only [Act.put, List.setIfInBounds_toArray, List.set_cons_zero, List.set_cons_succ, List.getElem_toArray, List.getElem_cons_zero, List.getElem_cons_succ]
    refine wpAnyH_take (i := 22) (v := ?_) rfl (by kernel_rfl) (by kernel_rfl) (by kernel_rfl) (fun _ _ _ h => h) (Or.inl ⟨by rfl, ?_⟩) (by assumption) ?_
    rotate_left
    · ((intro w hSw); (try dsimp only at hSw); (go_simp <;> with_reducible rfl))
    try simp only [Act.put, List.setIfInBounds_toArray, List.set_cons_zero, List.set_cons_succ, List.getElem_toArray, List.getElem_cons_zero, List.getElem_cons_succ]
    refine wpAnyH_take (i := 23) (v := ?_) rfl (by kernel_rfl) (by kernel_rfl) (by kernel_rfl) (fun _ _ _ h => h) (Or.inl ⟨by rfl, ?_⟩) (by assumption) ?_
    rotate_left
    · ((intro w hSw); (try dsimp only at hSw); (go_simp <;> with_reducible rfl))
    try simp only [Act.put, List.setIfInBounds_toArray, List.set_cons_zero, List.set_cons_succ, List.getElem_toArray, List.getElem_cons_zero, List.getElem_cons_succ]
    refine wpAnyH_take (i := 24) (v := ?_) rfl (by kernel_rfl) (by kernel_rfl) (by kernel_rfl) (fun _ _ _ h => h) (Or.inl ⟨by rfl, ?_⟩) (by assumption) ?_
    rotate_left
    · ((intro w hSw); (try dsimp only at hSw); have tt0 := HP0.out w hSw; (go_simp <;> with_reducible rfl))
    try simp only [Act.put, List.setIfInBounds_toArray, List.set_cons_zero, List.set_cons_succ, List.getElem_toArray, List.getElem_cons_zero, List.getElem_cons_succ]
    refine wpAnyH_take (i := 26) (v := ?_) rfl (by kernel_rfl) (by kernel_rfl) (by kernel_rfl) (fun _ _ _ h => h) (Or.inl ⟨by rfl, ?_⟩) (by assumption) ?_
    rotate_left
    · ((intro w hSw); (try dsimp only at hSw); (go_simp <;> with_reducible rfl))
    try simp only [Act.put, List.setIfInBounds_toArray, List.set_cons_zero, List.set_cons_succ, List.getElem_toArray, List.getElem_cons_zero, List.getElem_cons_succ]
    refine wpAnyH_take (i := 27) (v := ?_) rfl (by kernel_rfl) (by kernel_rfl) (by kernel_rfl) (fun _ _ _ h => h) (Or.inl ⟨by rfl, ?_⟩) (by assumption) ?_
    rotate_left
    · ((intro w hSw); (try dsimp only at hSw); have tt0 := HP0.out w hSw; (go_simp <;> with_reducible rfl))
    try simp only [Act.put, List.setIfInBounds_toArray, List.set_cons_zero, List.set_cons_succ, List.getElem_toArray, List.getElem_cons_zero, List.getElem_cons_succ]
    refine wpAnyH_take (i := 28) (v := ?_) rfl (by kernel_rfl) (by kernel_rfl) (by kernel_rfl) (fun _ _ _ h => h) (Or.inl ⟨by rfl, ?_⟩) (by assumption) ?_
    rotate_left
    · ((intro w hSw); (try dsimp only at hSw); (go_simp <;> with_reducible rfl))
    try simp only [Act.put, List.setIfInBounds_toArray, List.set_cons_zero, List.set_cons_succ, List.getElem_toArray, List.getElem_cons_zero, List.getElem_cons_succ]
    refine wpAnyH_ready (rs := [25]) (by kernel_rfl) (by simp) ?_
    refine AllReadyH.cons rfl (fun K hK => ?_) AllReadyH.nil
    go_simp
    refine ((C29 _).out).mono ?_
    rintro e v29 ⟨rfl, rfl⟩
    (try go_wp2_with fail)
    refine hK.out _ _ ?_ (fun hE => ?_)
    · exact hD
    clear hK K
    try simp only [Act.put, List.setIfInBounds_toArray, List.set_cons_zero, List.set_cons_succ, List.getElem_toArray, List.getElem_cons_zero, List.getElem_cons_succ]
    refine wpAnyH_take (i := 29) (v := ?_) rfl (by kernel_rfl) (by kernel_rfl) (by kernel_rfl) (fun _ _ _ h => h) (Or.inl ⟨by rfl, ?_⟩) (by assumption) ?_
    rotate_left
    · ((intro w hSw); (try dsimp only at hSw); (go_simp <;> with_reducible rfl))
    try simp only [Act.put, List.setIfInBounds_toArray, List.set_cons_zero, List.set_cons_succ, List.getElem_toArray, List.getElem_cons_zero, List.getElem_cons_succ]
    refine wpAnyH_take (i := 30) (v := undef) rfl (by kernel_rfl) (by kernel_rfl) (by kernel_rfl) (fun _ _ _ h => h) (Or.inr ⟨by rfl, rfl⟩) (by assumption) ?_
    try simp only [Act.put, List.setIfInBounds_toArray, List.set_cons_zero, List.set_cons_succ, List.getElem_toArray, List.getElem_cons_zero, List.getElem_cons_succ]
    refine wpAnyH_take (i := 31) (v := undef) rfl (by kernel_rfl) (by kernel_rfl) (by kernel_rfl) (fun _ _ _ h => h) (Or.inr ⟨by rfl, rfl⟩) (by assumption) ?_
    try simp only [Act.put, List.setIfInBounds_toArray, List.set_cons_zero, List.set_cons_succ, List.getElem_toArray, List.getElem_cons_zero, List.getElem_cons_succ]
    refine wpAnyH_take (i := 32) (v := undef) rfl (by kernel_rfl) (by kernel_rfl) (by kernel_rfl) (fun _ _ _ h => h) (Or.inr ⟨by rfl, rfl⟩) (by assumption) ?_
    try simp only [Act.put, List.setIfInBounds_toArray, List.set_cons_zero, List.set_cons_succ, List.getElem_toArray, List.getElem_cons_zero, List.getElem_cons_succ]
    refine wpAnyH_take (i := 33) (v := ?_) rfl (by kernel_rfl) (by kernel_rfl) (by kernel_rfl) (fun _ _ _ h => h) (Or.inl ⟨by rfl, ?_⟩) (by assumption) ?_
    rotate_left
    · ((intro w hSw); (try dsimp only at hSw); (go_simp <;> with_reducible rfl))
    try simp only [Act.put, List.setIfInBounds_toArray, List.set_cons_zero, List.set_cons_succ, List.getElem_toArray, List.getElem_cons_zero, List.getElem_cons_succ]
    refine wpAnyH_take (i := 34) (v := ?_) rfl (by kernel_rfl) (by kernel_rfl) (by kernel_rfl) (fun _ _ _ h => h) (Or.inl ⟨by rfl, ?_⟩) (by assumption) ?_
    rotate_left
    · ((intro w hSw); (try dsimp only at hSw); (go_simp <;> with_reducible rfl))
    try simp only [Act.put, List.setIfInBounds_toArray, List.set_cons_zero, List.set_cons_succ, List.getElem_toArray, List.getElem_cons_zero, List.getElem_cons_succ]
    refine wpAnyH_take (i := 35) (v := ?_) rfl (by kernel_rfl) (by kernel_rfl) (by kernel_rfl) (fun _ _ _ h => h) (Or.inl ⟨by rfl, ?_⟩) (by assumption) ?_
    rotate_left
    · ((intro w hSw); (try dsimp only at hSw); (go_simp <;> with_reducible rfl))
    try simp only [Act.put, List.setIfInBounds_toArray, List.set_cons_zero, List.set_cons_succ, List.getElem_toArray, List.getElem_cons_zero, List.getElem_cons_succ]
    refine wpAnyH_take (i := 36) (v := ?_) rfl (by kernel_rfl) (by kernel_rfl) (by kernel_rfl) (fun _ _ _ h => h) (Or.inl ⟨by rfl, ?_⟩) (by assumption) ?_
    rotate_left
    · ((intro w hSw); (try dsimp only at hSw); (go_simp <;> with_reducible rfl))
    try simp only [Act.put, List.setIfInBounds_toArray, List.set_cons_zero, List.set_cons_succ, List.getElem_toArray, List.getElem_cons_zero, List.getElem_cons_succ]
    refine wpAnyH_ready (rs := [37]) (by kernel_rfl) (by simp) ?_
    refine AllReadyH.cons rfl (fun K hK => ?_) AllReadyH.nil
    go_simp
    refine (mworks_any).mono ?_
    rintro e v24 ⟨rfl, hc24⟩
    (try go_wp2_with fail)
    refine hK.out _ _ ?_ (fun hF => ?_)
    · exact hE.trans (hc24.mono hE.size)
    clear hK K
    try simp only [Act.put, List.setIfInBounds_toArray, List.set_cons_zero, List.set_cons_succ, List.getElem_toArray, List.getElem_cons_zero, List.getElem_cons_succ]
    refine wpAnyH_take (i := 38) (v := ?_) rfl (by kernel_rfl) (by kernel_rfl) (by kernel_rfl) (fun _ _ _ h => h) (Or.inl ⟨by rfl, ?_⟩) (by assumption) ?_
    rotate_left
    · ((intro w hSw); (try dsimp only at hSw); (go_simp <;> with_reducible rfl))
    try simp only [Act.put, List.setIfInBounds_toArray, List.set_cons_zero, List.set_cons_succ, List.getElem_toArray, List.getElem_cons_zero, List.getElem_cons_succ]
    refine wpAnyH_take (i := 39) (v := ?_) rfl (by kernel_rfl) (by kernel_rfl) (by kernel_rfl) (fun _ _ _ h => h) (Or.inl ⟨by rfl, ?_⟩) (by assumption) ?_
    rotate_left
    · ((intro w hSw); (try dsimp only at hSw); (go_simp <;> with_reducible rfl))
    try simp only [Act.put, List.setIfInBounds_toArray, List.set_cons_zero, List.set_cons_succ, List.getElem_toArray, List.getElem_cons_zero, List.getElem_cons_succ]
    refine wpAnyH_done (by kernel_rfl) ?_ _
    have HX := hide (HB5.out.trans (hF.mono HB5.out.size))
    go_wp2
    go_ret
    exact ⟨rfl, HX.out⟩
end Go.Proofs.Ytaapbiiiepdopaa
