/- pack.Decode. -/
import Derived.Test.YtaapbiiiepdopaaVa
import Derived.Defers
import Derived.Recover
namespace Go.Proofs.Ytaapbiiiepdopaa
open Go.RowKit Mem
set_option linter.unusedVariables false

def nulCells : Array Value := #[.int .i64 0, .bool false, .int .i64 0, .string ⟨#[]⟩, .slice none 0 0, .slice none 0 0]

theorem set8 {W : World} {X N E : Nat} {a0 a1 a2 a3 a4 a5 n e : Value} (hX : Blk W X 25 #[a0, a1, a2, a3, a4, a5]) (hN : Blk W N 3 #[n]) (hE : Blk W E 28 #[e]) (hd : X ≠ N ∧ X ≠ E ∧ N ≠ E) (b0 b1 b2 b3 b4 b5 n' e' : Value) {W' : World}
    (h : W' = (((((((W.setCell ⟨X, 0, none⟩ b0).setCell ⟨X, 1, none⟩ b1).setCell ⟨X, 2, none⟩ b2).setCell ⟨X, 3, none⟩ b3).setCell ⟨X, 4, none⟩ b4).setCell ⟨X, 5, none⟩ b5).setCell ⟨N, 0, none⟩ n').setCell ⟨E, 0, none⟩ e') :
    Blk W' X 25 #[b0, b1, b2, b3, b4, b5] ∧ Blk W' N 3 #[n'] ∧ Blk W' E 28 #[e'] ∧ Only (fun b => b = X ∨ b = N ∨ b = E) W W' := by
  subst h
  obtain ⟨d1, d2, d3⟩ := hd
  have X1 := set6 hX b0 b1 b2 b3 b4 b5
  have O1 := only6 (Only.refl (fun b => b = X) W) (.inl rfl) b0 b1 b2 b3 b4 b5
  have N1 := (hN.only O1 (fun e => d1 e.symm)).set_ 0 n'
  have E1 := hE.only O1 (fun e => d2 e.symm)
  generalize (((((W.setCell ⟨X, 0, none⟩ b0).setCell ⟨X, 1, none⟩ b1).setCell ⟨X, 2, none⟩ b2).setCell ⟨X, 3, none⟩ b3).setCell ⟨X, 4, none⟩ b4).setCell ⟨X, 5, none⟩ b5 = V at X1 O1 N1 E1 ⊢
  have O2 : Only (fun b => b = N) V (V.setCell ⟨N, 0, none⟩ n') := (Only.refl (fun b => b = N) V).setCell (p := ⟨N, 0, none⟩) (.inl rfl) _
  have X2 := X1.only O2 d1
  have E2 := (E1.only O2 (fun e => d3 e.symm)).set_ 0 e'
  generalize V.setCell ⟨N, 0, none⟩ n' = V2 at O2 X2 E2 N1 ⊢
  have O3 : Only (fun b => b = E) V2 (V2.setCell ⟨E, 0, none⟩ e') := (Only.refl (fun b => b = E) V2).setCell (p := ⟨E, 0, none⟩) (.inl rfl) _
  refine ⟨X2.only O3 d2, ?_, by simpa using E2, ((O1.mono (fun _ _ h => .inl h)).trans O2 (fun _ _ h => .inr (.inl h))).trans O3 (fun _ _ h => .inr (.inr h))⟩
  have := N1.only O3 d3
  simpa using this
/-- what follows needs no word on a panic -/
theorem wp_calm {P : Program} {c : Code} {K : Act → World → Prop} {Q : Exit → Act → World → Prop} {a : Act} {w : World} (h : c.wp P (Exit.then K (fun _ _ _ => False)) a w) : c.wp P (Exit.then K Q) a w :=
  wp_mono h (fun e a w he => by cases e <;> first | exact he | exact he.elim)
theorem as28 (v : Value) (w : World) : (Instr.typeAssert (.iface 28 v) 20 28 false).run Try.prog w = .ok v w := by kernel_rfl
set_option maxHeartbeats 1000000 in
theorem catch_p {X N E : Nat} {z : Int} {older : List PanicEntry} {w : World} {a0 a1 a2 a3 a4 a5 n e : Value} (hX : Blk w X 25 #[a0, a1, a2, a3, a4, a5]) (hN : Blk w N 3 #[n]) (hE : Blk w E 28 #[e]) (hd : X ≠ N ∧ X ≠ E ∧ N ≠ E) :
    CallsD Try.prog 40 #[.pointer (some ⟨X, 0, none⟩), .pointer (some ⟨N, 0, none⟩), .pointer (some ⟨E, 0, none⟩)] (.panicking ({ v := .iface 28 (.int .i64 z), recovered := false } :: older)) w fun e u' w' =>
      e = .returned (.tuple #[]) ∧ u' = .panicking ({ v := .iface 28 (.int .i64 z), recovered := true } :: older) ∧
      Blk w' X 25 nulCells ∧ Blk w' N 3 #[.int .i64 0] ∧ Blk w' E 28 #[.int .i64 z] ∧ Only (fun b => b = X ∨ b = N ∨ b = E) w w' := by
  refine callsD_of_wpS Try.func40 rfl fun c₀ cs hu => ?_
  apply wpS_seq
  apply wpS_region
  simp [wpOpsS, go_sem, recoverD, hu, Try.ntmps40, Exit.thenS]
  apply wpS_seq
  apply wpS_region
  simp [wpOpsS, go_sem, Exit.thenS]
  refine wpS_cond (t := true) (by simp [Act.eval, Array.replicate]) ?_
  simp only [if_true]
  refine wpS_of_wp ?_
  have x0 : w.cell? ⟨X, 0, none⟩ = some a0 := blkR hX rfl
  have x1 : w.cell? ⟨X, 1, none⟩ = some a1 := blkR hX rfl
  have x2 : w.cell? ⟨X, 2, none⟩ = some a2 := blkR hX rfl
  have x3 : w.cell? ⟨X, 3, none⟩ = some a3 := blkR hX rfl
  have x4 : w.cell? ⟨X, 4, none⟩ = some a4 := blkR hX rfl
  have x5 : w.cell? ⟨X, 5, none⟩ = some a5 := blkR hX rfl
  have xf : ∀ i, w.frozen? ⟨X, i, none⟩ = false := fun i => hX.frozen i
  have n0 : w.cell? ⟨N, 0, none⟩ = some n := blkR hN rfl
  have nf : w.frozen? ⟨N, 0, none⟩ = false := hN.frozen 0
  have e0 : w.cell? ⟨E, 0, none⟩ = some e := blkR hE rfl
  have ef : w.frozen? ⟨E, 0, none⟩ = false := hE.frozen 0
  obtain ⟨d1, d2, d3⟩ := hd
  change Code.wp _ _ _ { tmps := #[.pointer (some ⟨X, 0, none⟩), .pointer (some ⟨N, 0, none⟩), .pointer (some ⟨E, 0, none⟩), .iface 28 (.int .i64 z), .iface 28 (.int .i64 z), .iface 28 (.int .i64 z), .bool true, undef, undef, undef], defers := [] } w
  have tas := as28
  have LL := set8 hX hN hE ⟨d1, d2, d3⟩ (.int .i64 0) (.bool false) (.int .i64 0) (.string ⟨#[]⟩) (.slice none 0 0) (.slice none 0 0) (.int .i64 0) (.int .i64 z) rfl
  go_region_law fail
  all_goals exact ⟨rfl, _, rfl, _, results_none rfl _ _ _, rfl, rfl, LL.1.drewN 1, LL.2.1.drewN 1, LL.2.2.1.drewN 1, Only.drewN LL.2.2.2 1⟩
theorem catch_i (X N E : Addr) (w : World) :
    CallsD Try.prog 40 #[.pointer (some X), .pointer (some N), .pointer (some E)] .returning w fun e u' w' => e = .returned (.tuple #[]) ∧ u' = .returning ∧ w' = w := by
  refine callsD_of_wpS Try.func40 rfl fun c₀ cs hu => ?_
  apply wpS_seq
  apply wpS_region
  simp [wpOpsS, go_sem, recoverD, hu, Try.ntmps40, Exit.thenS]
  apply wpS_seq
  apply wpS_region
  simp [wpOpsS, go_sem, Exit.thenS]
  refine wpS_cond (t := false) (by simp [Act.eval, Array.replicate]) ?_
  simp only [Bool.false_eq_true, if_false]
  refine wpS_of_wp (wp_skip ?_)
  cases c₀
  simp_all [bodyPostS, results, Try.results40]
theorem load3 {w : World} {b : Nat} {u : Value} (h : Blk w b 3 #[u]) : (loadVar 3 ⟨b, 0, none⟩).run Try.prog w = .ok u w := by
  have h0 : w.cell? ⟨b, 0, none⟩ = some u := blkR h rfl
  simp [loadVar, go_sem, h0]
theorem load28 {w : World} {b : Nat} {u : Value} (h : Blk w b 28 #[u]) : (loadVar 28 ⟨b, 0, none⟩).run Try.prog w = .ok u w := by
  have h0 : w.cell? ⟨b, 0, none⟩ = some u := blkR h rfl
  simp [loadVar, go_sem, h0]
def DecP (R : Rd) (w : World) (e : Ending) (w' : World) : Prop := ∃ cs, Below w.heap.size w w' ∧ match R with
  | .ok (v, at', _) => e = .returned (.tuple #[.agg cs, .int .i64 (at' : Int), .int .i64 0]) ∧ IsV w' (fun b => w.heap.size ≤ b) v cs
  | .error z => e = .returned (.tuple #[.agg cs, .int .i64 0, .int .i64 z]) ∧ cs = nulCells
theorem results_cell3 {P : Program} {fn : Func} {p q r : Tmp} {ty ty2 ty3 : TypeId} (h : fn.results = #[.cell p ty, .cell q ty2, .cell r ty3]) (tmps : Array Value) (w : World) (g b2 b3 : Nat) (t t2 t3 : TypeId) (cs : Array Value) (d : TypeDesc) (u2 u3 : Value)
    (hp : tmps.getD p undef = .pointer (some ⟨g, 0, none⟩)) (hg : Blk w g t cs)
    (hu : P.underlying ty = some d) (hd : (match d with | .struct _ | .array _ _ => true | _ => false) = true) (hi : (P.info? ty).map (·.size) = some cs.size)
    (hq : tmps.getD q undef = .pointer (some ⟨b2, 0, none⟩)) (h2 : (loadVar ty2 ⟨b2, 0, none⟩).run P w = .ok u2 w)
    (hr : tmps.getD r undef = .pointer (some ⟨b3, 0, none⟩)) (h3 : (loadVar ty3 ⟨b3, 0, none⟩).run P w = .ok u3 w) :
    (results fn tmps).run P w = .ok (.tuple #[.agg cs, u2, u3]) w := by
  have e : (results fn tmps).run P w = ((asAddr (tmps.getD p undef)).run P w).andThen fun a w₁ => ((loadVar ty a).run P w₁).andThen fun u1 w₂ => ((asAddr (tmps.getD q undef)).run P w₂).andThen fun a2 w₃ => ((loadVar ty2 a2).run P w₃).andThen fun u2 w₄ => ((asAddr (tmps.getD r undef)).run P w₄).andThen fun a3 w₅ => ((loadVar ty3 a3).run P w₅).andThen fun u3 w₆ => .ok (.tuple #[u1, u2, u3]) w₆ := by
    simp only [results, h]
    simp [Sem.run_bind, Result.andThen]
  rw [e, hp, hq, hr]
  simp [asAddr, run_loadVar_row w g t ty cs (0, 0) d hg hu hd hi, Result.andThen, h2, h3]
set_option maxHeartbeats 1000000 in
theorem decode_any {w : World} {A : Option Addr} {n c : Nat} {bs : List UInt8} (hr : Reads w 0 w.heap.size 1 A n (bs.map B8)) (hc : n ≤ c ∧ c ≤ 9223372036854775807) :
    Calls Try.prog 19 #[.slice A n c] w fun e w' => DecP (dec bs) w e w' := by
  have hmf : ∀ (fn : Fn) (first cap : Array Value) (w : World), (Instr.makeFunc fn first cap).run Try.prog w = .ok (.func fn first cap) w := fun _ _ _ _ => rfl
  have X0 := (((Blk.new w 25 nulCells).alloc (.cells #[.int .i64 0] 3)).alloc (.cells #[.int .i64 0] 28)).alloc (.cells #[.slice A n c, .int .i64 0, .int .i64 0] 66)
  have N0 := ((Blk.new (w.alloc (.cells nulCells 25)) 3 #[.int .i64 0]).alloc (.cells #[.int .i64 0] 28)).alloc (.cells #[.slice A n c, .int .i64 0, .int .i64 0] 66)
  have E0 := (Blk.new ((w.alloc (.cells nulCells 25)).alloc (.cells #[.int .i64 0] 3)) 28 #[.int .i64 0]).alloc (.cells #[.slice A n c, .int .i64 0, .int .i64 0] 66)
  have G0 := Blk.new (((w.alloc (.cells nulCells 25)).alloc (.cells #[.int .i64 0] 3)).alloc (.cells #[.int .i64 0] 28)) 66 #[.slice A n c, .int .i64 0, .int .i64 0]
  have B0 := ((((Below.refl w.heap.size w).alloc (Nat.le_refl _) (.cells nulCells 25)).alloc (by simp) (.cells #[.int .i64 0] 3)).alloc (by simp; omega) (.cells #[.int .i64 0] 28)).alloc (by simp; omega) (.cells #[.slice A n c, .int .i64 0, .int .i64 0] 66)
  have hsz : ((((w.alloc (.cells nulCells 25)).alloc (.cells #[.int .i64 0] 3)).alloc (.cells #[.int .i64 0] 28)).alloc (.cells #[.slice A n c, .int .i64 0, .int .i64 0] 66)).heap.size = w.heap.size + 4 := by simp
  simp only [World.size_alloc, nulCells] at X0 N0 E0 G0 B0
  simp only [nulCells] at hsz
  go_enter_defers Try.func19, Try.ntmps19
  go_wp2_with fail
  generalize ((((w.alloc (.cells #[.int .i64 0, .bool false, .int .i64 0, .string ⟨#[]⟩, .slice none 0 0, .slice none 0 0] 25)).alloc (.cells #[.int .i64 0] 3)).alloc (.cells #[.int .i64 0] 28)).alloc (.cells #[.slice A n c, .int .i64 0, .int .i64 0] 66)) = W at X0 N0 E0 G0 B0 hsz ⊢
  have hRS : RS W (w.heap.size + 1 + 1 + 1) A n c bs 0 0 := ⟨G0, hr.below B0 (Nat.le_refl _) |> fun h => Reads.more h (Nat.le_refl _) (by omega), Nat.zero_le _, hc.1, hc.2⟩
  refine (value_any 32 (Nat.le_refl _) hRS (by omega)).mono ?_
  intro e w5 he
  have hdec : dec bs = rd bs 32 0 0 := rfl
  cases hv : rd bs 32 0 0 with
  | error z =>
    rw [hv] at he hdec
    obtain ⟨he, ht⟩ := he
    rw [show Pan z = .panicked [{ v := .iface 28 (.int .i64 z), recovered := false }] from rfl] at he
    subst he
    have X1 := X0.only ht (by omega)
    have N1 := N0.only ht (by omega)
    have E1 := E0.only ht (by omega)
    go_wp2_with fail
    refine leaves_cons (f := 40) (args := #[.pointer (some ⟨w.heap.size, 0, none⟩), .pointer (some ⟨w.heap.size + 1, 0, none⟩), .pointer (some ⟨w.heap.size + 1 + 1, 0, none⟩)]) (by simp) (by simp [go_sem]) ?_
    refine (catch_p X1 N1 E1 ⟨by omega, by omega, by omega⟩).mono ?_
    rintro e u' w6 ⟨rfl, rfl, X2, N2, E2, O2⟩
    refine ⟨_, results_cell3 rfl _ _ _ _ _ 25 3 28 _ _ _ _ rfl X2 Try.underlying25 rfl (by kernel_rfl) rfl (load3 N2) rfl (load28 E2), nulCells, ?_, ?_⟩
    · have hs5 := ht.size
      exact (B0.trans (Only.below ht (B := w.heap.size) (by intro k _ e; have e : k = _ := e; omega) (by omega))).trans (O2.below (B := w.heap.size) (by rintro k _ (e | e | e) <;> omega) (by omega))
    · rw [hdec]
      exact ⟨rfl, rfl⟩
  | ok q =>
    obtain ⟨v, at', q⟩ := q
    rw [hv] at he hdec
    obtain ⟨cs, rfl, hV, hR, ht⟩ := he
    obtain ⟨k2, bb2, m2, s2, AL2, nL2, cL2, AK2, nK2, cK2, rfl⟩ := hV.shape
    have X1 := X0.only ht (by omega)
    have N1 := N0.only ht (by omega)
    have E1 := E0.only ht (by omega)
    have x0 : w5.cell? ⟨w.heap.size, 0, none⟩ = _ := blkR X1 rfl
    have x1 : w5.cell? ⟨w.heap.size, 1, none⟩ = _ := blkR X1 rfl
    have x2 : w5.cell? ⟨w.heap.size, 2, none⟩ = _ := blkR X1 rfl
    have x3 : w5.cell? ⟨w.heap.size, 3, none⟩ = _ := blkR X1 rfl
    have x4 : w5.cell? ⟨w.heap.size, 4, none⟩ = _ := blkR X1 rfl
    have x5 : w5.cell? ⟨w.heap.size, 5, none⟩ = _ := blkR X1 rfl
    have xf : ∀ i, w5.frozen? ⟨w.heap.size, i, none⟩ = false := fun i => X1.frozen i
    go_wp2_with fail
    have X2 := set6 X1 (.int .i64 k2) (.bool bb2) (.int .i64 m2) (.string s2) (.slice AL2 nL2 cL2) (.slice AK2 nK2 cK2)
    have O2 := only6 (Only.refl (fun b => b = w.heap.size) w5) (.inl rfl) (.int .i64 k2) (.bool bb2) (.int .i64 m2) (.string s2) (.slice AL2 nL2 cL2) (.slice AK2 nK2 cK2)
    have N2 := N1.only O2 (by omega)
    have E2 := E1.only O2 (by omega)
    have G2 := hR.blk.only O2 (by omega)
    have V2 := hV.only O2 (by intro b hb e; have hb : W.heap.size ≤ b := hb; have e : b = w.heap.size := e; omega)
    generalize ((((((w5.setCell ⟨w.heap.size, 0, none⟩ (.int .i64 k2)).setCell ⟨w.heap.size, 1, none⟩ (.bool bb2)).setCell ⟨w.heap.size, 2, none⟩ (.int .i64 m2)).setCell ⟨w.heap.size, 3, none⟩ (.string s2)).setCell ⟨w.heap.size, 4, none⟩ (.slice AL2 nL2 cL2)).setCell ⟨w.heap.size, 5, none⟩ (.slice AK2 nK2 cK2)) = W6 at X2 O2 N2 E2 G2 V2 ⊢
    clear x0 x1 x2 x3 x4 x5 xf
    have x0 : W6.cell? ⟨w.heap.size, 0, none⟩ = _ := blkR X2 rfl
    have x1 : W6.cell? ⟨w.heap.size, 1, none⟩ = _ := blkR X2 rfl
    have x2 : W6.cell? ⟨w.heap.size, 2, none⟩ = _ := blkR X2 rfl
    have x3 : W6.cell? ⟨w.heap.size, 3, none⟩ = _ := blkR X2 rfl
    have x4 : W6.cell? ⟨w.heap.size, 4, none⟩ = _ := blkR X2 rfl
    have x5 : W6.cell? ⟨w.heap.size, 5, none⟩ = _ := blkR X2 rfl
    have xf : ∀ i, W6.frozen? ⟨w.heap.size, i, none⟩ = false := fun i => X2.frozen i
    have g1 : W6.cell? ⟨w.heap.size + 1 + 1 + 1, 1, none⟩ = _ := blkR G2 rfl
    have n0 : W6.cell? ⟨w.heap.size + 1, 0, none⟩ = _ := blkR N2 rfl
    have e0 : W6.cell? ⟨w.heap.size + 1 + 1, 0, none⟩ = _ := blkR E2 rfl
    have nf : W6.frozen? ⟨w.heap.size + 1, 0, none⟩ = false := N2.frozen 0
    have ef : W6.frozen? ⟨w.heap.size + 1 + 1, 0, none⟩ = false := E2.frozen 0
    have LL := set8 X2 N2 E2 ⟨by omega, by omega, by omega⟩ (.int .i64 k2) (.bool bb2) (.int .i64 m2) (.string s2) (.slice AL2 nL2 cL2) (.slice AK2 nK2 cK2) (.int .i64 (at' : Int)) (.int .i64 0) rfl
    refine wp_calm ?_
    go_region_law fail
    all_goals go_wp2_with fail
    all_goals (
      refine leaves_cons (f := 40) (args := #[.pointer (some ⟨w.heap.size, 0, none⟩), .pointer (some ⟨w.heap.size + 1, 0, none⟩), .pointer (some ⟨w.heap.size + 1 + 1, 0, none⟩)]) (by simp) (by simp [go_sem]) ?_
      refine (catch_i _ _ _ _).mono ?_
      rintro e u' w'' ⟨rfl, rfl, rfl⟩)
    all_goals refine ⟨_, results_cell3 rfl _ _ _ _ _ 25 3 28 _ _ _ _ rfl (LL.1.drewN 1) Try.underlying25 rfl (by kernel_rfl) rfl (load3 (LL.2.1.drewN 1)) rfl (load28 (LL.2.2.1.drewN 1)), #[.int .i64 k2, .bool bb2, .int .i64 m2, .string s2, .slice AL2 nL2 cL2, .slice AK2 nK2 cK2], ?_, ?_⟩
    all_goals first
      | (have hs5 := ht.size
         have hs6 := O2.size
         exact ((B0.trans (Only.below ht (B := w.heap.size) (by intro k _ e; have e : k = _ := e; omega) (by omega))).trans (O2.below (B := w.heap.size) (by intro k _ e; have e : k = _ := e; omega) (by omega))).trans (Only.below (LL.2.2.2.drewN 1) (B := w.heap.size) (by rintro k _ (e | e | e) <;> omega) (by omega)))
      | (rw [hdec]
         refine ⟨rfl, ?_⟩
         refine ((V2.only LL.2.2.2 (by intro b hb; have hb : W.heap.size ≤ b := hb; rintro (e | e | e) <;> omega)).drewN 1).mono ?_
         intro b hb _
         have hb : W.heap.size ≤ b := hb
         show w.heap.size ≤ b
         omega)
end Go.Proofs.Ytaapbiiiepdopaa
