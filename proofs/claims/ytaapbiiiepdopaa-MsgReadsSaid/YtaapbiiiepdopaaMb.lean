/- Messages in memory; msg.parts, msg.whole, msg.text. -/
import Derived.Test.YtaapbiiiepdopaaMa
import Derived.Test.YtaapbiiiepdopaaRv
import Derived.Carry
import Derived.MapKept
namespace Go.Proofs.Ytaapbiiiepdopaa
open Go.RowKit Mem
set_option linter.unusedVariables false

/-- ten cells read as a message -/
def IsM (w : World) (S : Nat → Prop) (m : M) (cs : Array Value) : Prop := ∃ k b n s AL nL cL AK nK cK,
  cs = #[.int .i64 m.k, .string m.s, .string m.t, .int .i64 m.n, .int .i64 k, .bool b, .int .i64 n, .string s, .slice AL nL cL, .slice AK nK cK] ∧
  IsV w S m.v #[.int .i64 k, .bool b, .int .i64 n, .string s, .slice AL nL cL, .slice AK nK cK] ∧
  (-9223372036854775808 ≤ m.k ∧ m.k ≤ 9223372036854775807 ∧ -9223372036854775808 ≤ m.n ∧ m.n ≤ 9223372036854775807 ∧ m.s.size ≤ 9223372036854775807 ∧ m.t.size ≤ 9223372036854775807)
section
variable {w w' : World} {S S' : Nat → Prop} {m : M} {cs : Array Value}
theorem IsM.keep (h : IsM w S m cs) (hk : ∀ b, S b → b < w.heap.size → w'.heap[b]? = w.heap[b]?) (hs : ∀ b, S b → b < w.heap.size → S' b) : IsM w' S' m cs := by
  obtain ⟨k, b, n, s, AL, nL, cL, AK, nK, cK, e, h1, h2⟩ := h
  exact ⟨k, b, n, s, AL, nL, cL, AK, nK, cK, e, h1.keep hk hs, h2⟩
theorem IsM.mono (h : IsM w S m cs) (hs : ∀ b, S b → b < w.heap.size → S' b) : IsM w S' m cs := h.keep (fun _ _ _ => rfl) hs
theorem IsM.grow (h : IsM w S m cs) (hb : Below w.heap.size w w') : IsM w' S m cs := h.keep (fun b _ h => hb.block b h) (fun _ h _ => h)
theorem IsM.below {B : Nat} (h : IsM w S m cs) (hb : Below B w w') (hS : ∀ b, S b → b < B) : IsM w' S m cs := h.keep (fun b h1 _ => hb.block b (hS b h1)) (fun _ h _ => h)
theorem IsM.only {T : Nat → Prop} (h : IsM w S m cs) (hb : Only T w w') (hS : ∀ b, S b → ¬ T b) : IsM w' S m cs := h.keep (fun b h1 h2 => hb.block b h2 (hS b h1)) (fun _ h _ => h)
theorem IsM.drewN (h : IsM w S m cs) (n : Nat) : IsM (w.drewN n) S m cs := h.keep (fun _ _ _ => rfl) (fun _ h _ => h)
theorem IsM.alloc (h : IsM w S m cs) (o : Obj) : IsM (w.alloc o) S m cs := h.keep (fun b _ hb => Below.heap_alloc _ _ _ hb) (fun _ h _ => h)
theorem IsM.wf (h : IsM w S m cs) : wfM m := by
  obtain ⟨k, b, n, s, AL, nL, cL, AK, nK, cK, e, h1, h2⟩ := h
  exact ⟨⟨h2.1, h2.2.1⟩, ⟨h2.2.2.1, h2.2.2.2.1⟩, h2.2.2.2.2.1, h2.2.2.2.2.2, h1.wf⟩
/-- the value of a message in a block of its own -/
theorem IsM.ten (h : IsM w S m cs) : ∃ mk ms mt mn k b n s AL nL cL AK nK cK, cs = #[.int .i64 mk, .string ms, .string mt, .int .i64 mn, .int .i64 k, .bool b, .int .i64 n, .string s, .slice AL nL cL, .slice AK nK cK] := by
  obtain ⟨k, b, n, s, AL, nL, cL, AK, nK, cK, e, _⟩ := h
  exact ⟨_, _, _, _, k, b, n, s, AL, nL, cL, AK, nK, cK, e⟩
end

/-! ## msg.parts -/
theorem map_new {w : World} {b clock : Nat} {es : Array MapEntry} (k v : Int) (hb : w.heap[b]? = some (.map es clock)) (hf : Instr.findNow (.int .i64) (.int .i64 k) es.toList 0 = some none) :
    ∃ w', (Instr.mapUpdate 99 (.map (some b)) (.int .i64 k) (.int .i64 v)).run Try.prog w = .ok () w' ∧ w'.heap[b]? = some (.map (es.push { key := .int .i64 k, val := .int .i64 v, born := clock }) (clock + 1)) ∧ Only (fun x => x = b) w w' := by
  have hlt : b < w.heap.size := (Array.getElem?_eq_some_iff.1 hb).1
  have hc : (Instr.checkKey false 10000 3 (.int .i64 k)).run Try.prog w = .ok () w := MapKept.run_checkKey (k := .int .i64 k) Try.underlying3 (by simp [MapKept.IsKey]) false 9999
  refine ⟨{ w with heap := w.heap.setIfInBounds b (.map (es.push { key := .int .i64 k, val := .int .i64 v, born := clock }) (clock + 1)) }, ?_, ?_, ?_⟩
  · simp [Instr.mapUpdate, run_underlying Try.underlying99, MapKept.run_getObj_map hb, hc, MapKept.run_findKey Try.underlying3 hf, MapKept.run_setObj_map _ hb, Result.andThen]
  · simp [hlt]
  · refine ⟨rfl, rfl, rfl, by simp, fun k hk hn => ?_⟩
    rw [Array.getElem?_setIfInBounds_ne (fun e => hn e.symm)]
theorem look_some {w : World} {b clock i : Nat} {es : Array MapEntry} {k : Int} {v : Value} (hb : w.heap[b]? = some (.map es clock)) (hf : Instr.findNow (.int .i64) (.int .i64 k) es.toList 0 = some (some (i, v))) :
    (Instr.lookup 99 (.map (some b)) (.int .i64 k) true).run Try.prog w = .ok (.tuple #[v, .bool true]) w := by
  have hc : (Instr.checkKey es.isEmpty 10000 3 (.int .i64 k)).run Try.prog w = .ok () w := MapKept.run_checkKey (k := .int .i64 k) Try.underlying3 (by simp [MapKept.IsKey]) _ 9999
  simp [Instr.lookup, run_underlying Try.underlying99, MapKept.run_getObj_map hb, hc, MapKept.run_findKey Try.underlying3 hf, Result.andThen]
theorem look_none {w : World} {b clock : Nat} {es : Array MapEntry} {k : Int} (hb : w.heap[b]? = some (.map es clock)) (hf : Instr.findNow (.int .i64) (.int .i64 k) es.toList 0 = some none) :
    (Instr.lookup 99 (.map (some b)) (.int .i64 k) true).run Try.prog w = .ok (.tuple #[.int .i64 0, .bool false]) w := by
  have hc : (Instr.checkKey es.isEmpty 10000 3 (.int .i64 k)).run Try.prog w = .ok () w := MapKept.run_checkKey (k := .int .i64 k) Try.underlying3 (by simp [MapKept.IsKey]) _ 9999
  have hz : (zeroValue 74).run Try.prog w = .ok (.int .i64 0) w := by kernel_rfl
  simp [Instr.lookup, run_underlying Try.underlying99, MapKept.run_getObj_map hb, hc, MapKept.run_findKey Try.underlying3 hf, hz, Result.andThen]
def kinds : List MapEntry := [{ key := .int .i64 1, val := .int .i64 1, born := 0 }, { key := .int .i64 2, val := .int .i64 0, born := 1 }, { key := .int .i64 3, val := .int .i64 2, born := 2 }, { key := .int .i64 4, val := .int .i64 3, born := 3 }, { key := .int .i64 5, val := .int .i64 0, born := 4 }, { key := .int .i64 6, val := .int .i64 0, born := 5 }, { key := .int .i64 7, val := .int .i64 0, born := 6 }, { key := .int .i64 8, val := .int .i64 0, born := 7 }, { key := .int .i64 16, val := .int .i64 4, born := 8 }, { key := .int .i64 17, val := .int .i64 5, born := 9 }, { key := .int .i64 18, val := .int .i64 6, born := 10 }, { key := .int .i64 19, val := .int .i64 0, born := 11 }]
theorem find_kind (k : Int) : (∃ i, Instr.findNow (.int .i64) (.int .i64 k) kinds 0 = some (some (i, .int .i64 (partK k : Nat))) ∧ knownK k = true) ∨ (Instr.findNow (.int .i64) (.int .i64 k) kinds 0 = some none ∧ knownK k = false ∧ partK k = 0) := by
  by_cases h : k = 1 ∨ k = 2 ∨ k = 3 ∨ k = 4 ∨ k = 5 ∨ k = 6 ∨ k = 7 ∨ k = 8 ∨ k = 16 ∨ k = 17 ∨ k = 18 ∨ k = 19
  · left
    rcases h with rfl | rfl | rfl | rfl | rfl | rfl | rfl | rfl | rfl | rfl | rfl | rfl
    all_goals exact ⟨_, rfl, rfl⟩
  · right
    refine ⟨?_, by unfold knownK; rw [decide_eq_false_iff_not]; omega, by unfold partK; rw [if_neg (by omega), if_neg (by omega), if_neg (by omega), if_neg (by omega), if_neg (by omega), if_neg (by omega)]⟩
    have e : ∀ c : Int, ¬ k = c → Instr.sameNow (.int .i64) (.int .i64 k) (.int .i64 c) = some false := fun c hc => by show (if IntKind.i64 = IntKind.i64 then some (k == c) else none) = some false; simp [hc]
    unfold kinds
    simp only [not_or] at h
    simp only [Instr.findNow, e _ h.1, e _ h.2.1, e _ h.2.2.1, e _ h.2.2.2.1, e _ h.2.2.2.2.1, e _ h.2.2.2.2.2.1, e _ h.2.2.2.2.2.2.1, e _ h.2.2.2.2.2.2.2.1, e _ h.2.2.2.2.2.2.2.2.1, e _ h.2.2.2.2.2.2.2.2.2.1, e _ h.2.2.2.2.2.2.2.2.2.2.1, e _ h.2.2.2.2.2.2.2.2.2.2.2]
set_option maxHeartbeats 1000000 in
theorem parts_any (k : Int) (w : World) : Calls Try.prog 47 #[.int .i64 k] w fun e w' => e = .returned (.tuple #[.int .i64 (partK k : Nat), .bool (knownK k)]) ∧ Below w.heap.size w w' := by
  have hmm := @run_makeMap Try.prog
  have h0 : (w.alloc (.map #[] 0)).heap[w.heap.size]? = some (.map #[] 0) := heap_alloc_new w _
  have B0 := (Below.refl w.heap.size w).alloc (Nat.le_refl _) (.map #[] 0)
  obtain ⟨w1, r1, h1, o1⟩ := map_new 1 1 h0 rfl
  obtain ⟨w2, r2, h2, o2⟩ := map_new 2 0 h1 rfl
  obtain ⟨w3, r3, h3, o3⟩ := map_new 3 2 h2 rfl
  obtain ⟨w4, r4, h4, o4⟩ := map_new 4 3 h3 rfl
  obtain ⟨w5, r5, h5, o5⟩ := map_new 5 0 h4 rfl
  obtain ⟨w6, r6, h6, o6⟩ := map_new 6 0 h5 rfl
  obtain ⟨w7, r7, h7, o7⟩ := map_new 7 0 h6 rfl
  obtain ⟨w8, r8, h8, o8⟩ := map_new 8 0 h7 rfl
  obtain ⟨w9, r9, h9, o9⟩ := map_new 16 4 h8 rfl
  obtain ⟨w10, r10, h10, o10⟩ := map_new 17 5 h9 rfl
  obtain ⟨w11, r11, h11, o11⟩ := map_new 18 6 h10 rfl
  obtain ⟨w12, r12, h12, o12⟩ := map_new 19 0 h11 rfl
  have O := (((((((((((o1.trans o2 (fun _ _ h => h)).trans o3 (fun _ _ h => h)).trans o4 (fun _ _ h => h)).trans o5 (fun _ _ h => h)).trans o6 (fun _ _ h => h)).trans o7 (fun _ _ h => h)).trans o8 (fun _ _ h => h)).trans o9 (fun _ _ h => h)).trans o10 (fun _ _ h => h)).trans o11 (fun _ _ h => h)).trans o12 (fun _ _ h => h))
  have HB := hide (B0.trans (O.below (B := w.heap.size) (by intro b _ e; have e : b = w.heap.size := e; omega) B0.size))
  have hlk : ∃ (P : Int) (B : Bool), (Instr.lookup 99 (.map (some w.heap.size)) (.int .i64 k) true).run Try.prog w12 = .ok (.tuple #[.int .i64 P, .bool B]) w12 ∧ P = (partK k : Nat) ∧ B = knownK k := by
    rcases find_kind k with ⟨i, h, hk⟩ | ⟨h, hk, hp⟩
    · exact ⟨_, true, look_some h12 h, rfl, hk.symm⟩
    · exact ⟨0, false, look_none h12 h, by rw [hp]; rfl, hk.symm⟩
  obtain ⟨P, B, hlk, hP, hB⟩ := hlk
  rw [← hP, ← hB]
  have HP := hide (And.intro hP hB)
  clear hP hB h0 h1 h2 h3 h4 h5 h6 h7 h8 h9 h10 h11 h12 o1 o2 o3 o4 o5 o6 o7 o8 o9 o10 o11 o12 B0 O
  go_enter Try.func47, Try.ntmps47
  go_wp2
  go_ret2
  exact ⟨rfl, HB.out⟩
end Go.Proofs.Ytaapbiiiepdopaa
