/- msg.of. -/
import Derived.Test.YtaapbiiiepdopaaMj
import Derived.Deep.SlicePairs
import Derived.RegionTactic
import Derived.ChangeAlike
namespace Go.Proofs.Ytaapbiiiepdopaa
open Go.RowKit Mem Go.Deep
set_option linter.unusedVariables false

theorem set10 {w : World} {X : Nat} {a0 a1 a2 a3 a4 a5 a6 a7 a8 a9 : Value} (h : Blk w X 41 #[a0, a1, a2, a3, a4, a5, a6, a7, a8, a9]) (b0 b1 b2 b3 b4 b5 b6 b7 b8 b9 : Value) :
    Blk ((((((((((w.setCell ⟨X, 0, none⟩ b0).setCell ⟨X, 1, none⟩ b1).setCell ⟨X, 2, none⟩ b2).setCell ⟨X, 3, none⟩ b3).setCell ⟨X, 4, none⟩ b4).setCell ⟨X, 5, none⟩ b5).setCell ⟨X, 6, none⟩ b6).setCell ⟨X, 7, none⟩ b7).setCell ⟨X, 8, none⟩ b8).setCell ⟨X, 9, none⟩ b9) X 41 #[b0, b1, b2, b3, b4, b5, b6, b7, b8, b9] := by
  have := (((((((((h.set_ 0 b0).set_ 1 b1).set_ 2 b2).set_ 3 b3).set_ 4 b4).set_ 5 b5).set_ 6 b6).set_ 7 b7).set_ 8 b8).set_ 9 b9
  simpa using this
theorem only10 {S : Nat → Prop} {w w' : World} {X : Nat} (h : Only S w w') (hX : S X ∨ w.heap.size ≤ X) (b0 b1 b2 b3 b4 b5 b6 b7 b8 b9 : Value) :
    Only S w ((((((((((w'.setCell ⟨X, 0, none⟩ b0).setCell ⟨X, 1, none⟩ b1).setCell ⟨X, 2, none⟩ b2).setCell ⟨X, 3, none⟩ b3).setCell ⟨X, 4, none⟩ b4).setCell ⟨X, 5, none⟩ b5).setCell ⟨X, 6, none⟩ b6).setCell ⟨X, 7, none⟩ b7).setCell ⟨X, 8, none⟩ b8).setCell ⟨X, 9, none⟩ b9) :=
  (((((((((h.setCell (p := ⟨X, 0, none⟩) hX b0).setCell (p := ⟨X, 1, none⟩) hX b1).setCell (p := ⟨X, 2, none⟩) hX b2).setCell (p := ⟨X, 3, none⟩) hX b3).setCell (p := ⟨X, 4, none⟩) hX b4).setCell (p := ⟨X, 5, none⟩) hX b5).setCell (p := ⟨X, 6, none⟩) hX b6).setCell (p := ⟨X, 7, none⟩) hX b7).setCell (p := ⟨X, 8, none⟩) hX b8).setCell (p := ⟨X, 9, none⟩) hX b9
theorem results_cell2 {P : Program} {fn : Func} {p q : Tmp} {ty : TypeId} (h : fn.results = #[.cell p ty, .tmp q]) (tmps : Array Value) (w : World) (g : Nat) (t : TypeId) (cs : Array Value) (d : TypeDesc)
    (hp : tmps.getD p undef = .pointer (some ⟨g, 0, none⟩)) (hg : Blk w g t cs)
    (hu : P.underlying ty = some d) (hd : (match d with | .struct _ | .array _ _ => true | _ => false) = true) (hi : (P.info? ty).map (·.size) = some cs.size) :
    (results fn tmps).run P w = .ok (.tuple #[.agg cs, tmps.getD q undef]) w := by
  have e : (results fn tmps).run P w = ((asAddr (tmps.getD p undef)).run P w).andThen fun a w₁ => ((loadVar ty a).run P w₁).andThen fun u1 w₂ => .ok (.tuple #[u1, tmps.getD q undef]) w₂ := by
    simp only [results, h]
    simp [Sem.run_bind, Result.andThen]
  rw [e, hp]
  simp [asAddr, run_loadVar_row w g t ty cs (0, 0) d hg hu hd hi, Result.andThen]
theorem run_tail {n c : Nat} {A : Option Addr} (hn : 1 ≤ n) (hc : n ≤ c) (W : World) :
    (Instr.slice 22 (.slice A n c) (some (.int .i64 1)) none none).run Try.prog W = .ok (.slice (if c = 1 then A else A.map (·.add 6)) (n - 1) (c - 1)) W := by
  obtain ⟨i, hi, hz, hsz, hby⟩ := info_parts el22.info
  have he : Try.prog.elem 22 = 25 := by unfold Program.elem; rw [Try.underlying22]
  rw [run_slice_l W 22 A n c (by rw [he]; exact Try.underlying22) .i64 _ (by omega) (by omega), he]
  simp only [sizeOf, typeInfo, Sem.run_bind, Sem.run_pure, Result.andThen]
  simp [sliced, hsz, hi]
def OfP (l : List V) (S : Nat → Prop) (w : World) (e : Ending) (w' : World) : Prop := ∃ (m : M) (cs : Array Value) (b : Bool), e = .returned (.tuple #[.agg cs, .bool b]) ∧ IsM w' (fun b => S b ∧ b < w.heap.size) m cs ∧ Below w.heap.size w w' ∧ ofM l = if b = true then some m else none
theorem OfP_mk {l : List V} {S : Nat → Prop} {w w' : World} {m : M} {b : Bool} {k n k2 m2 : Int} {b2 : Bool} {s t s2 : ByteArray} {AL AK : Option Addr} {nL cL nK cK : Nat} (hb : Below w.heap.size w w') (ho : ofM l = if b = true then some m else none) (hm : wfM m)
    (e1 : m.k = k) (e2 : m.s = s) (e3 : m.t = t) (e4 : m.n = n) (hv : IsV w' (fun b => S b ∧ b < w.heap.size) m.v #[.int .i64 k2, .bool b2, .int .i64 m2, .string s2, .slice AL nL cL, .slice AK nK cK]) :
    OfP l S w (.returned (.tuple #[.agg #[.int .i64 k, .string s, .string t, .int .i64 n, .int .i64 k2, .bool b2, .int .i64 m2, .string s2, .slice AL nL cL, .slice AK nK cK], .bool b])) w' := by
  subst e1 e2 e3 e4
  exact ⟨m, _, b, rfl, ⟨_, _, _, _, _, _, _, _, _, _, rfl, hv, hm.1.1, hm.1.2, hm.2.1.1, hm.2.1.2, hm.2.2.1, hm.2.2.2.1⟩, hb, ho⟩
theorem wf_nul : wf nul := by unfold nul; rw [wf, wfs]; exact ⟨by decide, by decide, trivial⟩
theorem of_no {x : V} {r : List V} (h : ¬ (x.k = 2 ∧ knownK x.n = true)) : ofM (x :: r) = none := by rw [ofM, if_neg h]
theorem of_yes {x : V} {r : List V} {n : Int} (h : x.k = 2) (hn : x.n = n) (hk : knownK n = true) : ofM (x :: r) = ofT n r := by subst hn; rw [ofM, if_pos ⟨h, hk⟩]
theorem bd0 : (-9223372036854775808 : Int) ≤ 0 ∧ (0 : Int) ≤ 9223372036854775807 := by decide
theorem bd1 : (-9223372036854775808 : Int) ≤ 1 ∧ (1 : Int) ≤ 9223372036854775807 := by decide
theorem bd3 : (-9223372036854775808 : Int) ≤ 3 ∧ (3 : Int) ≤ 9223372036854775807 := by decide
theorem bd4 : (-9223372036854775808 : Int) ≤ 4 ∧ (4 : Int) ≤ 9223372036854775807 := by decide
theorem bd16 : (-9223372036854775808 : Int) ≤ 16 ∧ (16 : Int) ≤ 9223372036854775807 := by decide
theorem bd17 : (-9223372036854775808 : Int) ≤ 17 ∧ (17 : Int) ≤ 9223372036854775807 := by decide
theorem bd18 : (-9223372036854775808 : Int) ≤ 18 ∧ (18 : Int) ≤ 9223372036854775807 := by decide
theorem emp9 : ByteArray.empty.size ≤ 9223372036854775807 := by decide
theorem ofT_one {k : Int} {r : List V} (h0 : ¬ partK k = 0) (h2 : ¬ partK k = 2) (hr : ¬ r.length = 1) : ofT k r = none := by
  unfold ofT
  rw [if_neg h0, if_neg h2]
  match r, hr with
  | [], _ => rfl
  | [a], h => exact absurd rfl h
  | _ :: _ :: _, _ => rfl
theorem ofT_two {k : Int} {r : List V} (h2 : partK k = 2) (hr : ¬ r.length = 2) : ofT k r = none := by
  unfold ofT
  rw [if_neg (by omega), if_pos h2]
  match r, hr with
  | [], _ => rfl
  | [_], _ => rfl
  | [a, b], h => exact absurd rfl h
  | _ :: _ :: _ :: _, _ => rfl
theorem wf_nulM : wfM nulM := ⟨by decide, by decide, by decide, by decide, wf_nul⟩
set_option maxHeartbeats 8000000 in
set_option maxRecDepth 100000 in
theorem of_any {l : List V} {w : World} {S : Nat → Prop} {A : Option Addr} {c : Nat} {xs : List Value} (hR0 : RdS w S 6 A l.length xs) (hI0 : IsVs w S l xs) (hc : l.length ≤ c ∧ c ≤ 9223372036854775807) :
    Calls Try.prog 43 #[.slice A l.length c] w fun e w' => OfP l S w e w' := by
  have hR := hR0.keep (S' := fun b => S b ∧ b < w.heap.size) (fun _ _ _ => rfl) (fun b h1 h => ⟨h1, h⟩)
  have hI := hI0.keep (S' := fun b => S b ∧ b < w.heap.size) (fun _ _ _ => rfl) (fun b h1 h => ⟨h1, h⟩)
  clear hR0 hI0
  cases l with
  | nil =>
    have HNO := hide (show ofM [] = if false = true then some nulM else none from rfl)
    rw [show ([] : List V).length = 0 from rfl] at *
    go_enter Try.func43, Try.ntmps43
    go_wp2
    refine bodyPost_ret (results_cell2 rfl _ _ w.heap.size 41 _ _ rfl (Blk.new _ _ _) Try.underlying41 rfl (by kernel_rfl)) rfl ?_
    exact OfP_mk (m := nulM) ((Below.refl w.heap.size w).alloc (Nat.le_refl _) _) HNO.out wf_nulM rfl rfl rfl rfl nulV
  | cons x r =>
    have hlen : (x :: r).length = r.length + 1 := rfl
    obtain ⟨bA, oA, cs, rfl, _, hbA, hV, hcell⟩ := hI.get hR (i := 0) (by simp)
    rw [show (x :: r)[0]'(by simp) = x from rfl] at hV
    obtain ⟨k, b, n, s, AL, nL, cL, AK, nK, cK, rfl⟩ := hV.shape
    have hxk : x.k = k ∧ x.n = n ∧ x.s = s := by
      obtain ⟨k', b', n', s', l', ks'⟩ := x
      rw [IsV] at hV
      obtain ⟨_, _, _, _, _, e, _⟩ := hV
      cases e
      exact ⟨rfl, rfl, rfl⟩
    have hxr : -9223372036854775808 ≤ n ∧ n ≤ 9223372036854775807 := by
      have h := hV.wf
      obtain ⟨k', b', n', s', l', ks'⟩ := x
      rw [wf] at h
      have e : n' = n := hxk.2.1
      rw [← e]
      exact h.1
    have g0 : w.cell? ⟨bA, oA, none⟩ = some (.int .i64 k) := by have := hcell 0 (by decide); simpa using this
    have g0a : ∀ o, (w.alloc o).cell? ⟨bA, oA, none⟩ = some (.int .i64 k) := fun o => by rw [World.cell?_alloc_lt _ _ _ (show bA < _ from hbA)]; exact g0
    have g0b : ∀ o o', ((w.alloc o).alloc o').cell? ⟨bA, oA, none⟩ = some (.int .i64 k) := fun o o' => by rw [World.cell?_alloc_lt _ _ _ (show bA < _ by simp; omega)]; exact g0a o
    have g2 : w.cell? ⟨bA, oA + 2, none⟩ = some (.int .i64 n) := by have := hcell 2 (by decide); simpa using this
    have g2a : ∀ o, (w.alloc o).cell? ⟨bA, oA + 2, none⟩ = some (.int .i64 n) := fun o => by rw [World.cell?_alloc_lt _ _ _ (show bA < _ from hbA)]; exact g2
    have g2b : ∀ o o', ((w.alloc o).alloc o').cell? ⟨bA, oA + 2, none⟩ = some (.int .i64 n) := fun o o' => by rw [World.cell?_alloc_lt _ _ _ (show bA < _ by simp; omega)]; exact g2a o
    have hx1 : (0 : Int) < (r.length : Int) + 1 := by omega
    have hx2 : ((r.length : Int) + 1 == 0) = false := by simp; omega
    have hx3 : ((((r.length + 1 : Nat)) : Int) == 0) = false := by simp; omega
    clear hcell hV
    rw [hlen] at hR hc ⊢
    have HR := hide hR
    have HI := hide hI
    have HXK := hide hxk
    clear hR hI hlen hxk
    by_cases hk : k = 2
    · subst hk
      by_cases hn0 : n < 0
      · have HNO := hide (show ofM (x :: r) = if false = true then some nulM else none from of_no (fun h => by have := h.2; rw [HXK.out.2.1] at this; unfold knownK at this; rw [decide_eq_true_eq] at this; omega))
        have t1 : decide (n < 0) = true := by simp [hn0]
        go_enter Try.func43, Try.ntmps43
        go_wp2
        refine bodyPost_ret (results_cell2 rfl _ _ w.heap.size 41 _ _ rfl (Blk.new _ _ _) Try.underlying41 rfl (by kernel_rfl)) rfl ?_
        exact OfP_mk (m := nulM) ((Below.refl w.heap.size w).alloc (Nat.le_refl _) _) HNO.out wf_nulM rfl rfl rfl rfl nulV
      · by_cases hn99 : 99 < n
        · have HNO := hide (show ofM (x :: r) = if false = true then some nulM else none from of_no (fun h => by have := h.2; rw [HXK.out.2.1] at this; unfold knownK at this; rw [decide_eq_true_eq] at this; omega))
          have t1 : decide (n < 0) = false := by simp; omega
          have t2 : decide (99 < n) = true := by simp [hn99]
          go_enter Try.func43, Try.ntmps43
          go_wp2
          refine bodyPost_ret (results_cell2 rfl _ _ w.heap.size 41 _ _ rfl (Blk.new _ _ _) Try.underlying41 rfl (by kernel_rfl)) rfl ?_
          exact OfP_mk (m := nulM) ((Below.refl w.heap.size w).alloc (Nat.le_refl _) _) HNO.out wf_nulM rfl rfl rfl rfl nulV
        · have t1 : decide (n < 0) = false := by simp; omega
          have t2 : decide (99 < n) = false := by simp; omega
          have h0n : 0 ≤ n := by omega
          have hle99 : n ≤ 99 := by omega
          clear hn0 hn99
          have hsl := run_tail (A := some ⟨bA, oA, none⟩) (n := r.length + 1) (c := c) (by omega) hc.1
          rw [Nat.add_sub_cancel] at hsl
          generalize hT : (if c = 1 then (some (⟨bA, oA, none⟩ : Addr)) else (some (⟨bA, oA, none⟩ : Addr)).map (·.add 6)) = TA at hsl
          obtain ⟨o1, ho1⟩ : ∃ o1, o1 = oA + 6 := ⟨_, rfl⟩
          have HT := hide (show 0 < r.length → TA = some ⟨bA, o1, none⟩ by
            intro h
            rw [← hT, if_neg (by omega), ho1]
            rfl)
          have HO1 := hide ho1
          clear hT ho1
          obtain ⟨L, hL⟩ : ∃ L, L = r.length := ⟨_, rfl⟩
          have HL := hide hL
          rw [← hL] at hsl hc hx1 hx2 hx3 ⊢
          clear hL
          rcases kind_cases n with rfl | rfl | rfl | rfl | rfl | rfl | h0
          · have hkk : knownK 1 = true := by decide
            have HOT := hide (of_yes (r := r) HXK.out.1 HXK.out.2.1 hkk)
            clear hkk
            by_cases hL1 : L = 1
            · obtain ⟨a, rfl⟩ : ∃ a, r = [a] := by
                match r, HL.out with
                | [a], _ => exact ⟨a, rfl⟩
                | [], h => have : L = 0 := h; omega
                | _ :: _ :: r', h => have : L = r'.length + 1 + 1 := h; omega
              subst hL1
              go_enter Try.func43, Try.ntmps43
              go_wp2_with fail
              refine (show Calls Try.prog 47 #[.int .i64 1] ((w.alloc (.cells #[.int .i64 0, .string ⟨#[]⟩, .string ⟨#[]⟩, .int .i64 0, .int .i64 0, .bool false, .int .i64 0, .string ⟨#[]⟩, .slice none 0 0, .slice none 0 0] 41)).alloc (.cells #[.int .i64 1, .string ⟨#[]⟩, .string ⟨#[]⟩, .int .i64 0, .int .i64 0, .bool false, .int .i64 0, .string ⟨#[]⟩, .slice none 0 0, .slice none 0 0] 41)) (fun e w' => e = .returned (.tuple #[.int .i64 1, .bool true]) ∧ Below ((w.alloc (.cells #[.int .i64 0, .string ⟨#[]⟩, .string ⟨#[]⟩, .int .i64 0, .int .i64 0, .bool false, .int .i64 0, .string ⟨#[]⟩, .slice none 0 0, .slice none 0 0] 41)).alloc (.cells #[.int .i64 1, .string ⟨#[]⟩, .string ⟨#[]⟩, .int .i64 0, .int .i64 0, .bool false, .int .i64 0, .string ⟨#[]⟩, .slice none 0 0, .slice none 0 0] 41)).heap.size ((w.alloc (.cells #[.int .i64 0, .string ⟨#[]⟩, .string ⟨#[]⟩, .int .i64 0, .int .i64 0, .bool false, .int .i64 0, .string ⟨#[]⟩, .slice none 0 0, .slice none 0 0] 41)).alloc (.cells #[.int .i64 1, .string ⟨#[]⟩, .string ⟨#[]⟩, .int .i64 0, .int .i64 0, .bool false, .int .i64 0, .string ⟨#[]⟩, .slice none 0 0, .slice none 0 0] 41)) w') from parts_any 1 _).mono ?_
              rintro e w2 ⟨rfl, hb⟩
              have B0 : Below w.heap.size w ((w.alloc (.cells #[.int .i64 0, .string ⟨#[]⟩, .string ⟨#[]⟩, .int .i64 0, .int .i64 0, .bool false, .int .i64 0, .string ⟨#[]⟩, .slice none 0 0, .slice none 0 0] 41)).alloc (.cells #[.int .i64 1, .string ⟨#[]⟩, .string ⟨#[]⟩, .int .i64 0, .int .i64 0, .bool false, .int .i64 0, .string ⟨#[]⟩, .slice none 0 0, .slice none 0 0] 41)) := ((Below.refl w.heap.size w).alloc (Nat.le_refl _) _).alloc (by simp) _
              have R2 := ((Blk.new w 41 #[.int .i64 0, .string ⟨#[]⟩, .string ⟨#[]⟩, .int .i64 0, .int .i64 0, .bool false, .int .i64 0, .string ⟨#[]⟩, .slice none 0 0, .slice none 0 0]).alloc (.cells #[.int .i64 1, .string ⟨#[]⟩, .string ⟨#[]⟩, .int .i64 0, .int .i64 0, .bool false, .int .i64 0, .string ⟨#[]⟩, .slice none 0 0, .slice none 0 0] 41)).below hb (by simp; omega)
              have N2 : Blk w2 (w.heap.size + 1) 41 #[.int .i64 1, .string ⟨#[]⟩, .string ⟨#[]⟩, .int .i64 0, .int .i64 0, .bool false, .int .i64 0, .string ⟨#[]⟩, .slice none 0 0, .slice none 0 0] := by have := (Blk.new (w.alloc (.cells #[.int .i64 0, .string ⟨#[]⟩, .string ⟨#[]⟩, .int .i64 0, .int .i64 0, .bool false, .int .i64 0, .string ⟨#[]⟩, .slice none 0 0, .slice none 0 0] 41)) 41 #[.int .i64 1, .string ⟨#[]⟩, .string ⟨#[]⟩, .int .i64 0, .int .i64 0, .bool false, .int .i64 0, .string ⟨#[]⟩, .slice none 0 0, .slice none 0 0]).below hb (by simp); simpa using this
              have HRb := hide R2
              have HNb := hide N2
              have HB2 := hide (B0.trans (hb.mono (by simp; omega)))
              clear B0 hb g0 g0a g0b g2 g2a g2b R2 N2
              have z0 : w2.cell? ⟨w.heap.size, 0, none⟩ = some (.int .i64 0) := blkR HRb.out rfl
              have z1 : w2.cell? ⟨w.heap.size, 1, none⟩ = some (.string ⟨#[]⟩) := blkR HRb.out rfl
              have z2 : w2.cell? ⟨w.heap.size, 2, none⟩ = some (.string ⟨#[]⟩) := blkR HRb.out rfl
              have z3 : w2.cell? ⟨w.heap.size, 3, none⟩ = some (.int .i64 0) := blkR HRb.out rfl
              have z4 : w2.cell? ⟨w.heap.size, 4, none⟩ = some (.int .i64 0) := blkR HRb.out rfl
              have z5 : w2.cell? ⟨w.heap.size, 5, none⟩ = some (.bool false) := blkR HRb.out rfl
              have z6 : w2.cell? ⟨w.heap.size, 6, none⟩ = some (.int .i64 0) := blkR HRb.out rfl
              have z7 : w2.cell? ⟨w.heap.size, 7, none⟩ = some (.string ⟨#[]⟩) := blkR HRb.out rfl
              have z8 : w2.cell? ⟨w.heap.size, 8, none⟩ = some (.slice none 0 0) := blkR HRb.out rfl
              have z9 : w2.cell? ⟨w.heap.size, 9, none⟩ = some (.slice none 0 0) := blkR HRb.out rfl
              have zf : ∀ i, w2.frozen? ⟨w.heap.size, i, none⟩ = false := fun i => HRb.out.frozen i
              have y0 : w2.cell? ⟨w.heap.size + 1, 0, none⟩ = some (.int .i64 1) := blkR HNb.out rfl
              have y1 : w2.cell? ⟨w.heap.size + 1, 1, none⟩ = some (.string ⟨#[]⟩) := blkR HNb.out rfl
              have y2 : w2.cell? ⟨w.heap.size + 1, 2, none⟩ = some (.string ⟨#[]⟩) := blkR HNb.out rfl
              have y3 : w2.cell? ⟨w.heap.size + 1, 3, none⟩ = some (.int .i64 0) := blkR HNb.out rfl
              have y4 : w2.cell? ⟨w.heap.size + 1, 4, none⟩ = some (.int .i64 0) := blkR HNb.out rfl
              have y5 : w2.cell? ⟨w.heap.size + 1, 5, none⟩ = some (.bool false) := blkR HNb.out rfl
              have y6 : w2.cell? ⟨w.heap.size + 1, 6, none⟩ = some (.int .i64 0) := blkR HNb.out rfl
              have y7 : w2.cell? ⟨w.heap.size + 1, 7, none⟩ = some (.string ⟨#[]⟩) := blkR HNb.out rfl
              have y8 : w2.cell? ⟨w.heap.size + 1, 8, none⟩ = some (.slice none 0 0) := blkR HNb.out rfl
              have y9 : w2.cell? ⟨w.heap.size + 1, 9, none⟩ = some (.slice none 0 0) := blkR HNb.out rfl
              have yf : ∀ i, w2.frozen? ⟨w.heap.size + 1, i, none⟩ = false := fun i => HNb.out.frozen i
              obtain ⟨b9, o9, cs9, e9, _, hb9, hV', hc9⟩ := HI.out.get HR.out (i := 1) (by simp)
              cases e9
              obtain ⟨k', b', n', s', AL', nL', cL', AK', nK', cK', rfl⟩ := hV'.shape
              have e10 : w2.cell? ⟨bA, o1, none⟩ = some (.int .i64 k') := by rw [show o1 = oA + 1 * 6 + 0 by have := HO1.out; omega]; exact (HB2.out.cell (by exact hb9)).trans (hc9 0 (by decide))
              have e11 : w2.cell? ⟨bA, o1 + 1, none⟩ = some (.bool b') := by rw [show o1 + 1 = oA + 1 * 6 + 1 by have := HO1.out; omega]; exact (HB2.out.cell (by exact hb9)).trans (hc9 1 (by decide))
              have e12 : w2.cell? ⟨bA, o1 + 2, none⟩ = some (.int .i64 n') := by rw [show o1 + 2 = oA + 1 * 6 + 2 by have := HO1.out; omega]; exact (HB2.out.cell (by exact hb9)).trans (hc9 2 (by decide))
              have e13 : w2.cell? ⟨bA, o1 + 3, none⟩ = some (.string s') := by rw [show o1 + 3 = oA + 1 * 6 + 3 by have := HO1.out; omega]; exact (HB2.out.cell (by exact hb9)).trans (hc9 3 (by decide))
              have e14 : w2.cell? ⟨bA, o1 + 4, none⟩ = some (.slice AL' nL' cL') := by rw [show o1 + 4 = oA + 1 * 6 + 4 by have := HO1.out; omega]; exact (HB2.out.cell (by exact hb9)).trans (hc9 4 (by decide))
              have e15 : w2.cell? ⟨bA, o1 + 5, none⟩ = some (.slice AK' nK' cK') := by rw [show o1 + 5 = oA + 1 * 6 + 5 by have := HO1.out; omega]; exact (HB2.out.cell (by exact hb9)).trans (hc9 5 (by decide))
              have HV' := hide hV'
              clear hV' hc9
              have hTA := HT.out (by simp)
              try subst hTA
              have hx_ : a.k = k' ∧ a.n = n' ∧ a.s = s' ∧ -9223372036854775808 ≤ n' ∧ n' ≤ 9223372036854775807 ∧ s'.size ≤ 9223372036854775807 := by
                have hV := HV'.out
                rw [show [x, a][1]'(by simp) = a from rfl] at hV
                obtain ⟨k9, b9, n9, s9, l9, ks9⟩ := a
                rw [IsV] at hV
                obtain ⟨_, _, _, _, _, e, _, hrg, _⟩ := hV
                cases e
                exact ⟨rfl, rfl, rfl, hrg.1, hrg.2.1, hrg.2.2.2.2.1⟩
              have HXA := hide hx_
              clear hx_
              generalize hq : (k' == 3) = q
              have HQ := hide hq
              go_wp2_with fail
              go_region
              clear z0 z1 z2 z3 z4 z5 z6 z7 z8 z9 zf y0 y1 y2 y3 y4 y5 y6 y7 y8 y9 yf e10 e11 e12 e13 e14 e15
              have OB : Only (fun b => b = w.heap.size + 1) w2 (w2.setCell ⟨w.heap.size + 1, 1, none⟩ (.string s')).drew := ((Only.refl (fun b => b = w.heap.size + 1) w2).setCell (p := ⟨w.heap.size + 1, 1, none⟩) (.inl rfl) (.string s')).drew
              have N3 : Blk (w2.setCell ⟨w.heap.size + 1, 1, none⟩ (.string s')).drew (w.heap.size + 1) 41 #[.int .i64 1, .string s', .string ⟨#[]⟩, .int .i64 0, .int .i64 0, .bool false, .int .i64 0, .string ⟨#[]⟩, .slice none 0 0, .slice none 0 0] := by simpa using ((HNb.out).set_ 1 (.string s')).drew
              generalize hW : (w2.setCell ⟨w.heap.size + 1, 1, none⟩ (.string s')).drew = W3 at OB N3 ⊢
              clear hW
              have HR3 := hide (HRb.out.only OB (by omega))
              have HN3 := hide N3
              have HB3 := hide (HB2.out.trans (OB.below (B := w.heap.size) (by intro b _ e; have e : b = w.heap.size + 1 := e; omega) HB2.out.size))
              clear OB N3
              have z0 : W3.cell? ⟨w.heap.size, 0, none⟩ = some (.int .i64 0) := blkR HR3.out rfl
              have z1 : W3.cell? ⟨w.heap.size, 1, none⟩ = some (.string ⟨#[]⟩) := blkR HR3.out rfl
              have z2 : W3.cell? ⟨w.heap.size, 2, none⟩ = some (.string ⟨#[]⟩) := blkR HR3.out rfl
              have z3 : W3.cell? ⟨w.heap.size, 3, none⟩ = some (.int .i64 0) := blkR HR3.out rfl
              have z4 : W3.cell? ⟨w.heap.size, 4, none⟩ = some (.int .i64 0) := blkR HR3.out rfl
              have z5 : W3.cell? ⟨w.heap.size, 5, none⟩ = some (.bool false) := blkR HR3.out rfl
              have z6 : W3.cell? ⟨w.heap.size, 6, none⟩ = some (.int .i64 0) := blkR HR3.out rfl
              have z7 : W3.cell? ⟨w.heap.size, 7, none⟩ = some (.string ⟨#[]⟩) := blkR HR3.out rfl
              have z8 : W3.cell? ⟨w.heap.size, 8, none⟩ = some (.slice none 0 0) := blkR HR3.out rfl
              have z9 : W3.cell? ⟨w.heap.size, 9, none⟩ = some (.slice none 0 0) := blkR HR3.out rfl
              have zf : ∀ i, W3.frozen? ⟨w.heap.size, i, none⟩ = false := fun i => HR3.out.frozen i
              have y0 : W3.cell? ⟨w.heap.size + 1, 0, none⟩ = some (.int .i64 1) := blkR HN3.out rfl
              have y1 : W3.cell? ⟨w.heap.size + 1, 1, none⟩ = some (.string s') := blkR HN3.out rfl
              have y2 : W3.cell? ⟨w.heap.size + 1, 2, none⟩ = some (.string ⟨#[]⟩) := blkR HN3.out rfl
              have y3 : W3.cell? ⟨w.heap.size + 1, 3, none⟩ = some (.int .i64 0) := blkR HN3.out rfl
              have y4 : W3.cell? ⟨w.heap.size + 1, 4, none⟩ = some (.int .i64 0) := blkR HN3.out rfl
              have y5 : W3.cell? ⟨w.heap.size + 1, 5, none⟩ = some (.bool false) := blkR HN3.out rfl
              have y6 : W3.cell? ⟨w.heap.size + 1, 6, none⟩ = some (.int .i64 0) := blkR HN3.out rfl
              have y7 : W3.cell? ⟨w.heap.size + 1, 7, none⟩ = some (.string ⟨#[]⟩) := blkR HN3.out rfl
              have y8 : W3.cell? ⟨w.heap.size + 1, 8, none⟩ = some (.slice none 0 0) := blkR HN3.out rfl
              have y9 : W3.cell? ⟨w.heap.size + 1, 9, none⟩ = some (.slice none 0 0) := blkR HN3.out rfl
              have HOF := hide (show ofM [x, a] = if q = true then some (⟨1, s', .empty, 0, nul⟩ : M) else none from by rw [HOT.out, ← HQ.out]; show (if a.k = 3 then some (⟨1, a.s, .empty, 0, nul⟩ : M) else none) = _; rw [HXA.out.1]; (try rw [HXA.out.2.1]); (try rw [HXA.out.2.2.1]); by_cases h : k' = 3 <;> simp [h])
              have HXE := hide (set10 HR3.out (.int .i64 1) (.string s') (.string ⟨#[]⟩) (.int .i64 0) (.int .i64 0) (.bool false) (.int .i64 0) (.string ⟨#[]⟩) (.slice none 0 0) (.slice none 0 0))
              have OE := only10 (Only.refl (fun b => b = w.heap.size) W3) (.inl rfl) (.int .i64 1) (.string s') (.string ⟨#[]⟩) (.int .i64 0) (.int .i64 0) (.bool false) (.int .i64 0) (.string ⟨#[]⟩) (.slice none 0 0) (.slice none 0 0)
              have BE := HB3.out.trans (OE.below (B := w.heap.size) (by intro b _ e; have e : b = w.heap.size := e; omega) HB3.out.size)
              have HBE := hide BE
              clear OE BE
              go_wp2
              refine bodyPost_ret (results_cell2 rfl _ _ w.heap.size 41 _ _ rfl HXE.out Try.underlying41 rfl (by kernel_rfl)) rfl ?_
              exact OfP_mk HBE.out HOF.out (⟨bd1, bd0, HXA.out.2.2.2.2.2, emp9, wf_nul⟩) rfl rfl rfl rfl (nulV)
            · have tL : ((L : Int) == 1) = false := by simp; omega
              have tL2 : ((L : Int) != 1) = true := by simp; omega
              have HL1 := hide hL1
              clear hL1
              go_enter Try.func43, Try.ntmps43
              go_wp2_with fail
              refine (show Calls Try.prog 47 #[.int .i64 1] ((w.alloc (.cells #[.int .i64 0, .string ⟨#[]⟩, .string ⟨#[]⟩, .int .i64 0, .int .i64 0, .bool false, .int .i64 0, .string ⟨#[]⟩, .slice none 0 0, .slice none 0 0] 41)).alloc (.cells #[.int .i64 1, .string ⟨#[]⟩, .string ⟨#[]⟩, .int .i64 0, .int .i64 0, .bool false, .int .i64 0, .string ⟨#[]⟩, .slice none 0 0, .slice none 0 0] 41)) (fun e w' => e = .returned (.tuple #[.int .i64 1, .bool true]) ∧ Below ((w.alloc (.cells #[.int .i64 0, .string ⟨#[]⟩, .string ⟨#[]⟩, .int .i64 0, .int .i64 0, .bool false, .int .i64 0, .string ⟨#[]⟩, .slice none 0 0, .slice none 0 0] 41)).alloc (.cells #[.int .i64 1, .string ⟨#[]⟩, .string ⟨#[]⟩, .int .i64 0, .int .i64 0, .bool false, .int .i64 0, .string ⟨#[]⟩, .slice none 0 0, .slice none 0 0] 41)).heap.size ((w.alloc (.cells #[.int .i64 0, .string ⟨#[]⟩, .string ⟨#[]⟩, .int .i64 0, .int .i64 0, .bool false, .int .i64 0, .string ⟨#[]⟩, .slice none 0 0, .slice none 0 0] 41)).alloc (.cells #[.int .i64 1, .string ⟨#[]⟩, .string ⟨#[]⟩, .int .i64 0, .int .i64 0, .bool false, .int .i64 0, .string ⟨#[]⟩, .slice none 0 0, .slice none 0 0] 41)) w') from parts_any 1 _).mono ?_
              rintro e w2 ⟨rfl, hb⟩
              have B0 : Below w.heap.size w ((w.alloc (.cells #[.int .i64 0, .string ⟨#[]⟩, .string ⟨#[]⟩, .int .i64 0, .int .i64 0, .bool false, .int .i64 0, .string ⟨#[]⟩, .slice none 0 0, .slice none 0 0] 41)).alloc (.cells #[.int .i64 1, .string ⟨#[]⟩, .string ⟨#[]⟩, .int .i64 0, .int .i64 0, .bool false, .int .i64 0, .string ⟨#[]⟩, .slice none 0 0, .slice none 0 0] 41)) := ((Below.refl w.heap.size w).alloc (Nat.le_refl _) _).alloc (by simp) _
              have R2 := ((Blk.new w 41 #[.int .i64 0, .string ⟨#[]⟩, .string ⟨#[]⟩, .int .i64 0, .int .i64 0, .bool false, .int .i64 0, .string ⟨#[]⟩, .slice none 0 0, .slice none 0 0]).alloc (.cells #[.int .i64 1, .string ⟨#[]⟩, .string ⟨#[]⟩, .int .i64 0, .int .i64 0, .bool false, .int .i64 0, .string ⟨#[]⟩, .slice none 0 0, .slice none 0 0] 41)).below hb (by simp; omega)
              have N2 : Blk w2 (w.heap.size + 1) 41 #[.int .i64 1, .string ⟨#[]⟩, .string ⟨#[]⟩, .int .i64 0, .int .i64 0, .bool false, .int .i64 0, .string ⟨#[]⟩, .slice none 0 0, .slice none 0 0] := by have := (Blk.new (w.alloc (.cells #[.int .i64 0, .string ⟨#[]⟩, .string ⟨#[]⟩, .int .i64 0, .int .i64 0, .bool false, .int .i64 0, .string ⟨#[]⟩, .slice none 0 0, .slice none 0 0] 41)) 41 #[.int .i64 1, .string ⟨#[]⟩, .string ⟨#[]⟩, .int .i64 0, .int .i64 0, .bool false, .int .i64 0, .string ⟨#[]⟩, .slice none 0 0, .slice none 0 0]).below hb (by simp); simpa using this
              have HRb := hide R2
              have HNb := hide N2
              have HB2 := hide (B0.trans (hb.mono (by simp; omega)))
              clear B0 hb g0 g0a g0b g2 g2a g2b R2 N2
              have z0 : w2.cell? ⟨w.heap.size, 0, none⟩ = some (.int .i64 0) := blkR HRb.out rfl
              have z1 : w2.cell? ⟨w.heap.size, 1, none⟩ = some (.string ⟨#[]⟩) := blkR HRb.out rfl
              have z2 : w2.cell? ⟨w.heap.size, 2, none⟩ = some (.string ⟨#[]⟩) := blkR HRb.out rfl
              have z3 : w2.cell? ⟨w.heap.size, 3, none⟩ = some (.int .i64 0) := blkR HRb.out rfl
              have z4 : w2.cell? ⟨w.heap.size, 4, none⟩ = some (.int .i64 0) := blkR HRb.out rfl
              have z5 : w2.cell? ⟨w.heap.size, 5, none⟩ = some (.bool false) := blkR HRb.out rfl
              have z6 : w2.cell? ⟨w.heap.size, 6, none⟩ = some (.int .i64 0) := blkR HRb.out rfl
              have z7 : w2.cell? ⟨w.heap.size, 7, none⟩ = some (.string ⟨#[]⟩) := blkR HRb.out rfl
              have z8 : w2.cell? ⟨w.heap.size, 8, none⟩ = some (.slice none 0 0) := blkR HRb.out rfl
              have z9 : w2.cell? ⟨w.heap.size, 9, none⟩ = some (.slice none 0 0) := blkR HRb.out rfl
              have zf : ∀ i, w2.frozen? ⟨w.heap.size, i, none⟩ = false := fun i => HRb.out.frozen i
              have y0 : w2.cell? ⟨w.heap.size + 1, 0, none⟩ = some (.int .i64 1) := blkR HNb.out rfl
              have y1 : w2.cell? ⟨w.heap.size + 1, 1, none⟩ = some (.string ⟨#[]⟩) := blkR HNb.out rfl
              have y2 : w2.cell? ⟨w.heap.size + 1, 2, none⟩ = some (.string ⟨#[]⟩) := blkR HNb.out rfl
              have y3 : w2.cell? ⟨w.heap.size + 1, 3, none⟩ = some (.int .i64 0) := blkR HNb.out rfl
              have y4 : w2.cell? ⟨w.heap.size + 1, 4, none⟩ = some (.int .i64 0) := blkR HNb.out rfl
              have y5 : w2.cell? ⟨w.heap.size + 1, 5, none⟩ = some (.bool false) := blkR HNb.out rfl
              have y6 : w2.cell? ⟨w.heap.size + 1, 6, none⟩ = some (.int .i64 0) := blkR HNb.out rfl
              have y7 : w2.cell? ⟨w.heap.size + 1, 7, none⟩ = some (.string ⟨#[]⟩) := blkR HNb.out rfl
              have y8 : w2.cell? ⟨w.heap.size + 1, 8, none⟩ = some (.slice none 0 0) := blkR HNb.out rfl
              have y9 : w2.cell? ⟨w.heap.size + 1, 9, none⟩ = some (.slice none 0 0) := blkR HNb.out rfl
              have yf : ∀ i, w2.frozen? ⟨w.heap.size + 1, i, none⟩ = false := fun i => HNb.out.frozen i
              have HOF := hide (show ofM (x :: r) = if false = true then some (⟨1, .empty, .empty, 0, nul⟩ : M) else none from by rw [HOT.out]; exact ofT_one (by decide) (by decide) (fun h => HL1.out (HL.out.trans h)))
              have HXE := hide (set10 HRb.out (.int .i64 1) (.string ⟨#[]⟩) (.string ⟨#[]⟩) (.int .i64 0) (.int .i64 0) (.bool false) (.int .i64 0) (.string ⟨#[]⟩) (.slice none 0 0) (.slice none 0 0))
              have OE := only10 (Only.refl (fun b => b = w.heap.size) w2) (.inl rfl) (.int .i64 1) (.string ⟨#[]⟩) (.string ⟨#[]⟩) (.int .i64 0) (.int .i64 0) (.bool false) (.int .i64 0) (.string ⟨#[]⟩) (.slice none 0 0) (.slice none 0 0)
              have BE := HB2.out.trans (OE.below (B := w.heap.size) (by intro b _ e; have e : b = w.heap.size := e; omega) HB2.out.size)
              have HBE := hide BE
              clear OE BE
              go_wp2
              refine bodyPost_ret (results_cell2 rfl _ _ w.heap.size 41 _ _ rfl HXE.out Try.underlying41 rfl (by kernel_rfl)) rfl ?_
              exact OfP_mk HBE.out HOF.out (⟨bd1, bd0, emp9, emp9, wf_nul⟩) rfl rfl rfl rfl (nulV)
          · have hkk : knownK 3 = true := by decide
            have HOT := hide (of_yes (r := r) HXK.out.1 HXK.out.2.1 hkk)
            clear hkk
            by_cases hL2 : L = 2
            · obtain ⟨a, u, rfl⟩ : ∃ a u, r = [a, u] := by
                match r, HL.out with
                | [a, u], _ => exact ⟨a, u, rfl⟩
                | [], h => have : L = 0 := h; omega
                | [_], h => have : L = 1 := h; omega
                | _ :: _ :: _ :: r', h => have : L = r'.length + 1 + 1 + 1 := h; omega
              subst hL2
              go_enter Try.func43, Try.ntmps43
              go_wp2_with fail
              refine (show Calls Try.prog 47 #[.int .i64 3] ((w.alloc (.cells #[.int .i64 0, .string ⟨#[]⟩, .string ⟨#[]⟩, .int .i64 0, .int .i64 0, .bool false, .int .i64 0, .string ⟨#[]⟩, .slice none 0 0, .slice none 0 0] 41)).alloc (.cells #[.int .i64 3, .string ⟨#[]⟩, .string ⟨#[]⟩, .int .i64 0, .int .i64 0, .bool false, .int .i64 0, .string ⟨#[]⟩, .slice none 0 0, .slice none 0 0] 41)) (fun e w' => e = .returned (.tuple #[.int .i64 2, .bool true]) ∧ Below ((w.alloc (.cells #[.int .i64 0, .string ⟨#[]⟩, .string ⟨#[]⟩, .int .i64 0, .int .i64 0, .bool false, .int .i64 0, .string ⟨#[]⟩, .slice none 0 0, .slice none 0 0] 41)).alloc (.cells #[.int .i64 3, .string ⟨#[]⟩, .string ⟨#[]⟩, .int .i64 0, .int .i64 0, .bool false, .int .i64 0, .string ⟨#[]⟩, .slice none 0 0, .slice none 0 0] 41)).heap.size ((w.alloc (.cells #[.int .i64 0, .string ⟨#[]⟩, .string ⟨#[]⟩, .int .i64 0, .int .i64 0, .bool false, .int .i64 0, .string ⟨#[]⟩, .slice none 0 0, .slice none 0 0] 41)).alloc (.cells #[.int .i64 3, .string ⟨#[]⟩, .string ⟨#[]⟩, .int .i64 0, .int .i64 0, .bool false, .int .i64 0, .string ⟨#[]⟩, .slice none 0 0, .slice none 0 0] 41)) w') from parts_any 3 _).mono ?_
              rintro e w2 ⟨rfl, hb⟩
              have B0 : Below w.heap.size w ((w.alloc (.cells #[.int .i64 0, .string ⟨#[]⟩, .string ⟨#[]⟩, .int .i64 0, .int .i64 0, .bool false, .int .i64 0, .string ⟨#[]⟩, .slice none 0 0, .slice none 0 0] 41)).alloc (.cells #[.int .i64 3, .string ⟨#[]⟩, .string ⟨#[]⟩, .int .i64 0, .int .i64 0, .bool false, .int .i64 0, .string ⟨#[]⟩, .slice none 0 0, .slice none 0 0] 41)) := ((Below.refl w.heap.size w).alloc (Nat.le_refl _) _).alloc (by simp) _
              have R2 := ((Blk.new w 41 #[.int .i64 0, .string ⟨#[]⟩, .string ⟨#[]⟩, .int .i64 0, .int .i64 0, .bool false, .int .i64 0, .string ⟨#[]⟩, .slice none 0 0, .slice none 0 0]).alloc (.cells #[.int .i64 3, .string ⟨#[]⟩, .string ⟨#[]⟩, .int .i64 0, .int .i64 0, .bool false, .int .i64 0, .string ⟨#[]⟩, .slice none 0 0, .slice none 0 0] 41)).below hb (by simp; omega)
              have N2 : Blk w2 (w.heap.size + 1) 41 #[.int .i64 3, .string ⟨#[]⟩, .string ⟨#[]⟩, .int .i64 0, .int .i64 0, .bool false, .int .i64 0, .string ⟨#[]⟩, .slice none 0 0, .slice none 0 0] := by have := (Blk.new (w.alloc (.cells #[.int .i64 0, .string ⟨#[]⟩, .string ⟨#[]⟩, .int .i64 0, .int .i64 0, .bool false, .int .i64 0, .string ⟨#[]⟩, .slice none 0 0, .slice none 0 0] 41)) 41 #[.int .i64 3, .string ⟨#[]⟩, .string ⟨#[]⟩, .int .i64 0, .int .i64 0, .bool false, .int .i64 0, .string ⟨#[]⟩, .slice none 0 0, .slice none 0 0]).below hb (by simp); simpa using this
              have HRb := hide R2
              have HNb := hide N2
              have HB2 := hide (B0.trans (hb.mono (by simp; omega)))
              clear B0 hb g0 g0a g0b g2 g2a g2b R2 N2
              have z0 : w2.cell? ⟨w.heap.size, 0, none⟩ = some (.int .i64 0) := blkR HRb.out rfl
              have z1 : w2.cell? ⟨w.heap.size, 1, none⟩ = some (.string ⟨#[]⟩) := blkR HRb.out rfl
              have z2 : w2.cell? ⟨w.heap.size, 2, none⟩ = some (.string ⟨#[]⟩) := blkR HRb.out rfl
              have z3 : w2.cell? ⟨w.heap.size, 3, none⟩ = some (.int .i64 0) := blkR HRb.out rfl
              have z4 : w2.cell? ⟨w.heap.size, 4, none⟩ = some (.int .i64 0) := blkR HRb.out rfl
              have z5 : w2.cell? ⟨w.heap.size, 5, none⟩ = some (.bool false) := blkR HRb.out rfl
              have z6 : w2.cell? ⟨w.heap.size, 6, none⟩ = some (.int .i64 0) := blkR HRb.out rfl
              have z7 : w2.cell? ⟨w.heap.size, 7, none⟩ = some (.string ⟨#[]⟩) := blkR HRb.out rfl
              have z8 : w2.cell? ⟨w.heap.size, 8, none⟩ = some (.slice none 0 0) := blkR HRb.out rfl
              have z9 : w2.cell? ⟨w.heap.size, 9, none⟩ = some (.slice none 0 0) := blkR HRb.out rfl
              have zf : ∀ i, w2.frozen? ⟨w.heap.size, i, none⟩ = false := fun i => HRb.out.frozen i
              have y0 : w2.cell? ⟨w.heap.size + 1, 0, none⟩ = some (.int .i64 3) := blkR HNb.out rfl
              have y1 : w2.cell? ⟨w.heap.size + 1, 1, none⟩ = some (.string ⟨#[]⟩) := blkR HNb.out rfl
              have y2 : w2.cell? ⟨w.heap.size + 1, 2, none⟩ = some (.string ⟨#[]⟩) := blkR HNb.out rfl
              have y3 : w2.cell? ⟨w.heap.size + 1, 3, none⟩ = some (.int .i64 0) := blkR HNb.out rfl
              have y4 : w2.cell? ⟨w.heap.size + 1, 4, none⟩ = some (.int .i64 0) := blkR HNb.out rfl
              have y5 : w2.cell? ⟨w.heap.size + 1, 5, none⟩ = some (.bool false) := blkR HNb.out rfl
              have y6 : w2.cell? ⟨w.heap.size + 1, 6, none⟩ = some (.int .i64 0) := blkR HNb.out rfl
              have y7 : w2.cell? ⟨w.heap.size + 1, 7, none⟩ = some (.string ⟨#[]⟩) := blkR HNb.out rfl
              have y8 : w2.cell? ⟨w.heap.size + 1, 8, none⟩ = some (.slice none 0 0) := blkR HNb.out rfl
              have y9 : w2.cell? ⟨w.heap.size + 1, 9, none⟩ = some (.slice none 0 0) := blkR HNb.out rfl
              have yf : ∀ i, w2.frozen? ⟨w.heap.size + 1, i, none⟩ = false := fun i => HNb.out.frozen i
              obtain ⟨b9, o9, cs9, e9, _, hb9, hV', hc9⟩ := HI.out.get HR.out (i := 1) (by simp)
              cases e9
              obtain ⟨k', b', n', s', AL', nL', cL', AK', nK', cK', rfl⟩ := hV'.shape
              have e10 : w2.cell? ⟨bA, o1, none⟩ = some (.int .i64 k') := by rw [show o1 = oA + 1 * 6 + 0 by have := HO1.out; omega]; exact (HB2.out.cell (by exact hb9)).trans (hc9 0 (by decide))
              have e11 : w2.cell? ⟨bA, o1 + 1, none⟩ = some (.bool b') := by rw [show o1 + 1 = oA + 1 * 6 + 1 by have := HO1.out; omega]; exact (HB2.out.cell (by exact hb9)).trans (hc9 1 (by decide))
              have e12 : w2.cell? ⟨bA, o1 + 2, none⟩ = some (.int .i64 n') := by rw [show o1 + 2 = oA + 1 * 6 + 2 by have := HO1.out; omega]; exact (HB2.out.cell (by exact hb9)).trans (hc9 2 (by decide))
              have e13 : w2.cell? ⟨bA, o1 + 3, none⟩ = some (.string s') := by rw [show o1 + 3 = oA + 1 * 6 + 3 by have := HO1.out; omega]; exact (HB2.out.cell (by exact hb9)).trans (hc9 3 (by decide))
              have e14 : w2.cell? ⟨bA, o1 + 4, none⟩ = some (.slice AL' nL' cL') := by rw [show o1 + 4 = oA + 1 * 6 + 4 by have := HO1.out; omega]; exact (HB2.out.cell (by exact hb9)).trans (hc9 4 (by decide))
              have e15 : w2.cell? ⟨bA, o1 + 5, none⟩ = some (.slice AK' nK' cK') := by rw [show o1 + 5 = oA + 1 * 6 + 5 by have := HO1.out; omega]; exact (HB2.out.cell (by exact hb9)).trans (hc9 5 (by decide))
              have HV' := hide hV'
              clear hV' hc9
              obtain ⟨b9, o9, cs9, e9, _, hb9, hV2, hc9⟩ := HI.out.get HR.out (i := 2) (by simp)
              cases e9
              obtain ⟨k2, b2, n2, s2, AL2, nL2, cL2, AK2, nK2, cK2, rfl⟩ := hV2.shape
              have e20 : w2.cell? ⟨bA, o1 + 6, none⟩ = some (.int .i64 k2) := by rw [show o1 + 6 = oA + 2 * 6 + 0 by have := HO1.out; omega]; exact (HB2.out.cell (by exact hb9)).trans (hc9 0 (by decide))
              have e21 : w2.cell? ⟨bA, o1 + 6 + 1, none⟩ = some (.bool b2) := by rw [show o1 + 6 + 1 = oA + 2 * 6 + 1 by have := HO1.out; omega]; exact (HB2.out.cell (by exact hb9)).trans (hc9 1 (by decide))
              have e22 : w2.cell? ⟨bA, o1 + 6 + 2, none⟩ = some (.int .i64 n2) := by rw [show o1 + 6 + 2 = oA + 2 * 6 + 2 by have := HO1.out; omega]; exact (HB2.out.cell (by exact hb9)).trans (hc9 2 (by decide))
              have e23 : w2.cell? ⟨bA, o1 + 6 + 3, none⟩ = some (.string s2) := by rw [show o1 + 6 + 3 = oA + 2 * 6 + 3 by have := HO1.out; omega]; exact (HB2.out.cell (by exact hb9)).trans (hc9 3 (by decide))
              have e24 : w2.cell? ⟨bA, o1 + 6 + 4, none⟩ = some (.slice AL2 nL2 cL2) := by rw [show o1 + 6 + 4 = oA + 2 * 6 + 4 by have := HO1.out; omega]; exact (HB2.out.cell (by exact hb9)).trans (hc9 4 (by decide))
              have e25 : w2.cell? ⟨bA, o1 + 6 + 5, none⟩ = some (.slice AK2 nK2 cK2) := by rw [show o1 + 6 + 5 = oA + 2 * 6 + 5 by have := HO1.out; omega]; exact (HB2.out.cell (by exact hb9)).trans (hc9 5 (by decide))
              have HV2 := hide hV2
              clear hV2 hc9
              have hTA := HT.out (by simp)
              try subst hTA
              have hx_ : a.k = k' ∧ a.n = n' ∧ a.s = s' ∧ -9223372036854775808 ≤ n' ∧ n' ≤ 9223372036854775807 ∧ s'.size ≤ 9223372036854775807 := by
                have hV := HV'.out
                rw [show [x, a, u][1]'(by simp) = a from rfl] at hV
                obtain ⟨k9, b9, n9, s9, l9, ks9⟩ := a
                rw [IsV] at hV
                obtain ⟨_, _, _, _, _, e, _, hrg, _⟩ := hV
                cases e
                exact ⟨rfl, rfl, rfl, hrg.1, hrg.2.1, hrg.2.2.2.2.1⟩
              have HXA := hide hx_
              clear hx_
              by_cases hk3 : k' = 3
              · subst hk3
                have HE2 := hide (And.intro e20 (And.intro e21 (And.intro e22 (And.intro e23 (And.intro e24 e25)))))
                go_wp2_with fail
                go_region
                clear z0 z1 z2 z3 z4 z5 z6 z7 z8 z9 zf y0 y1 y2 y3 y4 y5 y6 y7 y8 y9 yf e10 e11 e12 e13 e14 e15 e20 e21 e22 e23 e24 e25
                have OB : Only (fun b => b = w.heap.size + 1) w2 (((((((w2.setCell ⟨w.heap.size + 1, 2, none⟩ (.string s')).setCell ⟨w.heap.size + 1, 4, none⟩ (.int .i64 k2)).setCell ⟨w.heap.size + 1, 5, none⟩ (.bool b2)).setCell ⟨w.heap.size + 1, 6, none⟩ (.int .i64 n2)).setCell ⟨w.heap.size + 1, 7, none⟩ (.string s2)).setCell ⟨w.heap.size + 1, 8, none⟩ (.slice AL2 nL2 cL2)).setCell ⟨w.heap.size + 1, 9, none⟩ (.slice AK2 nK2 cK2)).drew := ((((((((Only.refl (fun b => b = w.heap.size + 1) w2).setCell (p := ⟨w.heap.size + 1, 2, none⟩) (.inl rfl) (.string s')).setCell (p := ⟨w.heap.size + 1, 4, none⟩) (.inl rfl) (.int .i64 k2)).setCell (p := ⟨w.heap.size + 1, 5, none⟩) (.inl rfl) (.bool b2)).setCell (p := ⟨w.heap.size + 1, 6, none⟩) (.inl rfl) (.int .i64 n2)).setCell (p := ⟨w.heap.size + 1, 7, none⟩) (.inl rfl) (.string s2)).setCell (p := ⟨w.heap.size + 1, 8, none⟩) (.inl rfl) (.slice AL2 nL2 cL2)).setCell (p := ⟨w.heap.size + 1, 9, none⟩) (.inl rfl) (.slice AK2 nK2 cK2)).drew
                have N3 : Blk (((((((w2.setCell ⟨w.heap.size + 1, 2, none⟩ (.string s')).setCell ⟨w.heap.size + 1, 4, none⟩ (.int .i64 k2)).setCell ⟨w.heap.size + 1, 5, none⟩ (.bool b2)).setCell ⟨w.heap.size + 1, 6, none⟩ (.int .i64 n2)).setCell ⟨w.heap.size + 1, 7, none⟩ (.string s2)).setCell ⟨w.heap.size + 1, 8, none⟩ (.slice AL2 nL2 cL2)).setCell ⟨w.heap.size + 1, 9, none⟩ (.slice AK2 nK2 cK2)).drew (w.heap.size + 1) 41 #[.int .i64 3, .string ⟨#[]⟩, .string s', .int .i64 0, .int .i64 k2, .bool b2, .int .i64 n2, .string s2, .slice AL2 nL2 cL2, .slice AK2 nK2 cK2] := by simpa using ((((((((HNb.out).set_ 2 (.string s')).set_ 4 (.int .i64 k2)).set_ 5 (.bool b2)).set_ 6 (.int .i64 n2)).set_ 7 (.string s2)).set_ 8 (.slice AL2 nL2 cL2)).set_ 9 (.slice AK2 nK2 cK2)).drew
                generalize hW : (((((((w2.setCell ⟨w.heap.size + 1, 2, none⟩ (.string s')).setCell ⟨w.heap.size + 1, 4, none⟩ (.int .i64 k2)).setCell ⟨w.heap.size + 1, 5, none⟩ (.bool b2)).setCell ⟨w.heap.size + 1, 6, none⟩ (.int .i64 n2)).setCell ⟨w.heap.size + 1, 7, none⟩ (.string s2)).setCell ⟨w.heap.size + 1, 8, none⟩ (.slice AL2 nL2 cL2)).setCell ⟨w.heap.size + 1, 9, none⟩ (.slice AK2 nK2 cK2)).drew = W3 at OB N3 ⊢
                clear hW
                have HR3 := hide (HRb.out.only OB (by omega))
                have HN3 := hide N3
                have HB3 := hide (HB2.out.trans (OB.below (B := w.heap.size) (by intro b _ e; have e : b = w.heap.size + 1 := e; omega) HB2.out.size))
                clear OB N3
                have z0 : W3.cell? ⟨w.heap.size, 0, none⟩ = some (.int .i64 0) := blkR HR3.out rfl
                have z1 : W3.cell? ⟨w.heap.size, 1, none⟩ = some (.string ⟨#[]⟩) := blkR HR3.out rfl
                have z2 : W3.cell? ⟨w.heap.size, 2, none⟩ = some (.string ⟨#[]⟩) := blkR HR3.out rfl
                have z3 : W3.cell? ⟨w.heap.size, 3, none⟩ = some (.int .i64 0) := blkR HR3.out rfl
                have z4 : W3.cell? ⟨w.heap.size, 4, none⟩ = some (.int .i64 0) := blkR HR3.out rfl
                have z5 : W3.cell? ⟨w.heap.size, 5, none⟩ = some (.bool false) := blkR HR3.out rfl
                have z6 : W3.cell? ⟨w.heap.size, 6, none⟩ = some (.int .i64 0) := blkR HR3.out rfl
                have z7 : W3.cell? ⟨w.heap.size, 7, none⟩ = some (.string ⟨#[]⟩) := blkR HR3.out rfl
                have z8 : W3.cell? ⟨w.heap.size, 8, none⟩ = some (.slice none 0 0) := blkR HR3.out rfl
                have z9 : W3.cell? ⟨w.heap.size, 9, none⟩ = some (.slice none 0 0) := blkR HR3.out rfl
                have zf : ∀ i, W3.frozen? ⟨w.heap.size, i, none⟩ = false := fun i => HR3.out.frozen i
                have y0 : W3.cell? ⟨w.heap.size + 1, 0, none⟩ = some (.int .i64 3) := blkR HN3.out rfl
                have y1 : W3.cell? ⟨w.heap.size + 1, 1, none⟩ = some (.string ⟨#[]⟩) := blkR HN3.out rfl
                have y2 : W3.cell? ⟨w.heap.size + 1, 2, none⟩ = some (.string s') := blkR HN3.out rfl
                have y3 : W3.cell? ⟨w.heap.size + 1, 3, none⟩ = some (.int .i64 0) := blkR HN3.out rfl
                have y4 : W3.cell? ⟨w.heap.size + 1, 4, none⟩ = some (.int .i64 k2) := blkR HN3.out rfl
                have y5 : W3.cell? ⟨w.heap.size + 1, 5, none⟩ = some (.bool b2) := blkR HN3.out rfl
                have y6 : W3.cell? ⟨w.heap.size + 1, 6, none⟩ = some (.int .i64 n2) := blkR HN3.out rfl
                have y7 : W3.cell? ⟨w.heap.size + 1, 7, none⟩ = some (.string s2) := blkR HN3.out rfl
                have y8 : W3.cell? ⟨w.heap.size + 1, 8, none⟩ = some (.slice AL2 nL2 cL2) := blkR HN3.out rfl
                have y9 : W3.cell? ⟨w.heap.size + 1, 9, none⟩ = some (.slice AK2 nK2 cK2) := blkR HN3.out rfl
                have HOF := hide (show ofM [x, a, u] = if true = true then some (⟨3, .empty, s', 0, u⟩ : M) else none from by rw [HOT.out]; show (if a.k = 3 then some (⟨3, .empty, a.s, 0, u⟩ : M) else none) = _; rw [HXA.out.1, HXA.out.2.2.1]; simp)
                have HXE := hide (set10 HR3.out (.int .i64 3) (.string ⟨#[]⟩) (.string s') (.int .i64 0) (.int .i64 k2) (.bool b2) (.int .i64 n2) (.string s2) (.slice AL2 nL2 cL2) (.slice AK2 nK2 cK2))
                have OE := only10 (Only.refl (fun b => b = w.heap.size) W3) (.inl rfl) (.int .i64 3) (.string ⟨#[]⟩) (.string s') (.int .i64 0) (.int .i64 k2) (.bool b2) (.int .i64 n2) (.string s2) (.slice AL2 nL2 cL2) (.slice AK2 nK2 cK2)
                have BE := HB3.out.trans (OE.below (B := w.heap.size) (by intro b _ e; have e : b = w.heap.size := e; omega) HB3.out.size)
                have HBE := hide BE
                clear OE BE
                go_wp2
                refine bodyPost_ret (results_cell2 rfl _ _ w.heap.size 41 _ _ rfl HXE.out Try.underlying41 rfl (by kernel_rfl)) rfl ?_
                exact OfP_mk HBE.out HOF.out (⟨bd3, bd0, emp9, HXA.out.2.2.2.2.2, (show wf u from HV2.out.wf)⟩) rfl rfl rfl rfl ((show IsV _ _ u _ from HV2.out.below HBE.out (fun b h => h.2)))
              · have tk : (k' == 3) = false := by simp [hk3]
                have tk2 : (k' != 3) = true := by simp [hk3]
                have HK3 := hide hk3
                clear hk3
                have HOF := hide (show ofM [x, a, u] = if false = true then some (⟨3, .empty, .empty, 0, nul⟩ : M) else none from by rw [HOT.out]; show (if a.k = 3 then some (⟨3, .empty, a.s, 0, u⟩ : M) else none) = _; rw [HXA.out.1, if_neg HK3.out]; rfl)
                have HXE := hide (set10 HRb.out (.int .i64 3) (.string ⟨#[]⟩) (.string ⟨#[]⟩) (.int .i64 0) (.int .i64 0) (.bool false) (.int .i64 0) (.string ⟨#[]⟩) (.slice none 0 0) (.slice none 0 0))
                have OE := only10 (Only.refl (fun b => b = w.heap.size) w2) (.inl rfl) (.int .i64 3) (.string ⟨#[]⟩) (.string ⟨#[]⟩) (.int .i64 0) (.int .i64 0) (.bool false) (.int .i64 0) (.string ⟨#[]⟩) (.slice none 0 0) (.slice none 0 0)
                have BE := HB2.out.trans (OE.below (B := w.heap.size) (by intro b _ e; have e : b = w.heap.size := e; omega) HB2.out.size)
                have HBE := hide BE
                clear OE BE
                go_wp2
                refine bodyPost_ret (results_cell2 rfl _ _ w.heap.size 41 _ _ rfl HXE.out Try.underlying41 rfl (by kernel_rfl)) rfl ?_
                exact OfP_mk HBE.out HOF.out (⟨bd3, bd0, emp9, emp9, wf_nul⟩) rfl rfl rfl rfl (nulV)
            · have tL : ((L : Int) == 2) = false := by simp; omega
              have tL2 : ((L : Int) != 2) = true := by simp; omega
              have HL2 := hide hL2
              clear hL2
              go_enter Try.func43, Try.ntmps43
              go_wp2_with fail
              refine (show Calls Try.prog 47 #[.int .i64 3] ((w.alloc (.cells #[.int .i64 0, .string ⟨#[]⟩, .string ⟨#[]⟩, .int .i64 0, .int .i64 0, .bool false, .int .i64 0, .string ⟨#[]⟩, .slice none 0 0, .slice none 0 0] 41)).alloc (.cells #[.int .i64 3, .string ⟨#[]⟩, .string ⟨#[]⟩, .int .i64 0, .int .i64 0, .bool false, .int .i64 0, .string ⟨#[]⟩, .slice none 0 0, .slice none 0 0] 41)) (fun e w' => e = .returned (.tuple #[.int .i64 2, .bool true]) ∧ Below ((w.alloc (.cells #[.int .i64 0, .string ⟨#[]⟩, .string ⟨#[]⟩, .int .i64 0, .int .i64 0, .bool false, .int .i64 0, .string ⟨#[]⟩, .slice none 0 0, .slice none 0 0] 41)).alloc (.cells #[.int .i64 3, .string ⟨#[]⟩, .string ⟨#[]⟩, .int .i64 0, .int .i64 0, .bool false, .int .i64 0, .string ⟨#[]⟩, .slice none 0 0, .slice none 0 0] 41)).heap.size ((w.alloc (.cells #[.int .i64 0, .string ⟨#[]⟩, .string ⟨#[]⟩, .int .i64 0, .int .i64 0, .bool false, .int .i64 0, .string ⟨#[]⟩, .slice none 0 0, .slice none 0 0] 41)).alloc (.cells #[.int .i64 3, .string ⟨#[]⟩, .string ⟨#[]⟩, .int .i64 0, .int .i64 0, .bool false, .int .i64 0, .string ⟨#[]⟩, .slice none 0 0, .slice none 0 0] 41)) w') from parts_any 3 _).mono ?_
              rintro e w2 ⟨rfl, hb⟩
              have B0 : Below w.heap.size w ((w.alloc (.cells #[.int .i64 0, .string ⟨#[]⟩, .string ⟨#[]⟩, .int .i64 0, .int .i64 0, .bool false, .int .i64 0, .string ⟨#[]⟩, .slice none 0 0, .slice none 0 0] 41)).alloc (.cells #[.int .i64 3, .string ⟨#[]⟩, .string ⟨#[]⟩, .int .i64 0, .int .i64 0, .bool false, .int .i64 0, .string ⟨#[]⟩, .slice none 0 0, .slice none 0 0] 41)) := ((Below.refl w.heap.size w).alloc (Nat.le_refl _) _).alloc (by simp) _
              have R2 := ((Blk.new w 41 #[.int .i64 0, .string ⟨#[]⟩, .string ⟨#[]⟩, .int .i64 0, .int .i64 0, .bool false, .int .i64 0, .string ⟨#[]⟩, .slice none 0 0, .slice none 0 0]).alloc (.cells #[.int .i64 3, .string ⟨#[]⟩, .string ⟨#[]⟩, .int .i64 0, .int .i64 0, .bool false, .int .i64 0, .string ⟨#[]⟩, .slice none 0 0, .slice none 0 0] 41)).below hb (by simp; omega)
              have N2 : Blk w2 (w.heap.size + 1) 41 #[.int .i64 3, .string ⟨#[]⟩, .string ⟨#[]⟩, .int .i64 0, .int .i64 0, .bool false, .int .i64 0, .string ⟨#[]⟩, .slice none 0 0, .slice none 0 0] := by have := (Blk.new (w.alloc (.cells #[.int .i64 0, .string ⟨#[]⟩, .string ⟨#[]⟩, .int .i64 0, .int .i64 0, .bool false, .int .i64 0, .string ⟨#[]⟩, .slice none 0 0, .slice none 0 0] 41)) 41 #[.int .i64 3, .string ⟨#[]⟩, .string ⟨#[]⟩, .int .i64 0, .int .i64 0, .bool false, .int .i64 0, .string ⟨#[]⟩, .slice none 0 0, .slice none 0 0]).below hb (by simp); simpa using this
              have HRb := hide R2
              have HNb := hide N2
              have HB2 := hide (B0.trans (hb.mono (by simp; omega)))
              clear B0 hb g0 g0a g0b g2 g2a g2b R2 N2
              have z0 : w2.cell? ⟨w.heap.size, 0, none⟩ = some (.int .i64 0) := blkR HRb.out rfl
              have z1 : w2.cell? ⟨w.heap.size, 1, none⟩ = some (.string ⟨#[]⟩) := blkR HRb.out rfl
              have z2 : w2.cell? ⟨w.heap.size, 2, none⟩ = some (.string ⟨#[]⟩) := blkR HRb.out rfl
              have z3 : w2.cell? ⟨w.heap.size, 3, none⟩ = some (.int .i64 0) := blkR HRb.out rfl
              have z4 : w2.cell? ⟨w.heap.size, 4, none⟩ = some (.int .i64 0) := blkR HRb.out rfl
              have z5 : w2.cell? ⟨w.heap.size, 5, none⟩ = some (.bool false) := blkR HRb.out rfl
              have z6 : w2.cell? ⟨w.heap.size, 6, none⟩ = some (.int .i64 0) := blkR HRb.out rfl
              have z7 : w2.cell? ⟨w.heap.size, 7, none⟩ = some (.string ⟨#[]⟩) := blkR HRb.out rfl
              have z8 : w2.cell? ⟨w.heap.size, 8, none⟩ = some (.slice none 0 0) := blkR HRb.out rfl
              have z9 : w2.cell? ⟨w.heap.size, 9, none⟩ = some (.slice none 0 0) := blkR HRb.out rfl
              have zf : ∀ i, w2.frozen? ⟨w.heap.size, i, none⟩ = false := fun i => HRb.out.frozen i
              have y0 : w2.cell? ⟨w.heap.size + 1, 0, none⟩ = some (.int .i64 3) := blkR HNb.out rfl
              have y1 : w2.cell? ⟨w.heap.size + 1, 1, none⟩ = some (.string ⟨#[]⟩) := blkR HNb.out rfl
              have y2 : w2.cell? ⟨w.heap.size + 1, 2, none⟩ = some (.string ⟨#[]⟩) := blkR HNb.out rfl
              have y3 : w2.cell? ⟨w.heap.size + 1, 3, none⟩ = some (.int .i64 0) := blkR HNb.out rfl
              have y4 : w2.cell? ⟨w.heap.size + 1, 4, none⟩ = some (.int .i64 0) := blkR HNb.out rfl
              have y5 : w2.cell? ⟨w.heap.size + 1, 5, none⟩ = some (.bool false) := blkR HNb.out rfl
              have y6 : w2.cell? ⟨w.heap.size + 1, 6, none⟩ = some (.int .i64 0) := blkR HNb.out rfl
              have y7 : w2.cell? ⟨w.heap.size + 1, 7, none⟩ = some (.string ⟨#[]⟩) := blkR HNb.out rfl
              have y8 : w2.cell? ⟨w.heap.size + 1, 8, none⟩ = some (.slice none 0 0) := blkR HNb.out rfl
              have y9 : w2.cell? ⟨w.heap.size + 1, 9, none⟩ = some (.slice none 0 0) := blkR HNb.out rfl
              have yf : ∀ i, w2.frozen? ⟨w.heap.size + 1, i, none⟩ = false := fun i => HNb.out.frozen i
              have HOF := hide (show ofM (x :: r) = if false = true then some (⟨3, .empty, .empty, 0, nul⟩ : M) else none from by rw [HOT.out]; exact ofT_two (by decide) (fun h => HL2.out (HL.out.trans h)))
              have HXE := hide (set10 HRb.out (.int .i64 3) (.string ⟨#[]⟩) (.string ⟨#[]⟩) (.int .i64 0) (.int .i64 0) (.bool false) (.int .i64 0) (.string ⟨#[]⟩) (.slice none 0 0) (.slice none 0 0))
              have OE := only10 (Only.refl (fun b => b = w.heap.size) w2) (.inl rfl) (.int .i64 3) (.string ⟨#[]⟩) (.string ⟨#[]⟩) (.int .i64 0) (.int .i64 0) (.bool false) (.int .i64 0) (.string ⟨#[]⟩) (.slice none 0 0) (.slice none 0 0)
              have BE := HB2.out.trans (OE.below (B := w.heap.size) (by intro b _ e; have e : b = w.heap.size := e; omega) HB2.out.size)
              have HBE := hide BE
              clear OE BE
              go_wp2
              refine bodyPost_ret (results_cell2 rfl _ _ w.heap.size 41 _ _ rfl HXE.out Try.underlying41 rfl (by kernel_rfl)) rfl ?_
              exact OfP_mk HBE.out HOF.out (⟨bd3, bd0, emp9, emp9, wf_nul⟩) rfl rfl rfl rfl (nulV)
          · have hkk : knownK 4 = true := by decide
            have HOT := hide (of_yes (r := r) HXK.out.1 HXK.out.2.1 hkk)
            clear hkk
            by_cases hL1 : L = 1
            · obtain ⟨a, rfl⟩ : ∃ a, r = [a] := by
                match r, HL.out with
                | [a], _ => exact ⟨a, rfl⟩
                | [], h => have : L = 0 := h; omega
                | _ :: _ :: r', h => have : L = r'.length + 1 + 1 := h; omega
              subst hL1
              go_enter Try.func43, Try.ntmps43
              go_wp2_with fail
              refine (show Calls Try.prog 47 #[.int .i64 4] ((w.alloc (.cells #[.int .i64 0, .string ⟨#[]⟩, .string ⟨#[]⟩, .int .i64 0, .int .i64 0, .bool false, .int .i64 0, .string ⟨#[]⟩, .slice none 0 0, .slice none 0 0] 41)).alloc (.cells #[.int .i64 4, .string ⟨#[]⟩, .string ⟨#[]⟩, .int .i64 0, .int .i64 0, .bool false, .int .i64 0, .string ⟨#[]⟩, .slice none 0 0, .slice none 0 0] 41)) (fun e w' => e = .returned (.tuple #[.int .i64 3, .bool true]) ∧ Below ((w.alloc (.cells #[.int .i64 0, .string ⟨#[]⟩, .string ⟨#[]⟩, .int .i64 0, .int .i64 0, .bool false, .int .i64 0, .string ⟨#[]⟩, .slice none 0 0, .slice none 0 0] 41)).alloc (.cells #[.int .i64 4, .string ⟨#[]⟩, .string ⟨#[]⟩, .int .i64 0, .int .i64 0, .bool false, .int .i64 0, .string ⟨#[]⟩, .slice none 0 0, .slice none 0 0] 41)).heap.size ((w.alloc (.cells #[.int .i64 0, .string ⟨#[]⟩, .string ⟨#[]⟩, .int .i64 0, .int .i64 0, .bool false, .int .i64 0, .string ⟨#[]⟩, .slice none 0 0, .slice none 0 0] 41)).alloc (.cells #[.int .i64 4, .string ⟨#[]⟩, .string ⟨#[]⟩, .int .i64 0, .int .i64 0, .bool false, .int .i64 0, .string ⟨#[]⟩, .slice none 0 0, .slice none 0 0] 41)) w') from parts_any 4 _).mono ?_
              rintro e w2 ⟨rfl, hb⟩
              have B0 : Below w.heap.size w ((w.alloc (.cells #[.int .i64 0, .string ⟨#[]⟩, .string ⟨#[]⟩, .int .i64 0, .int .i64 0, .bool false, .int .i64 0, .string ⟨#[]⟩, .slice none 0 0, .slice none 0 0] 41)).alloc (.cells #[.int .i64 4, .string ⟨#[]⟩, .string ⟨#[]⟩, .int .i64 0, .int .i64 0, .bool false, .int .i64 0, .string ⟨#[]⟩, .slice none 0 0, .slice none 0 0] 41)) := ((Below.refl w.heap.size w).alloc (Nat.le_refl _) _).alloc (by simp) _
              have R2 := ((Blk.new w 41 #[.int .i64 0, .string ⟨#[]⟩, .string ⟨#[]⟩, .int .i64 0, .int .i64 0, .bool false, .int .i64 0, .string ⟨#[]⟩, .slice none 0 0, .slice none 0 0]).alloc (.cells #[.int .i64 4, .string ⟨#[]⟩, .string ⟨#[]⟩, .int .i64 0, .int .i64 0, .bool false, .int .i64 0, .string ⟨#[]⟩, .slice none 0 0, .slice none 0 0] 41)).below hb (by simp; omega)
              have N2 : Blk w2 (w.heap.size + 1) 41 #[.int .i64 4, .string ⟨#[]⟩, .string ⟨#[]⟩, .int .i64 0, .int .i64 0, .bool false, .int .i64 0, .string ⟨#[]⟩, .slice none 0 0, .slice none 0 0] := by have := (Blk.new (w.alloc (.cells #[.int .i64 0, .string ⟨#[]⟩, .string ⟨#[]⟩, .int .i64 0, .int .i64 0, .bool false, .int .i64 0, .string ⟨#[]⟩, .slice none 0 0, .slice none 0 0] 41)) 41 #[.int .i64 4, .string ⟨#[]⟩, .string ⟨#[]⟩, .int .i64 0, .int .i64 0, .bool false, .int .i64 0, .string ⟨#[]⟩, .slice none 0 0, .slice none 0 0]).below hb (by simp); simpa using this
              have HRb := hide R2
              have HNb := hide N2
              have HB2 := hide (B0.trans (hb.mono (by simp; omega)))
              clear B0 hb g0 g0a g0b g2 g2a g2b R2 N2
              have z0 : w2.cell? ⟨w.heap.size, 0, none⟩ = some (.int .i64 0) := blkR HRb.out rfl
              have z1 : w2.cell? ⟨w.heap.size, 1, none⟩ = some (.string ⟨#[]⟩) := blkR HRb.out rfl
              have z2 : w2.cell? ⟨w.heap.size, 2, none⟩ = some (.string ⟨#[]⟩) := blkR HRb.out rfl
              have z3 : w2.cell? ⟨w.heap.size, 3, none⟩ = some (.int .i64 0) := blkR HRb.out rfl
              have z4 : w2.cell? ⟨w.heap.size, 4, none⟩ = some (.int .i64 0) := blkR HRb.out rfl
              have z5 : w2.cell? ⟨w.heap.size, 5, none⟩ = some (.bool false) := blkR HRb.out rfl
              have z6 : w2.cell? ⟨w.heap.size, 6, none⟩ = some (.int .i64 0) := blkR HRb.out rfl
              have z7 : w2.cell? ⟨w.heap.size, 7, none⟩ = some (.string ⟨#[]⟩) := blkR HRb.out rfl
              have z8 : w2.cell? ⟨w.heap.size, 8, none⟩ = some (.slice none 0 0) := blkR HRb.out rfl
              have z9 : w2.cell? ⟨w.heap.size, 9, none⟩ = some (.slice none 0 0) := blkR HRb.out rfl
              have zf : ∀ i, w2.frozen? ⟨w.heap.size, i, none⟩ = false := fun i => HRb.out.frozen i
              have y0 : w2.cell? ⟨w.heap.size + 1, 0, none⟩ = some (.int .i64 4) := blkR HNb.out rfl
              have y1 : w2.cell? ⟨w.heap.size + 1, 1, none⟩ = some (.string ⟨#[]⟩) := blkR HNb.out rfl
              have y2 : w2.cell? ⟨w.heap.size + 1, 2, none⟩ = some (.string ⟨#[]⟩) := blkR HNb.out rfl
              have y3 : w2.cell? ⟨w.heap.size + 1, 3, none⟩ = some (.int .i64 0) := blkR HNb.out rfl
              have y4 : w2.cell? ⟨w.heap.size + 1, 4, none⟩ = some (.int .i64 0) := blkR HNb.out rfl
              have y5 : w2.cell? ⟨w.heap.size + 1, 5, none⟩ = some (.bool false) := blkR HNb.out rfl
              have y6 : w2.cell? ⟨w.heap.size + 1, 6, none⟩ = some (.int .i64 0) := blkR HNb.out rfl
              have y7 : w2.cell? ⟨w.heap.size + 1, 7, none⟩ = some (.string ⟨#[]⟩) := blkR HNb.out rfl
              have y8 : w2.cell? ⟨w.heap.size + 1, 8, none⟩ = some (.slice none 0 0) := blkR HNb.out rfl
              have y9 : w2.cell? ⟨w.heap.size + 1, 9, none⟩ = some (.slice none 0 0) := blkR HNb.out rfl
              have yf : ∀ i, w2.frozen? ⟨w.heap.size + 1, i, none⟩ = false := fun i => HNb.out.frozen i
              obtain ⟨b9, o9, cs9, e9, _, hb9, hV', hc9⟩ := HI.out.get HR.out (i := 1) (by simp)
              cases e9
              obtain ⟨k', b', n', s', AL', nL', cL', AK', nK', cK', rfl⟩ := hV'.shape
              have e10 : w2.cell? ⟨bA, o1, none⟩ = some (.int .i64 k') := by rw [show o1 = oA + 1 * 6 + 0 by have := HO1.out; omega]; exact (HB2.out.cell (by exact hb9)).trans (hc9 0 (by decide))
              have e11 : w2.cell? ⟨bA, o1 + 1, none⟩ = some (.bool b') := by rw [show o1 + 1 = oA + 1 * 6 + 1 by have := HO1.out; omega]; exact (HB2.out.cell (by exact hb9)).trans (hc9 1 (by decide))
              have e12 : w2.cell? ⟨bA, o1 + 2, none⟩ = some (.int .i64 n') := by rw [show o1 + 2 = oA + 1 * 6 + 2 by have := HO1.out; omega]; exact (HB2.out.cell (by exact hb9)).trans (hc9 2 (by decide))
              have e13 : w2.cell? ⟨bA, o1 + 3, none⟩ = some (.string s') := by rw [show o1 + 3 = oA + 1 * 6 + 3 by have := HO1.out; omega]; exact (HB2.out.cell (by exact hb9)).trans (hc9 3 (by decide))
              have e14 : w2.cell? ⟨bA, o1 + 4, none⟩ = some (.slice AL' nL' cL') := by rw [show o1 + 4 = oA + 1 * 6 + 4 by have := HO1.out; omega]; exact (HB2.out.cell (by exact hb9)).trans (hc9 4 (by decide))
              have e15 : w2.cell? ⟨bA, o1 + 5, none⟩ = some (.slice AK' nK' cK') := by rw [show o1 + 5 = oA + 1 * 6 + 5 by have := HO1.out; omega]; exact (HB2.out.cell (by exact hb9)).trans (hc9 5 (by decide))
              have HV' := hide hV'
              clear hV' hc9
              have hTA := HT.out (by simp)
              try subst hTA
              have hx_ : a.k = k' ∧ a.n = n' ∧ a.s = s' ∧ -9223372036854775808 ≤ n' ∧ n' ≤ 9223372036854775807 ∧ s'.size ≤ 9223372036854775807 := by
                have hV := HV'.out
                rw [show [x, a][1]'(by simp) = a from rfl] at hV
                obtain ⟨k9, b9, n9, s9, l9, ks9⟩ := a
                rw [IsV] at hV
                obtain ⟨_, _, _, _, _, e, _, hrg, _⟩ := hV
                cases e
                exact ⟨rfl, rfl, rfl, hrg.1, hrg.2.1, hrg.2.2.2.2.1⟩
              have HXA := hide hx_
              clear hx_
              generalize hq : (k' == 2) = q
              have HQ := hide hq
              go_wp2_with fail
              go_region
              clear z0 z1 z2 z3 z4 z5 z6 z7 z8 z9 zf y0 y1 y2 y3 y4 y5 y6 y7 y8 y9 yf e10 e11 e12 e13 e14 e15
              have OB : Only (fun b => b = w.heap.size + 1) w2 (w2.setCell ⟨w.heap.size + 1, 3, none⟩ (.int .i64 n')).drew := ((Only.refl (fun b => b = w.heap.size + 1) w2).setCell (p := ⟨w.heap.size + 1, 3, none⟩) (.inl rfl) (.int .i64 n')).drew
              have N3 : Blk (w2.setCell ⟨w.heap.size + 1, 3, none⟩ (.int .i64 n')).drew (w.heap.size + 1) 41 #[.int .i64 4, .string ⟨#[]⟩, .string ⟨#[]⟩, .int .i64 n', .int .i64 0, .bool false, .int .i64 0, .string ⟨#[]⟩, .slice none 0 0, .slice none 0 0] := by simpa using ((HNb.out).set_ 3 (.int .i64 n')).drew
              generalize hW : (w2.setCell ⟨w.heap.size + 1, 3, none⟩ (.int .i64 n')).drew = W3 at OB N3 ⊢
              clear hW
              have HR3 := hide (HRb.out.only OB (by omega))
              have HN3 := hide N3
              have HB3 := hide (HB2.out.trans (OB.below (B := w.heap.size) (by intro b _ e; have e : b = w.heap.size + 1 := e; omega) HB2.out.size))
              clear OB N3
              have z0 : W3.cell? ⟨w.heap.size, 0, none⟩ = some (.int .i64 0) := blkR HR3.out rfl
              have z1 : W3.cell? ⟨w.heap.size, 1, none⟩ = some (.string ⟨#[]⟩) := blkR HR3.out rfl
              have z2 : W3.cell? ⟨w.heap.size, 2, none⟩ = some (.string ⟨#[]⟩) := blkR HR3.out rfl
              have z3 : W3.cell? ⟨w.heap.size, 3, none⟩ = some (.int .i64 0) := blkR HR3.out rfl
              have z4 : W3.cell? ⟨w.heap.size, 4, none⟩ = some (.int .i64 0) := blkR HR3.out rfl
              have z5 : W3.cell? ⟨w.heap.size, 5, none⟩ = some (.bool false) := blkR HR3.out rfl
              have z6 : W3.cell? ⟨w.heap.size, 6, none⟩ = some (.int .i64 0) := blkR HR3.out rfl
              have z7 : W3.cell? ⟨w.heap.size, 7, none⟩ = some (.string ⟨#[]⟩) := blkR HR3.out rfl
              have z8 : W3.cell? ⟨w.heap.size, 8, none⟩ = some (.slice none 0 0) := blkR HR3.out rfl
              have z9 : W3.cell? ⟨w.heap.size, 9, none⟩ = some (.slice none 0 0) := blkR HR3.out rfl
              have zf : ∀ i, W3.frozen? ⟨w.heap.size, i, none⟩ = false := fun i => HR3.out.frozen i
              have y0 : W3.cell? ⟨w.heap.size + 1, 0, none⟩ = some (.int .i64 4) := blkR HN3.out rfl
              have y1 : W3.cell? ⟨w.heap.size + 1, 1, none⟩ = some (.string ⟨#[]⟩) := blkR HN3.out rfl
              have y2 : W3.cell? ⟨w.heap.size + 1, 2, none⟩ = some (.string ⟨#[]⟩) := blkR HN3.out rfl
              have y3 : W3.cell? ⟨w.heap.size + 1, 3, none⟩ = some (.int .i64 n') := blkR HN3.out rfl
              have y4 : W3.cell? ⟨w.heap.size + 1, 4, none⟩ = some (.int .i64 0) := blkR HN3.out rfl
              have y5 : W3.cell? ⟨w.heap.size + 1, 5, none⟩ = some (.bool false) := blkR HN3.out rfl
              have y6 : W3.cell? ⟨w.heap.size + 1, 6, none⟩ = some (.int .i64 0) := blkR HN3.out rfl
              have y7 : W3.cell? ⟨w.heap.size + 1, 7, none⟩ = some (.string ⟨#[]⟩) := blkR HN3.out rfl
              have y8 : W3.cell? ⟨w.heap.size + 1, 8, none⟩ = some (.slice none 0 0) := blkR HN3.out rfl
              have y9 : W3.cell? ⟨w.heap.size + 1, 9, none⟩ = some (.slice none 0 0) := blkR HN3.out rfl
              have HOF := hide (show ofM [x, a] = if q = true then some (⟨4, .empty, .empty, n', nul⟩ : M) else none from by rw [HOT.out, ← HQ.out]; show (if a.k = 2 then some (⟨4, .empty, .empty, a.n, nul⟩ : M) else none) = _; rw [HXA.out.1]; (try rw [HXA.out.2.1]); (try rw [HXA.out.2.2.1]); by_cases h : k' = 2 <;> simp [h])
              have HXE := hide (set10 HR3.out (.int .i64 4) (.string ⟨#[]⟩) (.string ⟨#[]⟩) (.int .i64 n') (.int .i64 0) (.bool false) (.int .i64 0) (.string ⟨#[]⟩) (.slice none 0 0) (.slice none 0 0))
              have OE := only10 (Only.refl (fun b => b = w.heap.size) W3) (.inl rfl) (.int .i64 4) (.string ⟨#[]⟩) (.string ⟨#[]⟩) (.int .i64 n') (.int .i64 0) (.bool false) (.int .i64 0) (.string ⟨#[]⟩) (.slice none 0 0) (.slice none 0 0)
              have BE := HB3.out.trans (OE.below (B := w.heap.size) (by intro b _ e; have e : b = w.heap.size := e; omega) HB3.out.size)
              have HBE := hide BE
              clear OE BE
              go_wp2
              refine bodyPost_ret (results_cell2 rfl _ _ w.heap.size 41 _ _ rfl HXE.out Try.underlying41 rfl (by kernel_rfl)) rfl ?_
              exact OfP_mk HBE.out HOF.out (⟨bd4, ⟨HXA.out.2.2.2.1, HXA.out.2.2.2.2.1⟩, emp9, emp9, wf_nul⟩) rfl rfl rfl rfl (nulV)
            · have tL : ((L : Int) == 1) = false := by simp; omega
              have tL2 : ((L : Int) != 1) = true := by simp; omega
              have HL1 := hide hL1
              clear hL1
              go_enter Try.func43, Try.ntmps43
              go_wp2_with fail
              refine (show Calls Try.prog 47 #[.int .i64 4] ((w.alloc (.cells #[.int .i64 0, .string ⟨#[]⟩, .string ⟨#[]⟩, .int .i64 0, .int .i64 0, .bool false, .int .i64 0, .string ⟨#[]⟩, .slice none 0 0, .slice none 0 0] 41)).alloc (.cells #[.int .i64 4, .string ⟨#[]⟩, .string ⟨#[]⟩, .int .i64 0, .int .i64 0, .bool false, .int .i64 0, .string ⟨#[]⟩, .slice none 0 0, .slice none 0 0] 41)) (fun e w' => e = .returned (.tuple #[.int .i64 3, .bool true]) ∧ Below ((w.alloc (.cells #[.int .i64 0, .string ⟨#[]⟩, .string ⟨#[]⟩, .int .i64 0, .int .i64 0, .bool false, .int .i64 0, .string ⟨#[]⟩, .slice none 0 0, .slice none 0 0] 41)).alloc (.cells #[.int .i64 4, .string ⟨#[]⟩, .string ⟨#[]⟩, .int .i64 0, .int .i64 0, .bool false, .int .i64 0, .string ⟨#[]⟩, .slice none 0 0, .slice none 0 0] 41)).heap.size ((w.alloc (.cells #[.int .i64 0, .string ⟨#[]⟩, .string ⟨#[]⟩, .int .i64 0, .int .i64 0, .bool false, .int .i64 0, .string ⟨#[]⟩, .slice none 0 0, .slice none 0 0] 41)).alloc (.cells #[.int .i64 4, .string ⟨#[]⟩, .string ⟨#[]⟩, .int .i64 0, .int .i64 0, .bool false, .int .i64 0, .string ⟨#[]⟩, .slice none 0 0, .slice none 0 0] 41)) w') from parts_any 4 _).mono ?_
              rintro e w2 ⟨rfl, hb⟩
              have B0 : Below w.heap.size w ((w.alloc (.cells #[.int .i64 0, .string ⟨#[]⟩, .string ⟨#[]⟩, .int .i64 0, .int .i64 0, .bool false, .int .i64 0, .string ⟨#[]⟩, .slice none 0 0, .slice none 0 0] 41)).alloc (.cells #[.int .i64 4, .string ⟨#[]⟩, .string ⟨#[]⟩, .int .i64 0, .int .i64 0, .bool false, .int .i64 0, .string ⟨#[]⟩, .slice none 0 0, .slice none 0 0] 41)) := ((Below.refl w.heap.size w).alloc (Nat.le_refl _) _).alloc (by simp) _
              have R2 := ((Blk.new w 41 #[.int .i64 0, .string ⟨#[]⟩, .string ⟨#[]⟩, .int .i64 0, .int .i64 0, .bool false, .int .i64 0, .string ⟨#[]⟩, .slice none 0 0, .slice none 0 0]).alloc (.cells #[.int .i64 4, .string ⟨#[]⟩, .string ⟨#[]⟩, .int .i64 0, .int .i64 0, .bool false, .int .i64 0, .string ⟨#[]⟩, .slice none 0 0, .slice none 0 0] 41)).below hb (by simp; omega)
              have N2 : Blk w2 (w.heap.size + 1) 41 #[.int .i64 4, .string ⟨#[]⟩, .string ⟨#[]⟩, .int .i64 0, .int .i64 0, .bool false, .int .i64 0, .string ⟨#[]⟩, .slice none 0 0, .slice none 0 0] := by have := (Blk.new (w.alloc (.cells #[.int .i64 0, .string ⟨#[]⟩, .string ⟨#[]⟩, .int .i64 0, .int .i64 0, .bool false, .int .i64 0, .string ⟨#[]⟩, .slice none 0 0, .slice none 0 0] 41)) 41 #[.int .i64 4, .string ⟨#[]⟩, .string ⟨#[]⟩, .int .i64 0, .int .i64 0, .bool false, .int .i64 0, .string ⟨#[]⟩, .slice none 0 0, .slice none 0 0]).below hb (by simp); simpa using this
              have HRb := hide R2
              have HNb := hide N2
              have HB2 := hide (B0.trans (hb.mono (by simp; omega)))
              clear B0 hb g0 g0a g0b g2 g2a g2b R2 N2
              have z0 : w2.cell? ⟨w.heap.size, 0, none⟩ = some (.int .i64 0) := blkR HRb.out rfl
              have z1 : w2.cell? ⟨w.heap.size, 1, none⟩ = some (.string ⟨#[]⟩) := blkR HRb.out rfl
              have z2 : w2.cell? ⟨w.heap.size, 2, none⟩ = some (.string ⟨#[]⟩) := blkR HRb.out rfl
              have z3 : w2.cell? ⟨w.heap.size, 3, none⟩ = some (.int .i64 0) := blkR HRb.out rfl
              have z4 : w2.cell? ⟨w.heap.size, 4, none⟩ = some (.int .i64 0) := blkR HRb.out rfl
              have z5 : w2.cell? ⟨w.heap.size, 5, none⟩ = some (.bool false) := blkR HRb.out rfl
              have z6 : w2.cell? ⟨w.heap.size, 6, none⟩ = some (.int .i64 0) := blkR HRb.out rfl
              have z7 : w2.cell? ⟨w.heap.size, 7, none⟩ = some (.string ⟨#[]⟩) := blkR HRb.out rfl
              have z8 : w2.cell? ⟨w.heap.size, 8, none⟩ = some (.slice none 0 0) := blkR HRb.out rfl
              have z9 : w2.cell? ⟨w.heap.size, 9, none⟩ = some (.slice none 0 0) := blkR HRb.out rfl
              have zf : ∀ i, w2.frozen? ⟨w.heap.size, i, none⟩ = false := fun i => HRb.out.frozen i
              have y0 : w2.cell? ⟨w.heap.size + 1, 0, none⟩ = some (.int .i64 4) := blkR HNb.out rfl
              have y1 : w2.cell? ⟨w.heap.size + 1, 1, none⟩ = some (.string ⟨#[]⟩) := blkR HNb.out rfl
              have y2 : w2.cell? ⟨w.heap.size + 1, 2, none⟩ = some (.string ⟨#[]⟩) := blkR HNb.out rfl
              have y3 : w2.cell? ⟨w.heap.size + 1, 3, none⟩ = some (.int .i64 0) := blkR HNb.out rfl
              have y4 : w2.cell? ⟨w.heap.size + 1, 4, none⟩ = some (.int .i64 0) := blkR HNb.out rfl
              have y5 : w2.cell? ⟨w.heap.size + 1, 5, none⟩ = some (.bool false) := blkR HNb.out rfl
              have y6 : w2.cell? ⟨w.heap.size + 1, 6, none⟩ = some (.int .i64 0) := blkR HNb.out rfl
              have y7 : w2.cell? ⟨w.heap.size + 1, 7, none⟩ = some (.string ⟨#[]⟩) := blkR HNb.out rfl
              have y8 : w2.cell? ⟨w.heap.size + 1, 8, none⟩ = some (.slice none 0 0) := blkR HNb.out rfl
              have y9 : w2.cell? ⟨w.heap.size + 1, 9, none⟩ = some (.slice none 0 0) := blkR HNb.out rfl
              have yf : ∀ i, w2.frozen? ⟨w.heap.size + 1, i, none⟩ = false := fun i => HNb.out.frozen i
              have HOF := hide (show ofM (x :: r) = if false = true then some (⟨4, .empty, .empty, 0, nul⟩ : M) else none from by rw [HOT.out]; exact ofT_one (by decide) (by decide) (fun h => HL1.out (HL.out.trans h)))
              have HXE := hide (set10 HRb.out (.int .i64 4) (.string ⟨#[]⟩) (.string ⟨#[]⟩) (.int .i64 0) (.int .i64 0) (.bool false) (.int .i64 0) (.string ⟨#[]⟩) (.slice none 0 0) (.slice none 0 0))
              have OE := only10 (Only.refl (fun b => b = w.heap.size) w2) (.inl rfl) (.int .i64 4) (.string ⟨#[]⟩) (.string ⟨#[]⟩) (.int .i64 0) (.int .i64 0) (.bool false) (.int .i64 0) (.string ⟨#[]⟩) (.slice none 0 0) (.slice none 0 0)
              have BE := HB2.out.trans (OE.below (B := w.heap.size) (by intro b _ e; have e : b = w.heap.size := e; omega) HB2.out.size)
              have HBE := hide BE
              clear OE BE
              go_wp2
              refine bodyPost_ret (results_cell2 rfl _ _ w.heap.size 41 _ _ rfl HXE.out Try.underlying41 rfl (by kernel_rfl)) rfl ?_
              exact OfP_mk HBE.out HOF.out (⟨bd4, bd0, emp9, emp9, wf_nul⟩) rfl rfl rfl rfl (nulV)
          · have hkk : knownK 18 = true := by decide
            have HOT := hide (of_yes (r := r) HXK.out.1 HXK.out.2.1 hkk)
            clear hkk
            by_cases hL1 : L = 1
            · obtain ⟨a, rfl⟩ : ∃ a, r = [a] := by
                match r, HL.out with
                | [a], _ => exact ⟨a, rfl⟩
                | [], h => have : L = 0 := h; omega
                | _ :: _ :: r', h => have : L = r'.length + 1 + 1 := h; omega
              subst hL1
              go_enter Try.func43, Try.ntmps43
              go_wp2_with fail
              refine (show Calls Try.prog 47 #[.int .i64 18] ((w.alloc (.cells #[.int .i64 0, .string ⟨#[]⟩, .string ⟨#[]⟩, .int .i64 0, .int .i64 0, .bool false, .int .i64 0, .string ⟨#[]⟩, .slice none 0 0, .slice none 0 0] 41)).alloc (.cells #[.int .i64 18, .string ⟨#[]⟩, .string ⟨#[]⟩, .int .i64 0, .int .i64 0, .bool false, .int .i64 0, .string ⟨#[]⟩, .slice none 0 0, .slice none 0 0] 41)) (fun e w' => e = .returned (.tuple #[.int .i64 6, .bool true]) ∧ Below ((w.alloc (.cells #[.int .i64 0, .string ⟨#[]⟩, .string ⟨#[]⟩, .int .i64 0, .int .i64 0, .bool false, .int .i64 0, .string ⟨#[]⟩, .slice none 0 0, .slice none 0 0] 41)).alloc (.cells #[.int .i64 18, .string ⟨#[]⟩, .string ⟨#[]⟩, .int .i64 0, .int .i64 0, .bool false, .int .i64 0, .string ⟨#[]⟩, .slice none 0 0, .slice none 0 0] 41)).heap.size ((w.alloc (.cells #[.int .i64 0, .string ⟨#[]⟩, .string ⟨#[]⟩, .int .i64 0, .int .i64 0, .bool false, .int .i64 0, .string ⟨#[]⟩, .slice none 0 0, .slice none 0 0] 41)).alloc (.cells #[.int .i64 18, .string ⟨#[]⟩, .string ⟨#[]⟩, .int .i64 0, .int .i64 0, .bool false, .int .i64 0, .string ⟨#[]⟩, .slice none 0 0, .slice none 0 0] 41)) w') from parts_any 18 _).mono ?_
              rintro e w2 ⟨rfl, hb⟩
              have B0 : Below w.heap.size w ((w.alloc (.cells #[.int .i64 0, .string ⟨#[]⟩, .string ⟨#[]⟩, .int .i64 0, .int .i64 0, .bool false, .int .i64 0, .string ⟨#[]⟩, .slice none 0 0, .slice none 0 0] 41)).alloc (.cells #[.int .i64 18, .string ⟨#[]⟩, .string ⟨#[]⟩, .int .i64 0, .int .i64 0, .bool false, .int .i64 0, .string ⟨#[]⟩, .slice none 0 0, .slice none 0 0] 41)) := ((Below.refl w.heap.size w).alloc (Nat.le_refl _) _).alloc (by simp) _
              have R2 := ((Blk.new w 41 #[.int .i64 0, .string ⟨#[]⟩, .string ⟨#[]⟩, .int .i64 0, .int .i64 0, .bool false, .int .i64 0, .string ⟨#[]⟩, .slice none 0 0, .slice none 0 0]).alloc (.cells #[.int .i64 18, .string ⟨#[]⟩, .string ⟨#[]⟩, .int .i64 0, .int .i64 0, .bool false, .int .i64 0, .string ⟨#[]⟩, .slice none 0 0, .slice none 0 0] 41)).below hb (by simp; omega)
              have N2 : Blk w2 (w.heap.size + 1) 41 #[.int .i64 18, .string ⟨#[]⟩, .string ⟨#[]⟩, .int .i64 0, .int .i64 0, .bool false, .int .i64 0, .string ⟨#[]⟩, .slice none 0 0, .slice none 0 0] := by have := (Blk.new (w.alloc (.cells #[.int .i64 0, .string ⟨#[]⟩, .string ⟨#[]⟩, .int .i64 0, .int .i64 0, .bool false, .int .i64 0, .string ⟨#[]⟩, .slice none 0 0, .slice none 0 0] 41)) 41 #[.int .i64 18, .string ⟨#[]⟩, .string ⟨#[]⟩, .int .i64 0, .int .i64 0, .bool false, .int .i64 0, .string ⟨#[]⟩, .slice none 0 0, .slice none 0 0]).below hb (by simp); simpa using this
              have HRb := hide R2
              have HNb := hide N2
              have HB2 := hide (B0.trans (hb.mono (by simp; omega)))
              clear B0 hb g0 g0a g0b g2 g2a g2b R2 N2
              have z0 : w2.cell? ⟨w.heap.size, 0, none⟩ = some (.int .i64 0) := blkR HRb.out rfl
              have z1 : w2.cell? ⟨w.heap.size, 1, none⟩ = some (.string ⟨#[]⟩) := blkR HRb.out rfl
              have z2 : w2.cell? ⟨w.heap.size, 2, none⟩ = some (.string ⟨#[]⟩) := blkR HRb.out rfl
              have z3 : w2.cell? ⟨w.heap.size, 3, none⟩ = some (.int .i64 0) := blkR HRb.out rfl
              have z4 : w2.cell? ⟨w.heap.size, 4, none⟩ = some (.int .i64 0) := blkR HRb.out rfl
              have z5 : w2.cell? ⟨w.heap.size, 5, none⟩ = some (.bool false) := blkR HRb.out rfl
              have z6 : w2.cell? ⟨w.heap.size, 6, none⟩ = some (.int .i64 0) := blkR HRb.out rfl
              have z7 : w2.cell? ⟨w.heap.size, 7, none⟩ = some (.string ⟨#[]⟩) := blkR HRb.out rfl
              have z8 : w2.cell? ⟨w.heap.size, 8, none⟩ = some (.slice none 0 0) := blkR HRb.out rfl
              have z9 : w2.cell? ⟨w.heap.size, 9, none⟩ = some (.slice none 0 0) := blkR HRb.out rfl
              have zf : ∀ i, w2.frozen? ⟨w.heap.size, i, none⟩ = false := fun i => HRb.out.frozen i
              have y0 : w2.cell? ⟨w.heap.size + 1, 0, none⟩ = some (.int .i64 18) := blkR HNb.out rfl
              have y1 : w2.cell? ⟨w.heap.size + 1, 1, none⟩ = some (.string ⟨#[]⟩) := blkR HNb.out rfl
              have y2 : w2.cell? ⟨w.heap.size + 1, 2, none⟩ = some (.string ⟨#[]⟩) := blkR HNb.out rfl
              have y3 : w2.cell? ⟨w.heap.size + 1, 3, none⟩ = some (.int .i64 0) := blkR HNb.out rfl
              have y4 : w2.cell? ⟨w.heap.size + 1, 4, none⟩ = some (.int .i64 0) := blkR HNb.out rfl
              have y5 : w2.cell? ⟨w.heap.size + 1, 5, none⟩ = some (.bool false) := blkR HNb.out rfl
              have y6 : w2.cell? ⟨w.heap.size + 1, 6, none⟩ = some (.int .i64 0) := blkR HNb.out rfl
              have y7 : w2.cell? ⟨w.heap.size + 1, 7, none⟩ = some (.string ⟨#[]⟩) := blkR HNb.out rfl
              have y8 : w2.cell? ⟨w.heap.size + 1, 8, none⟩ = some (.slice none 0 0) := blkR HNb.out rfl
              have y9 : w2.cell? ⟨w.heap.size + 1, 9, none⟩ = some (.slice none 0 0) := blkR HNb.out rfl
              have yf : ∀ i, w2.frozen? ⟨w.heap.size + 1, i, none⟩ = false := fun i => HNb.out.frozen i
              obtain ⟨b9, o9, cs9, e9, _, hb9, hV', hc9⟩ := HI.out.get HR.out (i := 1) (by simp)
              cases e9
              obtain ⟨k', b', n', s', AL', nL', cL', AK', nK', cK', rfl⟩ := hV'.shape
              have e10 : w2.cell? ⟨bA, o1, none⟩ = some (.int .i64 k') := by rw [show o1 = oA + 1 * 6 + 0 by have := HO1.out; omega]; exact (HB2.out.cell (by exact hb9)).trans (hc9 0 (by decide))
              have e11 : w2.cell? ⟨bA, o1 + 1, none⟩ = some (.bool b') := by rw [show o1 + 1 = oA + 1 * 6 + 1 by have := HO1.out; omega]; exact (HB2.out.cell (by exact hb9)).trans (hc9 1 (by decide))
              have e12 : w2.cell? ⟨bA, o1 + 2, none⟩ = some (.int .i64 n') := by rw [show o1 + 2 = oA + 1 * 6 + 2 by have := HO1.out; omega]; exact (HB2.out.cell (by exact hb9)).trans (hc9 2 (by decide))
              have e13 : w2.cell? ⟨bA, o1 + 3, none⟩ = some (.string s') := by rw [show o1 + 3 = oA + 1 * 6 + 3 by have := HO1.out; omega]; exact (HB2.out.cell (by exact hb9)).trans (hc9 3 (by decide))
              have e14 : w2.cell? ⟨bA, o1 + 4, none⟩ = some (.slice AL' nL' cL') := by rw [show o1 + 4 = oA + 1 * 6 + 4 by have := HO1.out; omega]; exact (HB2.out.cell (by exact hb9)).trans (hc9 4 (by decide))
              have e15 : w2.cell? ⟨bA, o1 + 5, none⟩ = some (.slice AK' nK' cK') := by rw [show o1 + 5 = oA + 1 * 6 + 5 by have := HO1.out; omega]; exact (HB2.out.cell (by exact hb9)).trans (hc9 5 (by decide))
              have HV' := hide hV'
              clear hV' hc9
              have hTA := HT.out (by simp)
              try subst hTA
              have hx_ : a.k = k' ∧ a.n = n' ∧ a.s = s' ∧ -9223372036854775808 ≤ n' ∧ n' ≤ 9223372036854775807 ∧ s'.size ≤ 9223372036854775807 := by
                have hV := HV'.out
                rw [show [x, a][1]'(by simp) = a from rfl] at hV
                obtain ⟨k9, b9, n9, s9, l9, ks9⟩ := a
                rw [IsV] at hV
                obtain ⟨_, _, _, _, _, e, _, hrg, _⟩ := hV
                cases e
                exact ⟨rfl, rfl, rfl, hrg.1, hrg.2.1, hrg.2.2.2.2.1⟩
              have HXA := hide hx_
              clear hx_
              generalize hq : (k' == 2) = q
              have HQ := hide hq
              go_wp2_with fail
              go_region
              clear z0 z1 z2 z3 z4 z5 z6 z7 z8 z9 zf y0 y1 y2 y3 y4 y5 y6 y7 y8 y9 yf e10 e11 e12 e13 e14 e15
              have OB : Only (fun b => b = w.heap.size + 1) w2 (w2.setCell ⟨w.heap.size + 1, 3, none⟩ (.int .i64 n')).drew := ((Only.refl (fun b => b = w.heap.size + 1) w2).setCell (p := ⟨w.heap.size + 1, 3, none⟩) (.inl rfl) (.int .i64 n')).drew
              have N3 : Blk (w2.setCell ⟨w.heap.size + 1, 3, none⟩ (.int .i64 n')).drew (w.heap.size + 1) 41 #[.int .i64 18, .string ⟨#[]⟩, .string ⟨#[]⟩, .int .i64 n', .int .i64 0, .bool false, .int .i64 0, .string ⟨#[]⟩, .slice none 0 0, .slice none 0 0] := by simpa using ((HNb.out).set_ 3 (.int .i64 n')).drew
              generalize hW : (w2.setCell ⟨w.heap.size + 1, 3, none⟩ (.int .i64 n')).drew = W3 at OB N3 ⊢
              clear hW
              have HR3 := hide (HRb.out.only OB (by omega))
              have HN3 := hide N3
              have HB3 := hide (HB2.out.trans (OB.below (B := w.heap.size) (by intro b _ e; have e : b = w.heap.size + 1 := e; omega) HB2.out.size))
              clear OB N3
              have z0 : W3.cell? ⟨w.heap.size, 0, none⟩ = some (.int .i64 0) := blkR HR3.out rfl
              have z1 : W3.cell? ⟨w.heap.size, 1, none⟩ = some (.string ⟨#[]⟩) := blkR HR3.out rfl
              have z2 : W3.cell? ⟨w.heap.size, 2, none⟩ = some (.string ⟨#[]⟩) := blkR HR3.out rfl
              have z3 : W3.cell? ⟨w.heap.size, 3, none⟩ = some (.int .i64 0) := blkR HR3.out rfl
              have z4 : W3.cell? ⟨w.heap.size, 4, none⟩ = some (.int .i64 0) := blkR HR3.out rfl
              have z5 : W3.cell? ⟨w.heap.size, 5, none⟩ = some (.bool false) := blkR HR3.out rfl
              have z6 : W3.cell? ⟨w.heap.size, 6, none⟩ = some (.int .i64 0) := blkR HR3.out rfl
              have z7 : W3.cell? ⟨w.heap.size, 7, none⟩ = some (.string ⟨#[]⟩) := blkR HR3.out rfl
              have z8 : W3.cell? ⟨w.heap.size, 8, none⟩ = some (.slice none 0 0) := blkR HR3.out rfl
              have z9 : W3.cell? ⟨w.heap.size, 9, none⟩ = some (.slice none 0 0) := blkR HR3.out rfl
              have zf : ∀ i, W3.frozen? ⟨w.heap.size, i, none⟩ = false := fun i => HR3.out.frozen i
              have y0 : W3.cell? ⟨w.heap.size + 1, 0, none⟩ = some (.int .i64 18) := blkR HN3.out rfl
              have y1 : W3.cell? ⟨w.heap.size + 1, 1, none⟩ = some (.string ⟨#[]⟩) := blkR HN3.out rfl
              have y2 : W3.cell? ⟨w.heap.size + 1, 2, none⟩ = some (.string ⟨#[]⟩) := blkR HN3.out rfl
              have y3 : W3.cell? ⟨w.heap.size + 1, 3, none⟩ = some (.int .i64 n') := blkR HN3.out rfl
              have y4 : W3.cell? ⟨w.heap.size + 1, 4, none⟩ = some (.int .i64 0) := blkR HN3.out rfl
              have y5 : W3.cell? ⟨w.heap.size + 1, 5, none⟩ = some (.bool false) := blkR HN3.out rfl
              have y6 : W3.cell? ⟨w.heap.size + 1, 6, none⟩ = some (.int .i64 0) := blkR HN3.out rfl
              have y7 : W3.cell? ⟨w.heap.size + 1, 7, none⟩ = some (.string ⟨#[]⟩) := blkR HN3.out rfl
              have y8 : W3.cell? ⟨w.heap.size + 1, 8, none⟩ = some (.slice none 0 0) := blkR HN3.out rfl
              have y9 : W3.cell? ⟨w.heap.size + 1, 9, none⟩ = some (.slice none 0 0) := blkR HN3.out rfl
              have HOF := hide (show ofM [x, a] = if q = true then some (⟨18, .empty, .empty, n', nul⟩ : M) else none from by rw [HOT.out, ← HQ.out]; show (if a.k = 2 then some (⟨18, .empty, .empty, a.n, nul⟩ : M) else none) = _; rw [HXA.out.1]; (try rw [HXA.out.2.1]); (try rw [HXA.out.2.2.1]); by_cases h : k' = 2 <;> simp [h])
              have HXE := hide (set10 HR3.out (.int .i64 18) (.string ⟨#[]⟩) (.string ⟨#[]⟩) (.int .i64 n') (.int .i64 0) (.bool false) (.int .i64 0) (.string ⟨#[]⟩) (.slice none 0 0) (.slice none 0 0))
              have OE := only10 (Only.refl (fun b => b = w.heap.size) W3) (.inl rfl) (.int .i64 18) (.string ⟨#[]⟩) (.string ⟨#[]⟩) (.int .i64 n') (.int .i64 0) (.bool false) (.int .i64 0) (.string ⟨#[]⟩) (.slice none 0 0) (.slice none 0 0)
              have BE := HB3.out.trans (OE.below (B := w.heap.size) (by intro b _ e; have e : b = w.heap.size := e; omega) HB3.out.size)
              have HBE := hide BE
              clear OE BE
              go_wp2
              refine bodyPost_ret (results_cell2 rfl _ _ w.heap.size 41 _ _ rfl HXE.out Try.underlying41 rfl (by kernel_rfl)) rfl ?_
              exact OfP_mk HBE.out HOF.out (⟨bd18, ⟨HXA.out.2.2.2.1, HXA.out.2.2.2.2.1⟩, emp9, emp9, wf_nul⟩) rfl rfl rfl rfl (nulV)
            · have tL : ((L : Int) == 1) = false := by simp; omega
              have tL2 : ((L : Int) != 1) = true := by simp; omega
              have HL1 := hide hL1
              clear hL1
              go_enter Try.func43, Try.ntmps43
              go_wp2_with fail
              refine (show Calls Try.prog 47 #[.int .i64 18] ((w.alloc (.cells #[.int .i64 0, .string ⟨#[]⟩, .string ⟨#[]⟩, .int .i64 0, .int .i64 0, .bool false, .int .i64 0, .string ⟨#[]⟩, .slice none 0 0, .slice none 0 0] 41)).alloc (.cells #[.int .i64 18, .string ⟨#[]⟩, .string ⟨#[]⟩, .int .i64 0, .int .i64 0, .bool false, .int .i64 0, .string ⟨#[]⟩, .slice none 0 0, .slice none 0 0] 41)) (fun e w' => e = .returned (.tuple #[.int .i64 6, .bool true]) ∧ Below ((w.alloc (.cells #[.int .i64 0, .string ⟨#[]⟩, .string ⟨#[]⟩, .int .i64 0, .int .i64 0, .bool false, .int .i64 0, .string ⟨#[]⟩, .slice none 0 0, .slice none 0 0] 41)).alloc (.cells #[.int .i64 18, .string ⟨#[]⟩, .string ⟨#[]⟩, .int .i64 0, .int .i64 0, .bool false, .int .i64 0, .string ⟨#[]⟩, .slice none 0 0, .slice none 0 0] 41)).heap.size ((w.alloc (.cells #[.int .i64 0, .string ⟨#[]⟩, .string ⟨#[]⟩, .int .i64 0, .int .i64 0, .bool false, .int .i64 0, .string ⟨#[]⟩, .slice none 0 0, .slice none 0 0] 41)).alloc (.cells #[.int .i64 18, .string ⟨#[]⟩, .string ⟨#[]⟩, .int .i64 0, .int .i64 0, .bool false, .int .i64 0, .string ⟨#[]⟩, .slice none 0 0, .slice none 0 0] 41)) w') from parts_any 18 _).mono ?_
              rintro e w2 ⟨rfl, hb⟩
              have B0 : Below w.heap.size w ((w.alloc (.cells #[.int .i64 0, .string ⟨#[]⟩, .string ⟨#[]⟩, .int .i64 0, .int .i64 0, .bool false, .int .i64 0, .string ⟨#[]⟩, .slice none 0 0, .slice none 0 0] 41)).alloc (.cells #[.int .i64 18, .string ⟨#[]⟩, .string ⟨#[]⟩, .int .i64 0, .int .i64 0, .bool false, .int .i64 0, .string ⟨#[]⟩, .slice none 0 0, .slice none 0 0] 41)) := ((Below.refl w.heap.size w).alloc (Nat.le_refl _) _).alloc (by simp) _
              have R2 := ((Blk.new w 41 #[.int .i64 0, .string ⟨#[]⟩, .string ⟨#[]⟩, .int .i64 0, .int .i64 0, .bool false, .int .i64 0, .string ⟨#[]⟩, .slice none 0 0, .slice none 0 0]).alloc (.cells #[.int .i64 18, .string ⟨#[]⟩, .string ⟨#[]⟩, .int .i64 0, .int .i64 0, .bool false, .int .i64 0, .string ⟨#[]⟩, .slice none 0 0, .slice none 0 0] 41)).below hb (by simp; omega)
              have N2 : Blk w2 (w.heap.size + 1) 41 #[.int .i64 18, .string ⟨#[]⟩, .string ⟨#[]⟩, .int .i64 0, .int .i64 0, .bool false, .int .i64 0, .string ⟨#[]⟩, .slice none 0 0, .slice none 0 0] := by have := (Blk.new (w.alloc (.cells #[.int .i64 0, .string ⟨#[]⟩, .string ⟨#[]⟩, .int .i64 0, .int .i64 0, .bool false, .int .i64 0, .string ⟨#[]⟩, .slice none 0 0, .slice none 0 0] 41)) 41 #[.int .i64 18, .string ⟨#[]⟩, .string ⟨#[]⟩, .int .i64 0, .int .i64 0, .bool false, .int .i64 0, .string ⟨#[]⟩, .slice none 0 0, .slice none 0 0]).below hb (by simp); simpa using this
              have HRb := hide R2
              have HNb := hide N2
              have HB2 := hide (B0.trans (hb.mono (by simp; omega)))
              clear B0 hb g0 g0a g0b g2 g2a g2b R2 N2
              have z0 : w2.cell? ⟨w.heap.size, 0, none⟩ = some (.int .i64 0) := blkR HRb.out rfl
              have z1 : w2.cell? ⟨w.heap.size, 1, none⟩ = some (.string ⟨#[]⟩) := blkR HRb.out rfl
              have z2 : w2.cell? ⟨w.heap.size, 2, none⟩ = some (.string ⟨#[]⟩) := blkR HRb.out rfl
              have z3 : w2.cell? ⟨w.heap.size, 3, none⟩ = some (.int .i64 0) := blkR HRb.out rfl
              have z4 : w2.cell? ⟨w.heap.size, 4, none⟩ = some (.int .i64 0) := blkR HRb.out rfl
              have z5 : w2.cell? ⟨w.heap.size, 5, none⟩ = some (.bool false) := blkR HRb.out rfl
              have z6 : w2.cell? ⟨w.heap.size, 6, none⟩ = some (.int .i64 0) := blkR HRb.out rfl
              have z7 : w2.cell? ⟨w.heap.size, 7, none⟩ = some (.string ⟨#[]⟩) := blkR HRb.out rfl
              have z8 : w2.cell? ⟨w.heap.size, 8, none⟩ = some (.slice none 0 0) := blkR HRb.out rfl
              have z9 : w2.cell? ⟨w.heap.size, 9, none⟩ = some (.slice none 0 0) := blkR HRb.out rfl
              have zf : ∀ i, w2.frozen? ⟨w.heap.size, i, none⟩ = false := fun i => HRb.out.frozen i
              have y0 : w2.cell? ⟨w.heap.size + 1, 0, none⟩ = some (.int .i64 18) := blkR HNb.out rfl
              have y1 : w2.cell? ⟨w.heap.size + 1, 1, none⟩ = some (.string ⟨#[]⟩) := blkR HNb.out rfl
              have y2 : w2.cell? ⟨w.heap.size + 1, 2, none⟩ = some (.string ⟨#[]⟩) := blkR HNb.out rfl
              have y3 : w2.cell? ⟨w.heap.size + 1, 3, none⟩ = some (.int .i64 0) := blkR HNb.out rfl
              have y4 : w2.cell? ⟨w.heap.size + 1, 4, none⟩ = some (.int .i64 0) := blkR HNb.out rfl
              have y5 : w2.cell? ⟨w.heap.size + 1, 5, none⟩ = some (.bool false) := blkR HNb.out rfl
              have y6 : w2.cell? ⟨w.heap.size + 1, 6, none⟩ = some (.int .i64 0) := blkR HNb.out rfl
              have y7 : w2.cell? ⟨w.heap.size + 1, 7, none⟩ = some (.string ⟨#[]⟩) := blkR HNb.out rfl
              have y8 : w2.cell? ⟨w.heap.size + 1, 8, none⟩ = some (.slice none 0 0) := blkR HNb.out rfl
              have y9 : w2.cell? ⟨w.heap.size + 1, 9, none⟩ = some (.slice none 0 0) := blkR HNb.out rfl
              have yf : ∀ i, w2.frozen? ⟨w.heap.size + 1, i, none⟩ = false := fun i => HNb.out.frozen i
              have HOF := hide (show ofM (x :: r) = if false = true then some (⟨18, .empty, .empty, 0, nul⟩ : M) else none from by rw [HOT.out]; exact ofT_one (by decide) (by decide) (fun h => HL1.out (HL.out.trans h)))
              have HXE := hide (set10 HRb.out (.int .i64 18) (.string ⟨#[]⟩) (.string ⟨#[]⟩) (.int .i64 0) (.int .i64 0) (.bool false) (.int .i64 0) (.string ⟨#[]⟩) (.slice none 0 0) (.slice none 0 0))
              have OE := only10 (Only.refl (fun b => b = w.heap.size) w2) (.inl rfl) (.int .i64 18) (.string ⟨#[]⟩) (.string ⟨#[]⟩) (.int .i64 0) (.int .i64 0) (.bool false) (.int .i64 0) (.string ⟨#[]⟩) (.slice none 0 0) (.slice none 0 0)
              have BE := HB2.out.trans (OE.below (B := w.heap.size) (by intro b _ e; have e : b = w.heap.size := e; omega) HB2.out.size)
              have HBE := hide BE
              clear OE BE
              go_wp2
              refine bodyPost_ret (results_cell2 rfl _ _ w.heap.size 41 _ _ rfl HXE.out Try.underlying41 rfl (by kernel_rfl)) rfl ?_
              exact OfP_mk HBE.out HOF.out (⟨bd18, bd0, emp9, emp9, wf_nul⟩) rfl rfl rfl rfl (nulV)
          · have hkk : knownK 16 = true := by decide
            have HOT := hide (of_yes (r := r) HXK.out.1 HXK.out.2.1 hkk)
            clear hkk
            by_cases hL1 : L = 1
            · obtain ⟨a, rfl⟩ : ∃ a, r = [a] := by
                match r, HL.out with
                | [a], _ => exact ⟨a, rfl⟩
                | [], h => have : L = 0 := h; omega
                | _ :: _ :: r', h => have : L = r'.length + 1 + 1 := h; omega
              subst hL1
              go_enter Try.func43, Try.ntmps43
              go_wp2_with fail
              refine (show Calls Try.prog 47 #[.int .i64 16] ((w.alloc (.cells #[.int .i64 0, .string ⟨#[]⟩, .string ⟨#[]⟩, .int .i64 0, .int .i64 0, .bool false, .int .i64 0, .string ⟨#[]⟩, .slice none 0 0, .slice none 0 0] 41)).alloc (.cells #[.int .i64 16, .string ⟨#[]⟩, .string ⟨#[]⟩, .int .i64 0, .int .i64 0, .bool false, .int .i64 0, .string ⟨#[]⟩, .slice none 0 0, .slice none 0 0] 41)) (fun e w' => e = .returned (.tuple #[.int .i64 4, .bool true]) ∧ Below ((w.alloc (.cells #[.int .i64 0, .string ⟨#[]⟩, .string ⟨#[]⟩, .int .i64 0, .int .i64 0, .bool false, .int .i64 0, .string ⟨#[]⟩, .slice none 0 0, .slice none 0 0] 41)).alloc (.cells #[.int .i64 16, .string ⟨#[]⟩, .string ⟨#[]⟩, .int .i64 0, .int .i64 0, .bool false, .int .i64 0, .string ⟨#[]⟩, .slice none 0 0, .slice none 0 0] 41)).heap.size ((w.alloc (.cells #[.int .i64 0, .string ⟨#[]⟩, .string ⟨#[]⟩, .int .i64 0, .int .i64 0, .bool false, .int .i64 0, .string ⟨#[]⟩, .slice none 0 0, .slice none 0 0] 41)).alloc (.cells #[.int .i64 16, .string ⟨#[]⟩, .string ⟨#[]⟩, .int .i64 0, .int .i64 0, .bool false, .int .i64 0, .string ⟨#[]⟩, .slice none 0 0, .slice none 0 0] 41)) w') from parts_any 16 _).mono ?_
              rintro e w2 ⟨rfl, hb⟩
              have B0 : Below w.heap.size w ((w.alloc (.cells #[.int .i64 0, .string ⟨#[]⟩, .string ⟨#[]⟩, .int .i64 0, .int .i64 0, .bool false, .int .i64 0, .string ⟨#[]⟩, .slice none 0 0, .slice none 0 0] 41)).alloc (.cells #[.int .i64 16, .string ⟨#[]⟩, .string ⟨#[]⟩, .int .i64 0, .int .i64 0, .bool false, .int .i64 0, .string ⟨#[]⟩, .slice none 0 0, .slice none 0 0] 41)) := ((Below.refl w.heap.size w).alloc (Nat.le_refl _) _).alloc (by simp) _
              have R2 := ((Blk.new w 41 #[.int .i64 0, .string ⟨#[]⟩, .string ⟨#[]⟩, .int .i64 0, .int .i64 0, .bool false, .int .i64 0, .string ⟨#[]⟩, .slice none 0 0, .slice none 0 0]).alloc (.cells #[.int .i64 16, .string ⟨#[]⟩, .string ⟨#[]⟩, .int .i64 0, .int .i64 0, .bool false, .int .i64 0, .string ⟨#[]⟩, .slice none 0 0, .slice none 0 0] 41)).below hb (by simp; omega)
              have N2 : Blk w2 (w.heap.size + 1) 41 #[.int .i64 16, .string ⟨#[]⟩, .string ⟨#[]⟩, .int .i64 0, .int .i64 0, .bool false, .int .i64 0, .string ⟨#[]⟩, .slice none 0 0, .slice none 0 0] := by have := (Blk.new (w.alloc (.cells #[.int .i64 0, .string ⟨#[]⟩, .string ⟨#[]⟩, .int .i64 0, .int .i64 0, .bool false, .int .i64 0, .string ⟨#[]⟩, .slice none 0 0, .slice none 0 0] 41)) 41 #[.int .i64 16, .string ⟨#[]⟩, .string ⟨#[]⟩, .int .i64 0, .int .i64 0, .bool false, .int .i64 0, .string ⟨#[]⟩, .slice none 0 0, .slice none 0 0]).below hb (by simp); simpa using this
              have HRb := hide R2
              have HNb := hide N2
              have HB2 := hide (B0.trans (hb.mono (by simp; omega)))
              clear B0 hb g0 g0a g0b g2 g2a g2b R2 N2
              have z0 : w2.cell? ⟨w.heap.size, 0, none⟩ = some (.int .i64 0) := blkR HRb.out rfl
              have z1 : w2.cell? ⟨w.heap.size, 1, none⟩ = some (.string ⟨#[]⟩) := blkR HRb.out rfl
              have z2 : w2.cell? ⟨w.heap.size, 2, none⟩ = some (.string ⟨#[]⟩) := blkR HRb.out rfl
              have z3 : w2.cell? ⟨w.heap.size, 3, none⟩ = some (.int .i64 0) := blkR HRb.out rfl
              have z4 : w2.cell? ⟨w.heap.size, 4, none⟩ = some (.int .i64 0) := blkR HRb.out rfl
              have z5 : w2.cell? ⟨w.heap.size, 5, none⟩ = some (.bool false) := blkR HRb.out rfl
              have z6 : w2.cell? ⟨w.heap.size, 6, none⟩ = some (.int .i64 0) := blkR HRb.out rfl
              have z7 : w2.cell? ⟨w.heap.size, 7, none⟩ = some (.string ⟨#[]⟩) := blkR HRb.out rfl
              have z8 : w2.cell? ⟨w.heap.size, 8, none⟩ = some (.slice none 0 0) := blkR HRb.out rfl
              have z9 : w2.cell? ⟨w.heap.size, 9, none⟩ = some (.slice none 0 0) := blkR HRb.out rfl
              have zf : ∀ i, w2.frozen? ⟨w.heap.size, i, none⟩ = false := fun i => HRb.out.frozen i
              have y0 : w2.cell? ⟨w.heap.size + 1, 0, none⟩ = some (.int .i64 16) := blkR HNb.out rfl
              have y1 : w2.cell? ⟨w.heap.size + 1, 1, none⟩ = some (.string ⟨#[]⟩) := blkR HNb.out rfl
              have y2 : w2.cell? ⟨w.heap.size + 1, 2, none⟩ = some (.string ⟨#[]⟩) := blkR HNb.out rfl
              have y3 : w2.cell? ⟨w.heap.size + 1, 3, none⟩ = some (.int .i64 0) := blkR HNb.out rfl
              have y4 : w2.cell? ⟨w.heap.size + 1, 4, none⟩ = some (.int .i64 0) := blkR HNb.out rfl
              have y5 : w2.cell? ⟨w.heap.size + 1, 5, none⟩ = some (.bool false) := blkR HNb.out rfl
              have y6 : w2.cell? ⟨w.heap.size + 1, 6, none⟩ = some (.int .i64 0) := blkR HNb.out rfl
              have y7 : w2.cell? ⟨w.heap.size + 1, 7, none⟩ = some (.string ⟨#[]⟩) := blkR HNb.out rfl
              have y8 : w2.cell? ⟨w.heap.size + 1, 8, none⟩ = some (.slice none 0 0) := blkR HNb.out rfl
              have y9 : w2.cell? ⟨w.heap.size + 1, 9, none⟩ = some (.slice none 0 0) := blkR HNb.out rfl
              have yf : ∀ i, w2.frozen? ⟨w.heap.size + 1, i, none⟩ = false := fun i => HNb.out.frozen i
              obtain ⟨b9, o9, cs9, e9, _, hb9, hV', hc9⟩ := HI.out.get HR.out (i := 1) (by simp)
              cases e9
              obtain ⟨k', b', n', s', AL', nL', cL', AK', nK', cK', rfl⟩ := hV'.shape
              have e10 : w2.cell? ⟨bA, o1, none⟩ = some (.int .i64 k') := by rw [show o1 = oA + 1 * 6 + 0 by have := HO1.out; omega]; exact (HB2.out.cell (by exact hb9)).trans (hc9 0 (by decide))
              have e11 : w2.cell? ⟨bA, o1 + 1, none⟩ = some (.bool b') := by rw [show o1 + 1 = oA + 1 * 6 + 1 by have := HO1.out; omega]; exact (HB2.out.cell (by exact hb9)).trans (hc9 1 (by decide))
              have e12 : w2.cell? ⟨bA, o1 + 2, none⟩ = some (.int .i64 n') := by rw [show o1 + 2 = oA + 1 * 6 + 2 by have := HO1.out; omega]; exact (HB2.out.cell (by exact hb9)).trans (hc9 2 (by decide))
              have e13 : w2.cell? ⟨bA, o1 + 3, none⟩ = some (.string s') := by rw [show o1 + 3 = oA + 1 * 6 + 3 by have := HO1.out; omega]; exact (HB2.out.cell (by exact hb9)).trans (hc9 3 (by decide))
              have e14 : w2.cell? ⟨bA, o1 + 4, none⟩ = some (.slice AL' nL' cL') := by rw [show o1 + 4 = oA + 1 * 6 + 4 by have := HO1.out; omega]; exact (HB2.out.cell (by exact hb9)).trans (hc9 4 (by decide))
              have e15 : w2.cell? ⟨bA, o1 + 5, none⟩ = some (.slice AK' nK' cK') := by rw [show o1 + 5 = oA + 1 * 6 + 5 by have := HO1.out; omega]; exact (HB2.out.cell (by exact hb9)).trans (hc9 5 (by decide))
              have HV' := hide hV'
              clear hV' hc9
              have hTA := HT.out (by simp)
              try subst hTA
              have hx_ : a.k = k' ∧ a.n = n' ∧ a.s = s' ∧ -9223372036854775808 ≤ n' ∧ n' ≤ 9223372036854775807 ∧ s'.size ≤ 9223372036854775807 := by
                have hV := HV'.out
                rw [show [x, a][1]'(by simp) = a from rfl] at hV
                obtain ⟨k9, b9, n9, s9, l9, ks9⟩ := a
                rw [IsV] at hV
                obtain ⟨_, _, _, _, _, e, _, hrg, _⟩ := hV
                cases e
                exact ⟨rfl, rfl, rfl, hrg.1, hrg.2.1, hrg.2.2.2.2.1⟩
              have HXA := hide hx_
              clear hx_
              go_upto_region 24 with (fail)
              clear z0 z1 z2 z3 z4 z5 z6 z7 z8 z9 zf y0 y1 y2 y3 y4 y5 y6 y7 y8 y9 yf e10 e11 e12 e13 e14 e15
              have OB : Only (fun b => b = w.heap.size + 1) w2 ((((((w2.setCell ⟨w.heap.size + 1, 4, none⟩ (.int .i64 k')).setCell ⟨w.heap.size + 1, 5, none⟩ (.bool b')).setCell ⟨w.heap.size + 1, 6, none⟩ (.int .i64 n')).setCell ⟨w.heap.size + 1, 7, none⟩ (.string s')).setCell ⟨w.heap.size + 1, 8, none⟩ (.slice AL' nL' cL')).setCell ⟨w.heap.size + 1, 9, none⟩ (.slice AK' nK' cK')) := ((((((Only.refl (fun b => b = w.heap.size + 1) w2).setCell (p := ⟨w.heap.size + 1, 4, none⟩) (.inl rfl) (.int .i64 k')).setCell (p := ⟨w.heap.size + 1, 5, none⟩) (.inl rfl) (.bool b')).setCell (p := ⟨w.heap.size + 1, 6, none⟩) (.inl rfl) (.int .i64 n')).setCell (p := ⟨w.heap.size + 1, 7, none⟩) (.inl rfl) (.string s')).setCell (p := ⟨w.heap.size + 1, 8, none⟩) (.inl rfl) (.slice AL' nL' cL')).setCell (p := ⟨w.heap.size + 1, 9, none⟩) (.inl rfl) (.slice AK' nK' cK')
              have N3 : Blk ((((((w2.setCell ⟨w.heap.size + 1, 4, none⟩ (.int .i64 k')).setCell ⟨w.heap.size + 1, 5, none⟩ (.bool b')).setCell ⟨w.heap.size + 1, 6, none⟩ (.int .i64 n')).setCell ⟨w.heap.size + 1, 7, none⟩ (.string s')).setCell ⟨w.heap.size + 1, 8, none⟩ (.slice AL' nL' cL')).setCell ⟨w.heap.size + 1, 9, none⟩ (.slice AK' nK' cK')) (w.heap.size + 1) 41 #[.int .i64 16, .string ⟨#[]⟩, .string ⟨#[]⟩, .int .i64 0, .int .i64 k', .bool b', .int .i64 n', .string s', .slice AL' nL' cL', .slice AK' nK' cK'] := by simpa using ((((((HNb.out).set_ 4 (.int .i64 k')).set_ 5 (.bool b')).set_ 6 (.int .i64 n')).set_ 7 (.string s')).set_ 8 (.slice AL' nL' cL')).set_ 9 (.slice AK' nK' cK')
              generalize hW : ((((((w2.setCell ⟨w.heap.size + 1, 4, none⟩ (.int .i64 k')).setCell ⟨w.heap.size + 1, 5, none⟩ (.bool b')).setCell ⟨w.heap.size + 1, 6, none⟩ (.int .i64 n')).setCell ⟨w.heap.size + 1, 7, none⟩ (.string s')).setCell ⟨w.heap.size + 1, 8, none⟩ (.slice AL' nL' cL')).setCell ⟨w.heap.size + 1, 9, none⟩ (.slice AK' nK' cK')) = W3 at OB N3 ⊢
              clear hW
              have HR3 := hide (HRb.out.only OB (by omega))
              have HN3 := hide N3
              have HB3 := hide (HB2.out.trans (OB.below (B := w.heap.size) (by intro b _ e; have e : b = w.heap.size + 1 := e; omega) HB2.out.size))
              clear OB N3
              have z0 : W3.cell? ⟨w.heap.size, 0, none⟩ = some (.int .i64 0) := blkR HR3.out rfl
              have z1 : W3.cell? ⟨w.heap.size, 1, none⟩ = some (.string ⟨#[]⟩) := blkR HR3.out rfl
              have z2 : W3.cell? ⟨w.heap.size, 2, none⟩ = some (.string ⟨#[]⟩) := blkR HR3.out rfl
              have z3 : W3.cell? ⟨w.heap.size, 3, none⟩ = some (.int .i64 0) := blkR HR3.out rfl
              have z4 : W3.cell? ⟨w.heap.size, 4, none⟩ = some (.int .i64 0) := blkR HR3.out rfl
              have z5 : W3.cell? ⟨w.heap.size, 5, none⟩ = some (.bool false) := blkR HR3.out rfl
              have z6 : W3.cell? ⟨w.heap.size, 6, none⟩ = some (.int .i64 0) := blkR HR3.out rfl
              have z7 : W3.cell? ⟨w.heap.size, 7, none⟩ = some (.string ⟨#[]⟩) := blkR HR3.out rfl
              have z8 : W3.cell? ⟨w.heap.size, 8, none⟩ = some (.slice none 0 0) := blkR HR3.out rfl
              have z9 : W3.cell? ⟨w.heap.size, 9, none⟩ = some (.slice none 0 0) := blkR HR3.out rfl
              have zf : ∀ i, W3.frozen? ⟨w.heap.size, i, none⟩ = false := fun i => HR3.out.frozen i
              have y0 : W3.cell? ⟨w.heap.size + 1, 0, none⟩ = some (.int .i64 16) := blkR HN3.out rfl
              have y1 : W3.cell? ⟨w.heap.size + 1, 1, none⟩ = some (.string ⟨#[]⟩) := blkR HN3.out rfl
              have y2 : W3.cell? ⟨w.heap.size + 1, 2, none⟩ = some (.string ⟨#[]⟩) := blkR HN3.out rfl
              have y3 : W3.cell? ⟨w.heap.size + 1, 3, none⟩ = some (.int .i64 0) := blkR HN3.out rfl
              have y4 : W3.cell? ⟨w.heap.size + 1, 4, none⟩ = some (.int .i64 k') := blkR HN3.out rfl
              have y5 : W3.cell? ⟨w.heap.size + 1, 5, none⟩ = some (.bool b') := blkR HN3.out rfl
              have y6 : W3.cell? ⟨w.heap.size + 1, 6, none⟩ = some (.int .i64 n') := blkR HN3.out rfl
              have y7 : W3.cell? ⟨w.heap.size + 1, 7, none⟩ = some (.string s') := blkR HN3.out rfl
              have y8 : W3.cell? ⟨w.heap.size + 1, 8, none⟩ = some (.slice AL' nL' cL') := blkR HN3.out rfl
              have y9 : W3.cell? ⟨w.heap.size + 1, 9, none⟩ = some (.slice AK' nK' cK') := blkR HN3.out rfl
              have HOF := hide (show ofM [x, a] = if true = true then some (⟨16, .empty, .empty, 0, a⟩ : M) else none from HOT.out)
              have HXE := hide (set10 HR3.out (.int .i64 16) (.string ⟨#[]⟩) (.string ⟨#[]⟩) (.int .i64 0) (.int .i64 k') (.bool b') (.int .i64 n') (.string s') (.slice AL' nL' cL') (.slice AK' nK' cK'))
              have OE := only10 (Only.refl (fun b => b = w.heap.size) W3) (.inl rfl) (.int .i64 16) (.string ⟨#[]⟩) (.string ⟨#[]⟩) (.int .i64 0) (.int .i64 k') (.bool b') (.int .i64 n') (.string s') (.slice AL' nL' cL') (.slice AK' nK' cK')
              have BE := HB3.out.trans (OE.below (B := w.heap.size) (by intro b _ e; have e : b = w.heap.size := e; omega) HB3.out.size)
              have HBE := hide BE
              clear OE BE
              go_wp2
              refine bodyPost_ret (results_cell2 rfl _ _ w.heap.size 41 _ _ rfl HXE.out Try.underlying41 rfl (by kernel_rfl)) rfl ?_
              exact OfP_mk HBE.out HOF.out (⟨bd16, bd0, emp9, emp9, (show wf a from HV'.out.wf)⟩) rfl rfl rfl rfl ((show IsV _ _ a _ from HV'.out.below HBE.out (fun b h => h.2)))
            · have tL : ((L : Int) == 1) = false := by simp; omega
              have tL2 : ((L : Int) != 1) = true := by simp; omega
              have HL1 := hide hL1
              clear hL1
              go_enter Try.func43, Try.ntmps43
              go_wp2_with fail
              refine (show Calls Try.prog 47 #[.int .i64 16] ((w.alloc (.cells #[.int .i64 0, .string ⟨#[]⟩, .string ⟨#[]⟩, .int .i64 0, .int .i64 0, .bool false, .int .i64 0, .string ⟨#[]⟩, .slice none 0 0, .slice none 0 0] 41)).alloc (.cells #[.int .i64 16, .string ⟨#[]⟩, .string ⟨#[]⟩, .int .i64 0, .int .i64 0, .bool false, .int .i64 0, .string ⟨#[]⟩, .slice none 0 0, .slice none 0 0] 41)) (fun e w' => e = .returned (.tuple #[.int .i64 4, .bool true]) ∧ Below ((w.alloc (.cells #[.int .i64 0, .string ⟨#[]⟩, .string ⟨#[]⟩, .int .i64 0, .int .i64 0, .bool false, .int .i64 0, .string ⟨#[]⟩, .slice none 0 0, .slice none 0 0] 41)).alloc (.cells #[.int .i64 16, .string ⟨#[]⟩, .string ⟨#[]⟩, .int .i64 0, .int .i64 0, .bool false, .int .i64 0, .string ⟨#[]⟩, .slice none 0 0, .slice none 0 0] 41)).heap.size ((w.alloc (.cells #[.int .i64 0, .string ⟨#[]⟩, .string ⟨#[]⟩, .int .i64 0, .int .i64 0, .bool false, .int .i64 0, .string ⟨#[]⟩, .slice none 0 0, .slice none 0 0] 41)).alloc (.cells #[.int .i64 16, .string ⟨#[]⟩, .string ⟨#[]⟩, .int .i64 0, .int .i64 0, .bool false, .int .i64 0, .string ⟨#[]⟩, .slice none 0 0, .slice none 0 0] 41)) w') from parts_any 16 _).mono ?_
              rintro e w2 ⟨rfl, hb⟩
              have B0 : Below w.heap.size w ((w.alloc (.cells #[.int .i64 0, .string ⟨#[]⟩, .string ⟨#[]⟩, .int .i64 0, .int .i64 0, .bool false, .int .i64 0, .string ⟨#[]⟩, .slice none 0 0, .slice none 0 0] 41)).alloc (.cells #[.int .i64 16, .string ⟨#[]⟩, .string ⟨#[]⟩, .int .i64 0, .int .i64 0, .bool false, .int .i64 0, .string ⟨#[]⟩, .slice none 0 0, .slice none 0 0] 41)) := ((Below.refl w.heap.size w).alloc (Nat.le_refl _) _).alloc (by simp) _
              have R2 := ((Blk.new w 41 #[.int .i64 0, .string ⟨#[]⟩, .string ⟨#[]⟩, .int .i64 0, .int .i64 0, .bool false, .int .i64 0, .string ⟨#[]⟩, .slice none 0 0, .slice none 0 0]).alloc (.cells #[.int .i64 16, .string ⟨#[]⟩, .string ⟨#[]⟩, .int .i64 0, .int .i64 0, .bool false, .int .i64 0, .string ⟨#[]⟩, .slice none 0 0, .slice none 0 0] 41)).below hb (by simp; omega)
              have N2 : Blk w2 (w.heap.size + 1) 41 #[.int .i64 16, .string ⟨#[]⟩, .string ⟨#[]⟩, .int .i64 0, .int .i64 0, .bool false, .int .i64 0, .string ⟨#[]⟩, .slice none 0 0, .slice none 0 0] := by have := (Blk.new (w.alloc (.cells #[.int .i64 0, .string ⟨#[]⟩, .string ⟨#[]⟩, .int .i64 0, .int .i64 0, .bool false, .int .i64 0, .string ⟨#[]⟩, .slice none 0 0, .slice none 0 0] 41)) 41 #[.int .i64 16, .string ⟨#[]⟩, .string ⟨#[]⟩, .int .i64 0, .int .i64 0, .bool false, .int .i64 0, .string ⟨#[]⟩, .slice none 0 0, .slice none 0 0]).below hb (by simp); simpa using this
              have HRb := hide R2
              have HNb := hide N2
              have HB2 := hide (B0.trans (hb.mono (by simp; omega)))
              clear B0 hb g0 g0a g0b g2 g2a g2b R2 N2
              have z0 : w2.cell? ⟨w.heap.size, 0, none⟩ = some (.int .i64 0) := blkR HRb.out rfl
              have z1 : w2.cell? ⟨w.heap.size, 1, none⟩ = some (.string ⟨#[]⟩) := blkR HRb.out rfl
              have z2 : w2.cell? ⟨w.heap.size, 2, none⟩ = some (.string ⟨#[]⟩) := blkR HRb.out rfl
              have z3 : w2.cell? ⟨w.heap.size, 3, none⟩ = some (.int .i64 0) := blkR HRb.out rfl
              have z4 : w2.cell? ⟨w.heap.size, 4, none⟩ = some (.int .i64 0) := blkR HRb.out rfl
              have z5 : w2.cell? ⟨w.heap.size, 5, none⟩ = some (.bool false) := blkR HRb.out rfl
              have z6 : w2.cell? ⟨w.heap.size, 6, none⟩ = some (.int .i64 0) := blkR HRb.out rfl
              have z7 : w2.cell? ⟨w.heap.size, 7, none⟩ = some (.string ⟨#[]⟩) := blkR HRb.out rfl
              have z8 : w2.cell? ⟨w.heap.size, 8, none⟩ = some (.slice none 0 0) := blkR HRb.out rfl
              have z9 : w2.cell? ⟨w.heap.size, 9, none⟩ = some (.slice none 0 0) := blkR HRb.out rfl
              have zf : ∀ i, w2.frozen? ⟨w.heap.size, i, none⟩ = false := fun i => HRb.out.frozen i
              have y0 : w2.cell? ⟨w.heap.size + 1, 0, none⟩ = some (.int .i64 16) := blkR HNb.out rfl
              have y1 : w2.cell? ⟨w.heap.size + 1, 1, none⟩ = some (.string ⟨#[]⟩) := blkR HNb.out rfl
              have y2 : w2.cell? ⟨w.heap.size + 1, 2, none⟩ = some (.string ⟨#[]⟩) := blkR HNb.out rfl
              have y3 : w2.cell? ⟨w.heap.size + 1, 3, none⟩ = some (.int .i64 0) := blkR HNb.out rfl
              have y4 : w2.cell? ⟨w.heap.size + 1, 4, none⟩ = some (.int .i64 0) := blkR HNb.out rfl
              have y5 : w2.cell? ⟨w.heap.size + 1, 5, none⟩ = some (.bool false) := blkR HNb.out rfl
              have y6 : w2.cell? ⟨w.heap.size + 1, 6, none⟩ = some (.int .i64 0) := blkR HNb.out rfl
              have y7 : w2.cell? ⟨w.heap.size + 1, 7, none⟩ = some (.string ⟨#[]⟩) := blkR HNb.out rfl
              have y8 : w2.cell? ⟨w.heap.size + 1, 8, none⟩ = some (.slice none 0 0) := blkR HNb.out rfl
              have y9 : w2.cell? ⟨w.heap.size + 1, 9, none⟩ = some (.slice none 0 0) := blkR HNb.out rfl
              have yf : ∀ i, w2.frozen? ⟨w.heap.size + 1, i, none⟩ = false := fun i => HNb.out.frozen i
              have HOF := hide (show ofM (x :: r) = if false = true then some (⟨16, .empty, .empty, 0, nul⟩ : M) else none from by rw [HOT.out]; exact ofT_one (by decide) (by decide) (fun h => HL1.out (HL.out.trans h)))
              have HXE := hide (set10 HRb.out (.int .i64 16) (.string ⟨#[]⟩) (.string ⟨#[]⟩) (.int .i64 0) (.int .i64 0) (.bool false) (.int .i64 0) (.string ⟨#[]⟩) (.slice none 0 0) (.slice none 0 0))
              have OE := only10 (Only.refl (fun b => b = w.heap.size) w2) (.inl rfl) (.int .i64 16) (.string ⟨#[]⟩) (.string ⟨#[]⟩) (.int .i64 0) (.int .i64 0) (.bool false) (.int .i64 0) (.string ⟨#[]⟩) (.slice none 0 0) (.slice none 0 0)
              have BE := HB2.out.trans (OE.below (B := w.heap.size) (by intro b _ e; have e : b = w.heap.size := e; omega) HB2.out.size)
              have HBE := hide BE
              clear OE BE
              go_wp2
              refine bodyPost_ret (results_cell2 rfl _ _ w.heap.size 41 _ _ rfl HXE.out Try.underlying41 rfl (by kernel_rfl)) rfl ?_
              exact OfP_mk HBE.out HOF.out (⟨bd16, bd0, emp9, emp9, wf_nul⟩) rfl rfl rfl rfl (nulV)
          · have hkk : knownK 17 = true := by decide
            have HOT := hide (of_yes (r := r) HXK.out.1 HXK.out.2.1 hkk)
            clear hkk
            by_cases hL1 : L = 1
            · obtain ⟨a, rfl⟩ : ∃ a, r = [a] := by
                match r, HL.out with
                | [a], _ => exact ⟨a, rfl⟩
                | [], h => have : L = 0 := h; omega
                | _ :: _ :: r', h => have : L = r'.length + 1 + 1 := h; omega
              subst hL1
              go_enter Try.func43, Try.ntmps43
              go_wp2_with fail
              refine (show Calls Try.prog 47 #[.int .i64 17] ((w.alloc (.cells #[.int .i64 0, .string ⟨#[]⟩, .string ⟨#[]⟩, .int .i64 0, .int .i64 0, .bool false, .int .i64 0, .string ⟨#[]⟩, .slice none 0 0, .slice none 0 0] 41)).alloc (.cells #[.int .i64 17, .string ⟨#[]⟩, .string ⟨#[]⟩, .int .i64 0, .int .i64 0, .bool false, .int .i64 0, .string ⟨#[]⟩, .slice none 0 0, .slice none 0 0] 41)) (fun e w' => e = .returned (.tuple #[.int .i64 5, .bool true]) ∧ Below ((w.alloc (.cells #[.int .i64 0, .string ⟨#[]⟩, .string ⟨#[]⟩, .int .i64 0, .int .i64 0, .bool false, .int .i64 0, .string ⟨#[]⟩, .slice none 0 0, .slice none 0 0] 41)).alloc (.cells #[.int .i64 17, .string ⟨#[]⟩, .string ⟨#[]⟩, .int .i64 0, .int .i64 0, .bool false, .int .i64 0, .string ⟨#[]⟩, .slice none 0 0, .slice none 0 0] 41)).heap.size ((w.alloc (.cells #[.int .i64 0, .string ⟨#[]⟩, .string ⟨#[]⟩, .int .i64 0, .int .i64 0, .bool false, .int .i64 0, .string ⟨#[]⟩, .slice none 0 0, .slice none 0 0] 41)).alloc (.cells #[.int .i64 17, .string ⟨#[]⟩, .string ⟨#[]⟩, .int .i64 0, .int .i64 0, .bool false, .int .i64 0, .string ⟨#[]⟩, .slice none 0 0, .slice none 0 0] 41)) w') from parts_any 17 _).mono ?_
              rintro e w2 ⟨rfl, hb⟩
              have B0 : Below w.heap.size w ((w.alloc (.cells #[.int .i64 0, .string ⟨#[]⟩, .string ⟨#[]⟩, .int .i64 0, .int .i64 0, .bool false, .int .i64 0, .string ⟨#[]⟩, .slice none 0 0, .slice none 0 0] 41)).alloc (.cells #[.int .i64 17, .string ⟨#[]⟩, .string ⟨#[]⟩, .int .i64 0, .int .i64 0, .bool false, .int .i64 0, .string ⟨#[]⟩, .slice none 0 0, .slice none 0 0] 41)) := ((Below.refl w.heap.size w).alloc (Nat.le_refl _) _).alloc (by simp) _
              have R2 := ((Blk.new w 41 #[.int .i64 0, .string ⟨#[]⟩, .string ⟨#[]⟩, .int .i64 0, .int .i64 0, .bool false, .int .i64 0, .string ⟨#[]⟩, .slice none 0 0, .slice none 0 0]).alloc (.cells #[.int .i64 17, .string ⟨#[]⟩, .string ⟨#[]⟩, .int .i64 0, .int .i64 0, .bool false, .int .i64 0, .string ⟨#[]⟩, .slice none 0 0, .slice none 0 0] 41)).below hb (by simp; omega)
              have N2 : Blk w2 (w.heap.size + 1) 41 #[.int .i64 17, .string ⟨#[]⟩, .string ⟨#[]⟩, .int .i64 0, .int .i64 0, .bool false, .int .i64 0, .string ⟨#[]⟩, .slice none 0 0, .slice none 0 0] := by have := (Blk.new (w.alloc (.cells #[.int .i64 0, .string ⟨#[]⟩, .string ⟨#[]⟩, .int .i64 0, .int .i64 0, .bool false, .int .i64 0, .string ⟨#[]⟩, .slice none 0 0, .slice none 0 0] 41)) 41 #[.int .i64 17, .string ⟨#[]⟩, .string ⟨#[]⟩, .int .i64 0, .int .i64 0, .bool false, .int .i64 0, .string ⟨#[]⟩, .slice none 0 0, .slice none 0 0]).below hb (by simp); simpa using this
              have HRb := hide R2
              have HNb := hide N2
              have HB2 := hide (B0.trans (hb.mono (by simp; omega)))
              clear B0 hb g0 g0a g0b g2 g2a g2b R2 N2
              have z0 : w2.cell? ⟨w.heap.size, 0, none⟩ = some (.int .i64 0) := blkR HRb.out rfl
              have z1 : w2.cell? ⟨w.heap.size, 1, none⟩ = some (.string ⟨#[]⟩) := blkR HRb.out rfl
              have z2 : w2.cell? ⟨w.heap.size, 2, none⟩ = some (.string ⟨#[]⟩) := blkR HRb.out rfl
              have z3 : w2.cell? ⟨w.heap.size, 3, none⟩ = some (.int .i64 0) := blkR HRb.out rfl
              have z4 : w2.cell? ⟨w.heap.size, 4, none⟩ = some (.int .i64 0) := blkR HRb.out rfl
              have z5 : w2.cell? ⟨w.heap.size, 5, none⟩ = some (.bool false) := blkR HRb.out rfl
              have z6 : w2.cell? ⟨w.heap.size, 6, none⟩ = some (.int .i64 0) := blkR HRb.out rfl
              have z7 : w2.cell? ⟨w.heap.size, 7, none⟩ = some (.string ⟨#[]⟩) := blkR HRb.out rfl
              have z8 : w2.cell? ⟨w.heap.size, 8, none⟩ = some (.slice none 0 0) := blkR HRb.out rfl
              have z9 : w2.cell? ⟨w.heap.size, 9, none⟩ = some (.slice none 0 0) := blkR HRb.out rfl
              have zf : ∀ i, w2.frozen? ⟨w.heap.size, i, none⟩ = false := fun i => HRb.out.frozen i
              have y0 : w2.cell? ⟨w.heap.size + 1, 0, none⟩ = some (.int .i64 17) := blkR HNb.out rfl
              have y1 : w2.cell? ⟨w.heap.size + 1, 1, none⟩ = some (.string ⟨#[]⟩) := blkR HNb.out rfl
              have y2 : w2.cell? ⟨w.heap.size + 1, 2, none⟩ = some (.string ⟨#[]⟩) := blkR HNb.out rfl
              have y3 : w2.cell? ⟨w.heap.size + 1, 3, none⟩ = some (.int .i64 0) := blkR HNb.out rfl
              have y4 : w2.cell? ⟨w.heap.size + 1, 4, none⟩ = some (.int .i64 0) := blkR HNb.out rfl
              have y5 : w2.cell? ⟨w.heap.size + 1, 5, none⟩ = some (.bool false) := blkR HNb.out rfl
              have y6 : w2.cell? ⟨w.heap.size + 1, 6, none⟩ = some (.int .i64 0) := blkR HNb.out rfl
              have y7 : w2.cell? ⟨w.heap.size + 1, 7, none⟩ = some (.string ⟨#[]⟩) := blkR HNb.out rfl
              have y8 : w2.cell? ⟨w.heap.size + 1, 8, none⟩ = some (.slice none 0 0) := blkR HNb.out rfl
              have y9 : w2.cell? ⟨w.heap.size + 1, 9, none⟩ = some (.slice none 0 0) := blkR HNb.out rfl
              have yf : ∀ i, w2.frozen? ⟨w.heap.size + 1, i, none⟩ = false := fun i => HNb.out.frozen i
              obtain ⟨b9, o9, cs9, e9, _, hb9, hV', hc9⟩ := HI.out.get HR.out (i := 1) (by simp)
              cases e9
              obtain ⟨k', b', n', s', AL', nL', cL', AK', nK', cK', rfl⟩ := hV'.shape
              have e10 : w2.cell? ⟨bA, o1, none⟩ = some (.int .i64 k') := by rw [show o1 = oA + 1 * 6 + 0 by have := HO1.out; omega]; exact (HB2.out.cell (by exact hb9)).trans (hc9 0 (by decide))
              have e11 : w2.cell? ⟨bA, o1 + 1, none⟩ = some (.bool b') := by rw [show o1 + 1 = oA + 1 * 6 + 1 by have := HO1.out; omega]; exact (HB2.out.cell (by exact hb9)).trans (hc9 1 (by decide))
              have e12 : w2.cell? ⟨bA, o1 + 2, none⟩ = some (.int .i64 n') := by rw [show o1 + 2 = oA + 1 * 6 + 2 by have := HO1.out; omega]; exact (HB2.out.cell (by exact hb9)).trans (hc9 2 (by decide))
              have e13 : w2.cell? ⟨bA, o1 + 3, none⟩ = some (.string s') := by rw [show o1 + 3 = oA + 1 * 6 + 3 by have := HO1.out; omega]; exact (HB2.out.cell (by exact hb9)).trans (hc9 3 (by decide))
              have e14 : w2.cell? ⟨bA, o1 + 4, none⟩ = some (.slice AL' nL' cL') := by rw [show o1 + 4 = oA + 1 * 6 + 4 by have := HO1.out; omega]; exact (HB2.out.cell (by exact hb9)).trans (hc9 4 (by decide))
              have e15 : w2.cell? ⟨bA, o1 + 5, none⟩ = some (.slice AK' nK' cK') := by rw [show o1 + 5 = oA + 1 * 6 + 5 by have := HO1.out; omega]; exact (HB2.out.cell (by exact hb9)).trans (hc9 5 (by decide))
              have HV' := hide hV'
              clear hV' hc9
              have hTA := HT.out (by simp)
              try subst hTA
              have hx_ : a.k = k' ∧ a.n = n' ∧ a.s = s' ∧ -9223372036854775808 ≤ n' ∧ n' ≤ 9223372036854775807 ∧ s'.size ≤ 9223372036854775807 := by
                have hV := HV'.out
                rw [show [x, a][1]'(by simp) = a from rfl] at hV
                obtain ⟨k9, b9, n9, s9, l9, ks9⟩ := a
                rw [IsV] at hV
                obtain ⟨_, _, _, _, _, e, _, hrg, _⟩ := hV
                cases e
                exact ⟨rfl, rfl, rfl, hrg.1, hrg.2.1, hrg.2.2.2.2.1⟩
              have HXA := hide hx_
              clear hx_
              go_upto_region 24 with (fail)
              clear z0 z1 z2 z3 z4 z5 z6 z7 z8 z9 zf y0 y1 y2 y3 y4 y5 y6 y7 y8 y9 yf e10 e11 e12 e13 e14 e15
              have OB : Only (fun b => b = w.heap.size + 1) w2 ((((((w2.setCell ⟨w.heap.size + 1, 4, none⟩ (.int .i64 k')).setCell ⟨w.heap.size + 1, 5, none⟩ (.bool b')).setCell ⟨w.heap.size + 1, 6, none⟩ (.int .i64 n')).setCell ⟨w.heap.size + 1, 7, none⟩ (.string s')).setCell ⟨w.heap.size + 1, 8, none⟩ (.slice AL' nL' cL')).setCell ⟨w.heap.size + 1, 9, none⟩ (.slice AK' nK' cK')) := ((((((Only.refl (fun b => b = w.heap.size + 1) w2).setCell (p := ⟨w.heap.size + 1, 4, none⟩) (.inl rfl) (.int .i64 k')).setCell (p := ⟨w.heap.size + 1, 5, none⟩) (.inl rfl) (.bool b')).setCell (p := ⟨w.heap.size + 1, 6, none⟩) (.inl rfl) (.int .i64 n')).setCell (p := ⟨w.heap.size + 1, 7, none⟩) (.inl rfl) (.string s')).setCell (p := ⟨w.heap.size + 1, 8, none⟩) (.inl rfl) (.slice AL' nL' cL')).setCell (p := ⟨w.heap.size + 1, 9, none⟩) (.inl rfl) (.slice AK' nK' cK')
              have N3 : Blk ((((((w2.setCell ⟨w.heap.size + 1, 4, none⟩ (.int .i64 k')).setCell ⟨w.heap.size + 1, 5, none⟩ (.bool b')).setCell ⟨w.heap.size + 1, 6, none⟩ (.int .i64 n')).setCell ⟨w.heap.size + 1, 7, none⟩ (.string s')).setCell ⟨w.heap.size + 1, 8, none⟩ (.slice AL' nL' cL')).setCell ⟨w.heap.size + 1, 9, none⟩ (.slice AK' nK' cK')) (w.heap.size + 1) 41 #[.int .i64 17, .string ⟨#[]⟩, .string ⟨#[]⟩, .int .i64 0, .int .i64 k', .bool b', .int .i64 n', .string s', .slice AL' nL' cL', .slice AK' nK' cK'] := by simpa using ((((((HNb.out).set_ 4 (.int .i64 k')).set_ 5 (.bool b')).set_ 6 (.int .i64 n')).set_ 7 (.string s')).set_ 8 (.slice AL' nL' cL')).set_ 9 (.slice AK' nK' cK')
              generalize hW : ((((((w2.setCell ⟨w.heap.size + 1, 4, none⟩ (.int .i64 k')).setCell ⟨w.heap.size + 1, 5, none⟩ (.bool b')).setCell ⟨w.heap.size + 1, 6, none⟩ (.int .i64 n')).setCell ⟨w.heap.size + 1, 7, none⟩ (.string s')).setCell ⟨w.heap.size + 1, 8, none⟩ (.slice AL' nL' cL')).setCell ⟨w.heap.size + 1, 9, none⟩ (.slice AK' nK' cK')) = W3 at OB N3 ⊢
              clear hW
              have HR3 := hide (HRb.out.only OB (by omega))
              have HN3 := hide N3
              have HB3 := hide (HB2.out.trans (OB.below (B := w.heap.size) (by intro b _ e; have e : b = w.heap.size + 1 := e; omega) HB2.out.size))
              clear OB N3
              have z0 : W3.cell? ⟨w.heap.size, 0, none⟩ = some (.int .i64 0) := blkR HR3.out rfl
              have z1 : W3.cell? ⟨w.heap.size, 1, none⟩ = some (.string ⟨#[]⟩) := blkR HR3.out rfl
              have z2 : W3.cell? ⟨w.heap.size, 2, none⟩ = some (.string ⟨#[]⟩) := blkR HR3.out rfl
              have z3 : W3.cell? ⟨w.heap.size, 3, none⟩ = some (.int .i64 0) := blkR HR3.out rfl
              have z4 : W3.cell? ⟨w.heap.size, 4, none⟩ = some (.int .i64 0) := blkR HR3.out rfl
              have z5 : W3.cell? ⟨w.heap.size, 5, none⟩ = some (.bool false) := blkR HR3.out rfl
              have z6 : W3.cell? ⟨w.heap.size, 6, none⟩ = some (.int .i64 0) := blkR HR3.out rfl
              have z7 : W3.cell? ⟨w.heap.size, 7, none⟩ = some (.string ⟨#[]⟩) := blkR HR3.out rfl
              have z8 : W3.cell? ⟨w.heap.size, 8, none⟩ = some (.slice none 0 0) := blkR HR3.out rfl
              have z9 : W3.cell? ⟨w.heap.size, 9, none⟩ = some (.slice none 0 0) := blkR HR3.out rfl
              have zf : ∀ i, W3.frozen? ⟨w.heap.size, i, none⟩ = false := fun i => HR3.out.frozen i
              have y0 : W3.cell? ⟨w.heap.size + 1, 0, none⟩ = some (.int .i64 17) := blkR HN3.out rfl
              have y1 : W3.cell? ⟨w.heap.size + 1, 1, none⟩ = some (.string ⟨#[]⟩) := blkR HN3.out rfl
              have y2 : W3.cell? ⟨w.heap.size + 1, 2, none⟩ = some (.string ⟨#[]⟩) := blkR HN3.out rfl
              have y3 : W3.cell? ⟨w.heap.size + 1, 3, none⟩ = some (.int .i64 0) := blkR HN3.out rfl
              have y4 : W3.cell? ⟨w.heap.size + 1, 4, none⟩ = some (.int .i64 k') := blkR HN3.out rfl
              have y5 : W3.cell? ⟨w.heap.size + 1, 5, none⟩ = some (.bool b') := blkR HN3.out rfl
              have y6 : W3.cell? ⟨w.heap.size + 1, 6, none⟩ = some (.int .i64 n') := blkR HN3.out rfl
              have y7 : W3.cell? ⟨w.heap.size + 1, 7, none⟩ = some (.string s') := blkR HN3.out rfl
              have y8 : W3.cell? ⟨w.heap.size + 1, 8, none⟩ = some (.slice AL' nL' cL') := blkR HN3.out rfl
              have y9 : W3.cell? ⟨w.heap.size + 1, 9, none⟩ = some (.slice AK' nK' cK') := blkR HN3.out rfl
              have HOF := hide (show ofM [x, a] = if true = true then some (⟨17, .empty, .empty, 0, a⟩ : M) else none from HOT.out)
              have HXE := hide (set10 HR3.out (.int .i64 17) (.string ⟨#[]⟩) (.string ⟨#[]⟩) (.int .i64 0) (.int .i64 k') (.bool b') (.int .i64 n') (.string s') (.slice AL' nL' cL') (.slice AK' nK' cK'))
              have OE := only10 (Only.refl (fun b => b = w.heap.size) W3) (.inl rfl) (.int .i64 17) (.string ⟨#[]⟩) (.string ⟨#[]⟩) (.int .i64 0) (.int .i64 k') (.bool b') (.int .i64 n') (.string s') (.slice AL' nL' cL') (.slice AK' nK' cK')
              have BE := HB3.out.trans (OE.below (B := w.heap.size) (by intro b _ e; have e : b = w.heap.size := e; omega) HB3.out.size)
              have HBE := hide BE
              clear OE BE
              go_wp2
              refine bodyPost_ret (results_cell2 rfl _ _ w.heap.size 41 _ _ rfl HXE.out Try.underlying41 rfl (by kernel_rfl)) rfl ?_
              exact OfP_mk HBE.out HOF.out (⟨bd17, bd0, emp9, emp9, (show wf a from HV'.out.wf)⟩) rfl rfl rfl rfl ((show IsV _ _ a _ from HV'.out.below HBE.out (fun b h => h.2)))
            · have tL : ((L : Int) == 1) = false := by simp; omega
              have tL2 : ((L : Int) != 1) = true := by simp; omega
              have HL1 := hide hL1
              clear hL1
              go_enter Try.func43, Try.ntmps43
              go_wp2_with fail
              refine (show Calls Try.prog 47 #[.int .i64 17] ((w.alloc (.cells #[.int .i64 0, .string ⟨#[]⟩, .string ⟨#[]⟩, .int .i64 0, .int .i64 0, .bool false, .int .i64 0, .string ⟨#[]⟩, .slice none 0 0, .slice none 0 0] 41)).alloc (.cells #[.int .i64 17, .string ⟨#[]⟩, .string ⟨#[]⟩, .int .i64 0, .int .i64 0, .bool false, .int .i64 0, .string ⟨#[]⟩, .slice none 0 0, .slice none 0 0] 41)) (fun e w' => e = .returned (.tuple #[.int .i64 5, .bool true]) ∧ Below ((w.alloc (.cells #[.int .i64 0, .string ⟨#[]⟩, .string ⟨#[]⟩, .int .i64 0, .int .i64 0, .bool false, .int .i64 0, .string ⟨#[]⟩, .slice none 0 0, .slice none 0 0] 41)).alloc (.cells #[.int .i64 17, .string ⟨#[]⟩, .string ⟨#[]⟩, .int .i64 0, .int .i64 0, .bool false, .int .i64 0, .string ⟨#[]⟩, .slice none 0 0, .slice none 0 0] 41)).heap.size ((w.alloc (.cells #[.int .i64 0, .string ⟨#[]⟩, .string ⟨#[]⟩, .int .i64 0, .int .i64 0, .bool false, .int .i64 0, .string ⟨#[]⟩, .slice none 0 0, .slice none 0 0] 41)).alloc (.cells #[.int .i64 17, .string ⟨#[]⟩, .string ⟨#[]⟩, .int .i64 0, .int .i64 0, .bool false, .int .i64 0, .string ⟨#[]⟩, .slice none 0 0, .slice none 0 0] 41)) w') from parts_any 17 _).mono ?_
              rintro e w2 ⟨rfl, hb⟩
              have B0 : Below w.heap.size w ((w.alloc (.cells #[.int .i64 0, .string ⟨#[]⟩, .string ⟨#[]⟩, .int .i64 0, .int .i64 0, .bool false, .int .i64 0, .string ⟨#[]⟩, .slice none 0 0, .slice none 0 0] 41)).alloc (.cells #[.int .i64 17, .string ⟨#[]⟩, .string ⟨#[]⟩, .int .i64 0, .int .i64 0, .bool false, .int .i64 0, .string ⟨#[]⟩, .slice none 0 0, .slice none 0 0] 41)) := ((Below.refl w.heap.size w).alloc (Nat.le_refl _) _).alloc (by simp) _
              have R2 := ((Blk.new w 41 #[.int .i64 0, .string ⟨#[]⟩, .string ⟨#[]⟩, .int .i64 0, .int .i64 0, .bool false, .int .i64 0, .string ⟨#[]⟩, .slice none 0 0, .slice none 0 0]).alloc (.cells #[.int .i64 17, .string ⟨#[]⟩, .string ⟨#[]⟩, .int .i64 0, .int .i64 0, .bool false, .int .i64 0, .string ⟨#[]⟩, .slice none 0 0, .slice none 0 0] 41)).below hb (by simp; omega)
              have N2 : Blk w2 (w.heap.size + 1) 41 #[.int .i64 17, .string ⟨#[]⟩, .string ⟨#[]⟩, .int .i64 0, .int .i64 0, .bool false, .int .i64 0, .string ⟨#[]⟩, .slice none 0 0, .slice none 0 0] := by have := (Blk.new (w.alloc (.cells #[.int .i64 0, .string ⟨#[]⟩, .string ⟨#[]⟩, .int .i64 0, .int .i64 0, .bool false, .int .i64 0, .string ⟨#[]⟩, .slice none 0 0, .slice none 0 0] 41)) 41 #[.int .i64 17, .string ⟨#[]⟩, .string ⟨#[]⟩, .int .i64 0, .int .i64 0, .bool false, .int .i64 0, .string ⟨#[]⟩, .slice none 0 0, .slice none 0 0]).below hb (by simp); simpa using this
              have HRb := hide R2
              have HNb := hide N2
              have HB2 := hide (B0.trans (hb.mono (by simp; omega)))
              clear B0 hb g0 g0a g0b g2 g2a g2b R2 N2
              have z0 : w2.cell? ⟨w.heap.size, 0, none⟩ = some (.int .i64 0) := blkR HRb.out rfl
              have z1 : w2.cell? ⟨w.heap.size, 1, none⟩ = some (.string ⟨#[]⟩) := blkR HRb.out rfl
              have z2 : w2.cell? ⟨w.heap.size, 2, none⟩ = some (.string ⟨#[]⟩) := blkR HRb.out rfl
              have z3 : w2.cell? ⟨w.heap.size, 3, none⟩ = some (.int .i64 0) := blkR HRb.out rfl
              have z4 : w2.cell? ⟨w.heap.size, 4, none⟩ = some (.int .i64 0) := blkR HRb.out rfl
              have z5 : w2.cell? ⟨w.heap.size, 5, none⟩ = some (.bool false) := blkR HRb.out rfl
              have z6 : w2.cell? ⟨w.heap.size, 6, none⟩ = some (.int .i64 0) := blkR HRb.out rfl
              have z7 : w2.cell? ⟨w.heap.size, 7, none⟩ = some (.string ⟨#[]⟩) := blkR HRb.out rfl
              have z8 : w2.cell? ⟨w.heap.size, 8, none⟩ = some (.slice none 0 0) := blkR HRb.out rfl
              have z9 : w2.cell? ⟨w.heap.size, 9, none⟩ = some (.slice none 0 0) := blkR HRb.out rfl
              have zf : ∀ i, w2.frozen? ⟨w.heap.size, i, none⟩ = false := fun i => HRb.out.frozen i
              have y0 : w2.cell? ⟨w.heap.size + 1, 0, none⟩ = some (.int .i64 17) := blkR HNb.out rfl
              have y1 : w2.cell? ⟨w.heap.size + 1, 1, none⟩ = some (.string ⟨#[]⟩) := blkR HNb.out rfl
              have y2 : w2.cell? ⟨w.heap.size + 1, 2, none⟩ = some (.string ⟨#[]⟩) := blkR HNb.out rfl
              have y3 : w2.cell? ⟨w.heap.size + 1, 3, none⟩ = some (.int .i64 0) := blkR HNb.out rfl
              have y4 : w2.cell? ⟨w.heap.size + 1, 4, none⟩ = some (.int .i64 0) := blkR HNb.out rfl
              have y5 : w2.cell? ⟨w.heap.size + 1, 5, none⟩ = some (.bool false) := blkR HNb.out rfl
              have y6 : w2.cell? ⟨w.heap.size + 1, 6, none⟩ = some (.int .i64 0) := blkR HNb.out rfl
              have y7 : w2.cell? ⟨w.heap.size + 1, 7, none⟩ = some (.string ⟨#[]⟩) := blkR HNb.out rfl
              have y8 : w2.cell? ⟨w.heap.size + 1, 8, none⟩ = some (.slice none 0 0) := blkR HNb.out rfl
              have y9 : w2.cell? ⟨w.heap.size + 1, 9, none⟩ = some (.slice none 0 0) := blkR HNb.out rfl
              have yf : ∀ i, w2.frozen? ⟨w.heap.size + 1, i, none⟩ = false := fun i => HNb.out.frozen i
              have HOF := hide (show ofM (x :: r) = if false = true then some (⟨17, .empty, .empty, 0, nul⟩ : M) else none from by rw [HOT.out]; exact ofT_one (by decide) (by decide) (fun h => HL1.out (HL.out.trans h)))
              have HXE := hide (set10 HRb.out (.int .i64 17) (.string ⟨#[]⟩) (.string ⟨#[]⟩) (.int .i64 0) (.int .i64 0) (.bool false) (.int .i64 0) (.string ⟨#[]⟩) (.slice none 0 0) (.slice none 0 0))
              have OE := only10 (Only.refl (fun b => b = w.heap.size) w2) (.inl rfl) (.int .i64 17) (.string ⟨#[]⟩) (.string ⟨#[]⟩) (.int .i64 0) (.int .i64 0) (.bool false) (.int .i64 0) (.string ⟨#[]⟩) (.slice none 0 0) (.slice none 0 0)
              have BE := HB2.out.trans (OE.below (B := w.heap.size) (by intro b _ e; have e : b = w.heap.size := e; omega) HB2.out.size)
              have HBE := hide BE
              clear OE BE
              go_wp2
              refine bodyPost_ret (results_cell2 rfl _ _ w.heap.size 41 _ _ rfl HXE.out Try.underlying41 rfl (by kernel_rfl)) rfl ?_
              exact OfP_mk HBE.out HOF.out (⟨bd17, bd0, emp9, emp9, wf_nul⟩) rfl rfl rfl rfl (nulV)
          · have HK := hide h0
            clear h0
            generalize hkn : knownK n = kn
            have HKN := hide hkn
            clear hkn
            cases kn with
            | false =>
              go_enter Try.func43, Try.ntmps43
              go_wp2_with fail
              refine (show Calls Try.prog 47 #[.int .i64 n] ((w.alloc (.cells #[.int .i64 0, .string ⟨#[]⟩, .string ⟨#[]⟩, .int .i64 0, .int .i64 0, .bool false, .int .i64 0, .string ⟨#[]⟩, .slice none 0 0, .slice none 0 0] 41)).alloc (.cells #[.int .i64 n, .string ⟨#[]⟩, .string ⟨#[]⟩, .int .i64 0, .int .i64 0, .bool false, .int .i64 0, .string ⟨#[]⟩, .slice none 0 0, .slice none 0 0] 41)) (fun e w' => e = .returned (.tuple #[.int .i64 0, .bool false]) ∧ Below ((w.alloc (.cells #[.int .i64 0, .string ⟨#[]⟩, .string ⟨#[]⟩, .int .i64 0, .int .i64 0, .bool false, .int .i64 0, .string ⟨#[]⟩, .slice none 0 0, .slice none 0 0] 41)).alloc (.cells #[.int .i64 n, .string ⟨#[]⟩, .string ⟨#[]⟩, .int .i64 0, .int .i64 0, .bool false, .int .i64 0, .string ⟨#[]⟩, .slice none 0 0, .slice none 0 0] 41)).heap.size ((w.alloc (.cells #[.int .i64 0, .string ⟨#[]⟩, .string ⟨#[]⟩, .int .i64 0, .int .i64 0, .bool false, .int .i64 0, .string ⟨#[]⟩, .slice none 0 0, .slice none 0 0] 41)).alloc (.cells #[.int .i64 n, .string ⟨#[]⟩, .string ⟨#[]⟩, .int .i64 0, .int .i64 0, .bool false, .int .i64 0, .string ⟨#[]⟩, .slice none 0 0, .slice none 0 0] 41)) w') from by have := parts_any n ((w.alloc (.cells #[.int .i64 0, .string ⟨#[]⟩, .string ⟨#[]⟩, .int .i64 0, .int .i64 0, .bool false, .int .i64 0, .string ⟨#[]⟩, .slice none 0 0, .slice none 0 0] 41)).alloc (.cells #[.int .i64 n, .string ⟨#[]⟩, .string ⟨#[]⟩, .int .i64 0, .int .i64 0, .bool false, .int .i64 0, .string ⟨#[]⟩, .slice none 0 0, .slice none 0 0] 41)); rw [part_0 HK.out, HKN.out] at this; exact this).mono ?_
              rintro e w2 ⟨rfl, hb⟩
              have B0 : Below w.heap.size w ((w.alloc (.cells #[.int .i64 0, .string ⟨#[]⟩, .string ⟨#[]⟩, .int .i64 0, .int .i64 0, .bool false, .int .i64 0, .string ⟨#[]⟩, .slice none 0 0, .slice none 0 0] 41)).alloc (.cells #[.int .i64 n, .string ⟨#[]⟩, .string ⟨#[]⟩, .int .i64 0, .int .i64 0, .bool false, .int .i64 0, .string ⟨#[]⟩, .slice none 0 0, .slice none 0 0] 41)) := ((Below.refl w.heap.size w).alloc (Nat.le_refl _) _).alloc (by simp) _
              have R2 := ((Blk.new w 41 #[.int .i64 0, .string ⟨#[]⟩, .string ⟨#[]⟩, .int .i64 0, .int .i64 0, .bool false, .int .i64 0, .string ⟨#[]⟩, .slice none 0 0, .slice none 0 0]).alloc (.cells #[.int .i64 n, .string ⟨#[]⟩, .string ⟨#[]⟩, .int .i64 0, .int .i64 0, .bool false, .int .i64 0, .string ⟨#[]⟩, .slice none 0 0, .slice none 0 0] 41)).below hb (by simp; omega)
              have N2 : Blk w2 (w.heap.size + 1) 41 #[.int .i64 n, .string ⟨#[]⟩, .string ⟨#[]⟩, .int .i64 0, .int .i64 0, .bool false, .int .i64 0, .string ⟨#[]⟩, .slice none 0 0, .slice none 0 0] := by have := (Blk.new (w.alloc (.cells #[.int .i64 0, .string ⟨#[]⟩, .string ⟨#[]⟩, .int .i64 0, .int .i64 0, .bool false, .int .i64 0, .string ⟨#[]⟩, .slice none 0 0, .slice none 0 0] 41)) 41 #[.int .i64 n, .string ⟨#[]⟩, .string ⟨#[]⟩, .int .i64 0, .int .i64 0, .bool false, .int .i64 0, .string ⟨#[]⟩, .slice none 0 0, .slice none 0 0]).below hb (by simp); simpa using this
              have HRb := hide R2
              have HNb := hide N2
              have HB2 := hide (B0.trans (hb.mono (by simp; omega)))
              clear B0 hb g0 g0a g0b g2 g2a g2b R2 N2
              have z0 : w2.cell? ⟨w.heap.size, 0, none⟩ = some (.int .i64 0) := blkR HRb.out rfl
              have z1 : w2.cell? ⟨w.heap.size, 1, none⟩ = some (.string ⟨#[]⟩) := blkR HRb.out rfl
              have z2 : w2.cell? ⟨w.heap.size, 2, none⟩ = some (.string ⟨#[]⟩) := blkR HRb.out rfl
              have z3 : w2.cell? ⟨w.heap.size, 3, none⟩ = some (.int .i64 0) := blkR HRb.out rfl
              have z4 : w2.cell? ⟨w.heap.size, 4, none⟩ = some (.int .i64 0) := blkR HRb.out rfl
              have z5 : w2.cell? ⟨w.heap.size, 5, none⟩ = some (.bool false) := blkR HRb.out rfl
              have z6 : w2.cell? ⟨w.heap.size, 6, none⟩ = some (.int .i64 0) := blkR HRb.out rfl
              have z7 : w2.cell? ⟨w.heap.size, 7, none⟩ = some (.string ⟨#[]⟩) := blkR HRb.out rfl
              have z8 : w2.cell? ⟨w.heap.size, 8, none⟩ = some (.slice none 0 0) := blkR HRb.out rfl
              have z9 : w2.cell? ⟨w.heap.size, 9, none⟩ = some (.slice none 0 0) := blkR HRb.out rfl
              have zf : ∀ i, w2.frozen? ⟨w.heap.size, i, none⟩ = false := fun i => HRb.out.frozen i
              have y0 : w2.cell? ⟨w.heap.size + 1, 0, none⟩ = some (.int .i64 n) := blkR HNb.out rfl
              have y1 : w2.cell? ⟨w.heap.size + 1, 1, none⟩ = some (.string ⟨#[]⟩) := blkR HNb.out rfl
              have y2 : w2.cell? ⟨w.heap.size + 1, 2, none⟩ = some (.string ⟨#[]⟩) := blkR HNb.out rfl
              have y3 : w2.cell? ⟨w.heap.size + 1, 3, none⟩ = some (.int .i64 0) := blkR HNb.out rfl
              have y4 : w2.cell? ⟨w.heap.size + 1, 4, none⟩ = some (.int .i64 0) := blkR HNb.out rfl
              have y5 : w2.cell? ⟨w.heap.size + 1, 5, none⟩ = some (.bool false) := blkR HNb.out rfl
              have y6 : w2.cell? ⟨w.heap.size + 1, 6, none⟩ = some (.int .i64 0) := blkR HNb.out rfl
              have y7 : w2.cell? ⟨w.heap.size + 1, 7, none⟩ = some (.string ⟨#[]⟩) := blkR HNb.out rfl
              have y8 : w2.cell? ⟨w.heap.size + 1, 8, none⟩ = some (.slice none 0 0) := blkR HNb.out rfl
              have y9 : w2.cell? ⟨w.heap.size + 1, 9, none⟩ = some (.slice none 0 0) := blkR HNb.out rfl
              have yf : ∀ i, w2.frozen? ⟨w.heap.size + 1, i, none⟩ = false := fun i => HNb.out.frozen i
              have HOF := hide (show ofM (x :: r) = if false = true then some (⟨n, .empty, .empty, 0, nul⟩ : M) else none from of_no (fun h => by have := h.2; rw [HXK.out.2.1, HKN.out] at this; cases this))
              have HXE := hide (set10 HRb.out (.int .i64 n) (.string ⟨#[]⟩) (.string ⟨#[]⟩) (.int .i64 0) (.int .i64 0) (.bool false) (.int .i64 0) (.string ⟨#[]⟩) (.slice none 0 0) (.slice none 0 0))
              have OE := only10 (Only.refl (fun b => b = w.heap.size) w2) (.inl rfl) (.int .i64 n) (.string ⟨#[]⟩) (.string ⟨#[]⟩) (.int .i64 0) (.int .i64 0) (.bool false) (.int .i64 0) (.string ⟨#[]⟩) (.slice none 0 0) (.slice none 0 0)
              have BE := HB2.out.trans (OE.below (B := w.heap.size) (by intro b _ e; have e : b = w.heap.size := e; omega) HB2.out.size)
              have HBE := hide BE
              clear OE BE
              go_wp2
              refine bodyPost_ret (results_cell2 rfl _ _ w.heap.size 41 _ _ rfl HXE.out Try.underlying41 rfl (by kernel_rfl)) rfl ?_
              exact OfP_mk HBE.out HOF.out (⟨hxr, bd0, emp9, emp9, wf_nul⟩) rfl rfl rfl rfl (nulV)
            | true =>
              have HOT := hide ((of_yes (r := r) HXK.out.1 HXK.out.2.1 HKN.out).trans (ofT_0 (part_0 HK.out)))
              by_cases hL0 : L = 0
              · have tL : ((L : Int) == 0) = true := by simp [hL0]
                have HL0 := hide hL0
                clear hL0
                go_enter Try.func43, Try.ntmps43
                go_wp2_with fail
                refine (show Calls Try.prog 47 #[.int .i64 n] ((w.alloc (.cells #[.int .i64 0, .string ⟨#[]⟩, .string ⟨#[]⟩, .int .i64 0, .int .i64 0, .bool false, .int .i64 0, .string ⟨#[]⟩, .slice none 0 0, .slice none 0 0] 41)).alloc (.cells #[.int .i64 n, .string ⟨#[]⟩, .string ⟨#[]⟩, .int .i64 0, .int .i64 0, .bool false, .int .i64 0, .string ⟨#[]⟩, .slice none 0 0, .slice none 0 0] 41)) (fun e w' => e = .returned (.tuple #[.int .i64 0, .bool true]) ∧ Below ((w.alloc (.cells #[.int .i64 0, .string ⟨#[]⟩, .string ⟨#[]⟩, .int .i64 0, .int .i64 0, .bool false, .int .i64 0, .string ⟨#[]⟩, .slice none 0 0, .slice none 0 0] 41)).alloc (.cells #[.int .i64 n, .string ⟨#[]⟩, .string ⟨#[]⟩, .int .i64 0, .int .i64 0, .bool false, .int .i64 0, .string ⟨#[]⟩, .slice none 0 0, .slice none 0 0] 41)).heap.size ((w.alloc (.cells #[.int .i64 0, .string ⟨#[]⟩, .string ⟨#[]⟩, .int .i64 0, .int .i64 0, .bool false, .int .i64 0, .string ⟨#[]⟩, .slice none 0 0, .slice none 0 0] 41)).alloc (.cells #[.int .i64 n, .string ⟨#[]⟩, .string ⟨#[]⟩, .int .i64 0, .int .i64 0, .bool false, .int .i64 0, .string ⟨#[]⟩, .slice none 0 0, .slice none 0 0] 41)) w') from by have := parts_any n ((w.alloc (.cells #[.int .i64 0, .string ⟨#[]⟩, .string ⟨#[]⟩, .int .i64 0, .int .i64 0, .bool false, .int .i64 0, .string ⟨#[]⟩, .slice none 0 0, .slice none 0 0] 41)).alloc (.cells #[.int .i64 n, .string ⟨#[]⟩, .string ⟨#[]⟩, .int .i64 0, .int .i64 0, .bool false, .int .i64 0, .string ⟨#[]⟩, .slice none 0 0, .slice none 0 0] 41)); rw [part_0 HK.out, HKN.out] at this; exact this).mono ?_
                rintro e w2 ⟨rfl, hb⟩
                have B0 : Below w.heap.size w ((w.alloc (.cells #[.int .i64 0, .string ⟨#[]⟩, .string ⟨#[]⟩, .int .i64 0, .int .i64 0, .bool false, .int .i64 0, .string ⟨#[]⟩, .slice none 0 0, .slice none 0 0] 41)).alloc (.cells #[.int .i64 n, .string ⟨#[]⟩, .string ⟨#[]⟩, .int .i64 0, .int .i64 0, .bool false, .int .i64 0, .string ⟨#[]⟩, .slice none 0 0, .slice none 0 0] 41)) := ((Below.refl w.heap.size w).alloc (Nat.le_refl _) _).alloc (by simp) _
                have R2 := ((Blk.new w 41 #[.int .i64 0, .string ⟨#[]⟩, .string ⟨#[]⟩, .int .i64 0, .int .i64 0, .bool false, .int .i64 0, .string ⟨#[]⟩, .slice none 0 0, .slice none 0 0]).alloc (.cells #[.int .i64 n, .string ⟨#[]⟩, .string ⟨#[]⟩, .int .i64 0, .int .i64 0, .bool false, .int .i64 0, .string ⟨#[]⟩, .slice none 0 0, .slice none 0 0] 41)).below hb (by simp; omega)
                have N2 : Blk w2 (w.heap.size + 1) 41 #[.int .i64 n, .string ⟨#[]⟩, .string ⟨#[]⟩, .int .i64 0, .int .i64 0, .bool false, .int .i64 0, .string ⟨#[]⟩, .slice none 0 0, .slice none 0 0] := by have := (Blk.new (w.alloc (.cells #[.int .i64 0, .string ⟨#[]⟩, .string ⟨#[]⟩, .int .i64 0, .int .i64 0, .bool false, .int .i64 0, .string ⟨#[]⟩, .slice none 0 0, .slice none 0 0] 41)) 41 #[.int .i64 n, .string ⟨#[]⟩, .string ⟨#[]⟩, .int .i64 0, .int .i64 0, .bool false, .int .i64 0, .string ⟨#[]⟩, .slice none 0 0, .slice none 0 0]).below hb (by simp); simpa using this
                have HRb := hide R2
                have HNb := hide N2
                have HB2 := hide (B0.trans (hb.mono (by simp; omega)))
                clear B0 hb g0 g0a g0b g2 g2a g2b R2 N2
                have z0 : w2.cell? ⟨w.heap.size, 0, none⟩ = some (.int .i64 0) := blkR HRb.out rfl
                have z1 : w2.cell? ⟨w.heap.size, 1, none⟩ = some (.string ⟨#[]⟩) := blkR HRb.out rfl
                have z2 : w2.cell? ⟨w.heap.size, 2, none⟩ = some (.string ⟨#[]⟩) := blkR HRb.out rfl
                have z3 : w2.cell? ⟨w.heap.size, 3, none⟩ = some (.int .i64 0) := blkR HRb.out rfl
                have z4 : w2.cell? ⟨w.heap.size, 4, none⟩ = some (.int .i64 0) := blkR HRb.out rfl
                have z5 : w2.cell? ⟨w.heap.size, 5, none⟩ = some (.bool false) := blkR HRb.out rfl
                have z6 : w2.cell? ⟨w.heap.size, 6, none⟩ = some (.int .i64 0) := blkR HRb.out rfl
                have z7 : w2.cell? ⟨w.heap.size, 7, none⟩ = some (.string ⟨#[]⟩) := blkR HRb.out rfl
                have z8 : w2.cell? ⟨w.heap.size, 8, none⟩ = some (.slice none 0 0) := blkR HRb.out rfl
                have z9 : w2.cell? ⟨w.heap.size, 9, none⟩ = some (.slice none 0 0) := blkR HRb.out rfl
                have zf : ∀ i, w2.frozen? ⟨w.heap.size, i, none⟩ = false := fun i => HRb.out.frozen i
                have y0 : w2.cell? ⟨w.heap.size + 1, 0, none⟩ = some (.int .i64 n) := blkR HNb.out rfl
                have y1 : w2.cell? ⟨w.heap.size + 1, 1, none⟩ = some (.string ⟨#[]⟩) := blkR HNb.out rfl
                have y2 : w2.cell? ⟨w.heap.size + 1, 2, none⟩ = some (.string ⟨#[]⟩) := blkR HNb.out rfl
                have y3 : w2.cell? ⟨w.heap.size + 1, 3, none⟩ = some (.int .i64 0) := blkR HNb.out rfl
                have y4 : w2.cell? ⟨w.heap.size + 1, 4, none⟩ = some (.int .i64 0) := blkR HNb.out rfl
                have y5 : w2.cell? ⟨w.heap.size + 1, 5, none⟩ = some (.bool false) := blkR HNb.out rfl
                have y6 : w2.cell? ⟨w.heap.size + 1, 6, none⟩ = some (.int .i64 0) := blkR HNb.out rfl
                have y7 : w2.cell? ⟨w.heap.size + 1, 7, none⟩ = some (.string ⟨#[]⟩) := blkR HNb.out rfl
                have y8 : w2.cell? ⟨w.heap.size + 1, 8, none⟩ = some (.slice none 0 0) := blkR HNb.out rfl
                have y9 : w2.cell? ⟨w.heap.size + 1, 9, none⟩ = some (.slice none 0 0) := blkR HNb.out rfl
                have yf : ∀ i, w2.frozen? ⟨w.heap.size + 1, i, none⟩ = false := fun i => HNb.out.frozen i
                have HOF := hide (show ofM (x :: r) = if true = true then some (⟨n, .empty, .empty, 0, nul⟩ : M) else none from by rw [HOT.out, if_pos (HL.out.symm.trans HL0.out)]; rfl)
                have HXE := hide (set10 HRb.out (.int .i64 n) (.string ⟨#[]⟩) (.string ⟨#[]⟩) (.int .i64 0) (.int .i64 0) (.bool false) (.int .i64 0) (.string ⟨#[]⟩) (.slice none 0 0) (.slice none 0 0))
                have OE := only10 (Only.refl (fun b => b = w.heap.size) w2) (.inl rfl) (.int .i64 n) (.string ⟨#[]⟩) (.string ⟨#[]⟩) (.int .i64 0) (.int .i64 0) (.bool false) (.int .i64 0) (.string ⟨#[]⟩) (.slice none 0 0) (.slice none 0 0)
                have BE := HB2.out.trans (OE.below (B := w.heap.size) (by intro b _ e; have e : b = w.heap.size := e; omega) HB2.out.size)
                have HBE := hide BE
                clear OE BE
                go_wp2
                refine bodyPost_ret (results_cell2 rfl _ _ w.heap.size 41 _ _ rfl HXE.out Try.underlying41 rfl (by kernel_rfl)) rfl ?_
                exact OfP_mk HBE.out HOF.out (⟨hxr, bd0, emp9, emp9, wf_nul⟩) rfl rfl rfl rfl (nulV)
              · have tL : ((L : Int) == 0) = false := by simp; omega
                have HL0 := hide hL0
                clear hL0
                go_enter Try.func43, Try.ntmps43
                go_wp2_with fail
                refine (show Calls Try.prog 47 #[.int .i64 n] ((w.alloc (.cells #[.int .i64 0, .string ⟨#[]⟩, .string ⟨#[]⟩, .int .i64 0, .int .i64 0, .bool false, .int .i64 0, .string ⟨#[]⟩, .slice none 0 0, .slice none 0 0] 41)).alloc (.cells #[.int .i64 n, .string ⟨#[]⟩, .string ⟨#[]⟩, .int .i64 0, .int .i64 0, .bool false, .int .i64 0, .string ⟨#[]⟩, .slice none 0 0, .slice none 0 0] 41)) (fun e w' => e = .returned (.tuple #[.int .i64 0, .bool true]) ∧ Below ((w.alloc (.cells #[.int .i64 0, .string ⟨#[]⟩, .string ⟨#[]⟩, .int .i64 0, .int .i64 0, .bool false, .int .i64 0, .string ⟨#[]⟩, .slice none 0 0, .slice none 0 0] 41)).alloc (.cells #[.int .i64 n, .string ⟨#[]⟩, .string ⟨#[]⟩, .int .i64 0, .int .i64 0, .bool false, .int .i64 0, .string ⟨#[]⟩, .slice none 0 0, .slice none 0 0] 41)).heap.size ((w.alloc (.cells #[.int .i64 0, .string ⟨#[]⟩, .string ⟨#[]⟩, .int .i64 0, .int .i64 0, .bool false, .int .i64 0, .string ⟨#[]⟩, .slice none 0 0, .slice none 0 0] 41)).alloc (.cells #[.int .i64 n, .string ⟨#[]⟩, .string ⟨#[]⟩, .int .i64 0, .int .i64 0, .bool false, .int .i64 0, .string ⟨#[]⟩, .slice none 0 0, .slice none 0 0] 41)) w') from by have := parts_any n ((w.alloc (.cells #[.int .i64 0, .string ⟨#[]⟩, .string ⟨#[]⟩, .int .i64 0, .int .i64 0, .bool false, .int .i64 0, .string ⟨#[]⟩, .slice none 0 0, .slice none 0 0] 41)).alloc (.cells #[.int .i64 n, .string ⟨#[]⟩, .string ⟨#[]⟩, .int .i64 0, .int .i64 0, .bool false, .int .i64 0, .string ⟨#[]⟩, .slice none 0 0, .slice none 0 0] 41)); rw [part_0 HK.out, HKN.out] at this; exact this).mono ?_
                rintro e w2 ⟨rfl, hb⟩
                have B0 : Below w.heap.size w ((w.alloc (.cells #[.int .i64 0, .string ⟨#[]⟩, .string ⟨#[]⟩, .int .i64 0, .int .i64 0, .bool false, .int .i64 0, .string ⟨#[]⟩, .slice none 0 0, .slice none 0 0] 41)).alloc (.cells #[.int .i64 n, .string ⟨#[]⟩, .string ⟨#[]⟩, .int .i64 0, .int .i64 0, .bool false, .int .i64 0, .string ⟨#[]⟩, .slice none 0 0, .slice none 0 0] 41)) := ((Below.refl w.heap.size w).alloc (Nat.le_refl _) _).alloc (by simp) _
                have R2 := ((Blk.new w 41 #[.int .i64 0, .string ⟨#[]⟩, .string ⟨#[]⟩, .int .i64 0, .int .i64 0, .bool false, .int .i64 0, .string ⟨#[]⟩, .slice none 0 0, .slice none 0 0]).alloc (.cells #[.int .i64 n, .string ⟨#[]⟩, .string ⟨#[]⟩, .int .i64 0, .int .i64 0, .bool false, .int .i64 0, .string ⟨#[]⟩, .slice none 0 0, .slice none 0 0] 41)).below hb (by simp; omega)
                have N2 : Blk w2 (w.heap.size + 1) 41 #[.int .i64 n, .string ⟨#[]⟩, .string ⟨#[]⟩, .int .i64 0, .int .i64 0, .bool false, .int .i64 0, .string ⟨#[]⟩, .slice none 0 0, .slice none 0 0] := by have := (Blk.new (w.alloc (.cells #[.int .i64 0, .string ⟨#[]⟩, .string ⟨#[]⟩, .int .i64 0, .int .i64 0, .bool false, .int .i64 0, .string ⟨#[]⟩, .slice none 0 0, .slice none 0 0] 41)) 41 #[.int .i64 n, .string ⟨#[]⟩, .string ⟨#[]⟩, .int .i64 0, .int .i64 0, .bool false, .int .i64 0, .string ⟨#[]⟩, .slice none 0 0, .slice none 0 0]).below hb (by simp); simpa using this
                have HRb := hide R2
                have HNb := hide N2
                have HB2 := hide (B0.trans (hb.mono (by simp; omega)))
                clear B0 hb g0 g0a g0b g2 g2a g2b R2 N2
                have z0 : w2.cell? ⟨w.heap.size, 0, none⟩ = some (.int .i64 0) := blkR HRb.out rfl
                have z1 : w2.cell? ⟨w.heap.size, 1, none⟩ = some (.string ⟨#[]⟩) := blkR HRb.out rfl
                have z2 : w2.cell? ⟨w.heap.size, 2, none⟩ = some (.string ⟨#[]⟩) := blkR HRb.out rfl
                have z3 : w2.cell? ⟨w.heap.size, 3, none⟩ = some (.int .i64 0) := blkR HRb.out rfl
                have z4 : w2.cell? ⟨w.heap.size, 4, none⟩ = some (.int .i64 0) := blkR HRb.out rfl
                have z5 : w2.cell? ⟨w.heap.size, 5, none⟩ = some (.bool false) := blkR HRb.out rfl
                have z6 : w2.cell? ⟨w.heap.size, 6, none⟩ = some (.int .i64 0) := blkR HRb.out rfl
                have z7 : w2.cell? ⟨w.heap.size, 7, none⟩ = some (.string ⟨#[]⟩) := blkR HRb.out rfl
                have z8 : w2.cell? ⟨w.heap.size, 8, none⟩ = some (.slice none 0 0) := blkR HRb.out rfl
                have z9 : w2.cell? ⟨w.heap.size, 9, none⟩ = some (.slice none 0 0) := blkR HRb.out rfl
                have zf : ∀ i, w2.frozen? ⟨w.heap.size, i, none⟩ = false := fun i => HRb.out.frozen i
                have y0 : w2.cell? ⟨w.heap.size + 1, 0, none⟩ = some (.int .i64 n) := blkR HNb.out rfl
                have y1 : w2.cell? ⟨w.heap.size + 1, 1, none⟩ = some (.string ⟨#[]⟩) := blkR HNb.out rfl
                have y2 : w2.cell? ⟨w.heap.size + 1, 2, none⟩ = some (.string ⟨#[]⟩) := blkR HNb.out rfl
                have y3 : w2.cell? ⟨w.heap.size + 1, 3, none⟩ = some (.int .i64 0) := blkR HNb.out rfl
                have y4 : w2.cell? ⟨w.heap.size + 1, 4, none⟩ = some (.int .i64 0) := blkR HNb.out rfl
                have y5 : w2.cell? ⟨w.heap.size + 1, 5, none⟩ = some (.bool false) := blkR HNb.out rfl
                have y6 : w2.cell? ⟨w.heap.size + 1, 6, none⟩ = some (.int .i64 0) := blkR HNb.out rfl
                have y7 : w2.cell? ⟨w.heap.size + 1, 7, none⟩ = some (.string ⟨#[]⟩) := blkR HNb.out rfl
                have y8 : w2.cell? ⟨w.heap.size + 1, 8, none⟩ = some (.slice none 0 0) := blkR HNb.out rfl
                have y9 : w2.cell? ⟨w.heap.size + 1, 9, none⟩ = some (.slice none 0 0) := blkR HNb.out rfl
                have yf : ∀ i, w2.frozen? ⟨w.heap.size + 1, i, none⟩ = false := fun i => HNb.out.frozen i
                have HOF := hide (show ofM (x :: r) = if false = true then some (⟨n, .empty, .empty, 0, nul⟩ : M) else none from by rw [HOT.out, if_neg (fun h => HL0.out (HL.out.trans h))]; rfl)
                have HXE := hide (set10 HRb.out (.int .i64 n) (.string ⟨#[]⟩) (.string ⟨#[]⟩) (.int .i64 0) (.int .i64 0) (.bool false) (.int .i64 0) (.string ⟨#[]⟩) (.slice none 0 0) (.slice none 0 0))
                have OE := only10 (Only.refl (fun b => b = w.heap.size) w2) (.inl rfl) (.int .i64 n) (.string ⟨#[]⟩) (.string ⟨#[]⟩) (.int .i64 0) (.int .i64 0) (.bool false) (.int .i64 0) (.string ⟨#[]⟩) (.slice none 0 0) (.slice none 0 0)
                have BE := HB2.out.trans (OE.below (B := w.heap.size) (by intro b _ e; have e : b = w.heap.size := e; omega) HB2.out.size)
                have HBE := hide BE
                clear OE BE
                go_wp2
                refine bodyPost_ret (results_cell2 rfl _ _ w.heap.size 41 _ _ rfl HXE.out Try.underlying41 rfl (by kernel_rfl)) rfl ?_
                exact OfP_mk HBE.out HOF.out (⟨hxr, bd0, emp9, emp9, wf_nul⟩) rfl rfl rfl rfl (nulV)
    · have t0 : (k == 2) = false := by simp [hk]
      have t0' : (k != 2) = true := by simp [hk]
      have HNO := hide (show ofM (x :: r) = if false = true then some nulM else none from of_no (fun h => hk (by rw [← HXK.out.1]; exact h.1)))
      clear hk
      go_enter Try.func43, Try.ntmps43
      go_wp2
      refine bodyPost_ret (results_cell2 rfl _ _ w.heap.size 41 _ _ rfl (Blk.new _ _ _) Try.underlying41 rfl (by kernel_rfl)) rfl ?_
      exact OfP_mk (m := nulM) ((Below.refl w.heap.size w).alloc (Nat.le_refl _) _) HNO.out wf_nulM rfl rfl rfl rfl nulV
end Go.Proofs.Ytaapbiiiepdopaa
