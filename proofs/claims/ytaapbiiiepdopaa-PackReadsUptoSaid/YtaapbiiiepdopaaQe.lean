/- wattleref04's Decode. -/
import Derived.Test.YtaapbiiiepdopaaQd
namespace Go.Proofs.Ytaapbiiiepdopaa
open Go.RowKit Mem
set_option linter.unusedVariables false

theorem results_cell3t {P : Program} {fn : Func} {p q r : Tmp} {ty : TypeId} (h : fn.results = #[.cell p ty, .tmp q, .tmp r]) (tmps : Array Value) (w : World) (g : Nat) (t : TypeId) (cs : Array Value) (d : TypeDesc)
    (hp : tmps.getD p undef = .pointer (some ⟨g, 0, none⟩)) (hg : Blk w g t cs)
    (hu : P.underlying ty = some d) (hd : (match d with | .struct _ | .array _ _ => true | _ => false) = true) (hi : (P.info? ty).map (·.size) = some cs.size) :
    (results fn tmps).run P w = .ok (.tuple #[.agg cs, tmps.getD q undef, tmps.getD r undef]) w := by
  have e : (results fn tmps).run P w = ((asAddr (tmps.getD p undef)).run P w).andThen fun a w₁ => ((loadVar ty a).run P w₁).andThen fun u1 w₂ => .ok (.tuple #[u1, tmps.getD q undef, tmps.getD r undef]) w₂ := by
    simp only [results, h]
    simp [Sem.run_bind, Result.andThen]
  rw [e, hp]
  simp [asAddr, run_loadVar_row w g t ty cs (0, 0) d hg hu hd hi, Result.andThen]

theorem DecP_ok {R : Rd} {w w' : World} {v : V} {at' q : Nat} {cs : Array Value} {a : Int} (h : R = .ok (v, at', q)) (hb : Below w.heap.size w w') (hv : IsV w' (fun b => w.heap.size ≤ b) v cs) (ha : a = (at' : Int)) :
    DecP R w (.returned (.tuple #[.agg cs, .int .i64 a, .int .i64 0])) w' := by subst ha; rw [h]; exact ⟨cs, hb, rfl, hv⟩
theorem DecP_no {R : Rd} {w w' : World} {z : Int} (h : R = .error z) (hb : Below w.heap.size w w') :
    DecP R w (.returned (.tuple #[.agg nulCells, .int .i64 0, .int .i64 z])) w' := by rw [h]; exact ⟨nulCells, hb, rfl, rfl⟩

set_option maxHeartbeats 1000000 in
set_option maxRecDepth 100000 in
theorem refdec_any {w : World} {n c : Nat} {A : Option Addr} {bs : List UInt8} (hr : Reads w 0 w.heap.size 1 A n (bs.map B8)) (hc : n ≤ c ∧ c ≤ 9223372036854775807) (hn : n ≤ 1048576) :
    Calls Try.prog 20 #[.slice A n c] w fun e w' => DecP (dec bs) w e w' := by
  have X0 := Blk.new w 25 nulCells
  have B0 := (Below.refl w.heap.size w).alloc (Nat.le_refl _) (.cells nulCells 25)
  have R0 := (hr.below B0 (Nat.le_refl _)).more (Nat.le_refl _) (show w.heap.size ≤ (w.alloc (.cells nulCells 25)).heap.size by simp)
  have HX0 := hide X0
  have HB0 := hide B0
  have HC := hide (ref_any hc hn 32 (Nat.le_refl _) (p := 0) R0 (Nat.zero_le _) (Nat.zero_le _))
  have HL : w.heap.size < (w.alloc (.cells nulCells 25)).heap.size := by simp
  unfold nulCells at HX0 HB0 HC HL
  clear X0 B0 R0 hr
  go_enter Try.func20, Try.ntmps20
  go_wp2_with fail
  refine HC.out.mono ?_
  generalize w.alloc (.cells #[.int .i64 0, .bool false, .int .i64 0, .string ⟨#[]⟩, .slice none 0 0, .slice none 0 0] 25) = W at HX0 HB0 HL ⊢
  clear HC
  intro e w5 he
  have hb5 := he.1
  have X5 := HX0.out.below hb5 HX0.out.lt
  have B5 := HB0.out.trans (hb5.mono HB0.out.size)
  have x0 : ∀ o, (w5.alloc o).cell? ⟨w.heap.size, 0, none⟩ = some (.int .i64 0) := fun o => blkR (X5.alloc o) rfl
  have x1 : ∀ o, (w5.alloc o).cell? ⟨w.heap.size, 1, none⟩ = some (.bool false) := fun o => blkR (X5.alloc o) rfl
  have x2 : ∀ o, (w5.alloc o).cell? ⟨w.heap.size, 2, none⟩ = some (.int .i64 0) := fun o => blkR (X5.alloc o) rfl
  have x3 : ∀ o, (w5.alloc o).cell? ⟨w.heap.size, 3, none⟩ = some (.string ⟨#[]⟩) := fun o => blkR (X5.alloc o) rfl
  have x4 : ∀ o, (w5.alloc o).cell? ⟨w.heap.size, 4, none⟩ = some (.slice none 0 0) := fun o => blkR (X5.alloc o) rfl
  have x5 : ∀ o, (w5.alloc o).cell? ⟨w.heap.size, 5, none⟩ = some (.slice none 0 0) := fun o => blkR (X5.alloc o) rfl
  have xf : ∀ o i, (w5.alloc o).frozen? ⟨w.heap.size, i, none⟩ = false := fun o i => (X5.alloc o).frozen i
  have hs5 := Nat.le_of_lt (Nat.lt_of_lt_of_le HL hb5.size)
  have HX5 := hide X5
  have HB5 := hide B5
  clear X5 B5 hb5
  cases hR : rd bs 32 0 0 with
  | error z =>
    rw [hR] at he
    obtain ⟨_, cs, a, q, rfl, hV⟩ := he
    obtain ⟨k2, bb2, m2, s2, AL2, nL2, cL2, AK2, nK2, cK2, rfl⟩ := hV.shape
    have hz : ¬ z = 0 := by rcases rd_err _ _ _ _ _ hR with h | h <;> omega
    have HF := hide (show dec bs = .error z from hR)
    have BE := fun o => (only6 (Only.refl (fun b => b = w.heap.size) (w5.alloc o)) (.inl rfl) (.int .i64 0) (.bool false) (.int .i64 0) (.string ⟨#[]⟩) (.slice none 0 0) (.slice none 0 0)).below (B := w.heap.size) (by intro b _ e; have e : b = w.heap.size := e; omega) (Nat.le_trans hs5 (by simp))
    have HXE := hide (fun o => set6 (HX5.out.alloc o) (.int .i64 0) (.bool false) (.int .i64 0) (.string ⟨#[]⟩) (.slice none 0 0) (.slice none 0 0))
    have HBE := hide (fun o => (HB5.out.alloc hs5 o).trans (BE o))
    clear hV hR BE
    go_wp2
    refine bodyPost_ret (results_cell3t rfl _ _ w.heap.size 25 _ _ rfl (HXE.out _) Try.underlying25 rfl (by kernel_rfl)) rfl ?_
    exact DecP_no HF.out (HBE.out _)
  | ok q3 =>
    obtain ⟨v, at2, q⟩ := q3
    rw [hR] at he
    obtain ⟨_, cs, rfl, hV⟩ := he
    obtain ⟨k2, bb2, m2, s2, AL2, nL2, cL2, AK2, nK2, cK2, rfl⟩ := hV.shape
    have HF := hide (show dec bs = .ok (v, at2, q) from hR)
    have OE := fun o => only6 (Only.refl (fun b => b = w.heap.size) (w5.alloc o)) (.inl rfl) (.int .i64 k2) (.bool bb2) (.int .i64 m2) (.string s2) (.slice AL2 nL2 cL2) (.slice AK2 nK2 cK2)
    have BE := fun o => (OE o).below (B := w.heap.size) (by intro b _ e; have e : b = w.heap.size := e; omega) (Nat.le_trans hs5 (by simp))
    have HXE := hide (fun o => set6 (HX5.out.alloc o) (.int .i64 k2) (.bool bb2) (.int .i64 m2) (.string s2) (.slice AL2 nL2 cL2) (.slice AK2 nK2 cK2))
    have HBE := hide (fun o => (HB5.out.alloc hs5 o).trans (BE o))
    have HVE := hide (fun o => (hV.alloc o).only (OE o) (fun b hb e => by have hb : W.heap.size ≤ b := hb; have e : b = w.heap.size := e; omega))
    clear hV hR BE OE
    go_wp2
    refine bodyPost_ret (results_cell3t rfl _ _ w.heap.size 25 _ _ rfl (HXE.out _) Try.underlying25 rfl (by kernel_rfl)) rfl ?_
    exact DecP_ok HF.out (HBE.out _) ((HVE.out _).mono (fun b hb _ => by have hb : W.heap.size ≤ b := hb; show w.heap.size ≤ b; omega)) rfl
end Go.Proofs.Ytaapbiiiepdopaa
