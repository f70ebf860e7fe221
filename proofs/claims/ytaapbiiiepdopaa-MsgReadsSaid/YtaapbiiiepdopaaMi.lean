/- wattleref08's list. -/
import Derived.Test.YtaapbiiiepdopaaMg
import Derived.Test.YtaapbiiiepdopaaBy
namespace Go.Proofs.Ytaapbiiiepdopaa
open Go.RowKit Mem
set_option linter.unusedVariables false

/-- a list under way: the message's block, the result's, the values so far -/
structure GL (w w1 : World) (ten : Array Value) (A : Option Addr) (N c : Nat) (vs : List V) (xs : List Value) : Prop where
  ow : w1.ownsRow (w.heap.size + 2) 25 6 (.slice A N c) N xs
  iv : IsVs w1 (fun b => b < w.heap.size) vs xs
  m : Blk w1 w.heap.size 41 ten
  x : Blk w1 (w.heap.size + 1) 25 #[.int .i64 0, .bool false, .int .i64 0, .string ⟨#[]⟩, .slice none 0 0, .slice none 0 0]
  be : Below w.heap.size w w1
  le : vs.length = N
  sz : w.heap.size + 2 ≤ w1.heap.size
section
variable {w w1 w2 : World} {ten : Array Value} {A A' : Option Addr} {N c c' : Nat} {vs : List V} {xs : List Value}
theorem GL.step (h : GL w w1 ten A N c vs xs) (hb : Below w1.heap.size w1 w2) : GL w w2 ten A N c vs xs :=
  ⟨own_only h.ow (Only.ofBelow (S := fun _ => False) hb) (fun _ _ h => h), h.iv.grow hb, h.m.below hb h.m.lt, h.x.below hb h.x.lt, h.be.trans (hb.mono h.be.size), h.le, Nat.le_trans h.sz hb.size⟩
theorem GL.app (h : GL w w1 ten A N c vs xs) {v : V} {cs : Array Value} (hv : IsV w1 (fun b => b < w.heap.size) v cs)
    (ho : w2.ownsRow (w.heap.size + 2) 25 6 (.slice A' (N + 1) c') (N + 1) (xs ++ cs.toList)) (hg : w1.grownBy w2 (Value.slice A N c).ownBlock) : GL w w2 ten A' (N + 1) c' (vs ++ [v]) (xs ++ cs.toList) := by
  have ot : Only (fun b => (Value.slice A N c).ownBlock = some b) w1 w2 := Only.ofGrown hg
  have lo : ∀ b, (Value.slice A N c).ownBlock = some b → w.heap.size + 2 ≤ b := fun b hb => own_lo h.ow hb
  refine ⟨ho, (h.iv.app (IsVs.one hv)).only ot (fun b hb e => by have := lo b e; have hb : b < w.heap.size := hb; omega), h.m.only ot (fun e => by have := lo _ e; omega), h.x.only ot (fun e => by have := lo _ e; omega), ?_, by simp [h.le], Nat.le_trans h.sz ot.size⟩
  exact h.be.trans (ot.below (B := w.heap.size) (by intro b _ e; have := lo b e; omega) h.be.size)
/-- the list, laid -/
theorem GL.fin (h : GL w w1 ten A N c vs xs) {wE : World} (hO : Only (fun b => b = w.heap.size + 1) w1 wE) :
    IsV wE (fun _ => True) (.mk 4 false 0 .empty vs []) #[.int .i64 4, .bool false, .int .i64 0, .string ⟨#[]⟩, .slice A N c, .slice none 0 0] ∧ Below w.heap.size w wE := by
  have lo : ∀ b, (Value.slice A N c).ownBlock = some b → w.heap.size + 2 ≤ b := fun b hb => own_lo h.ow hb
  have ow := own_only h.ow hO (by rintro b hb rfl; have := lo _ hb; omega)
  have iv := h.iv.only hO (fun b hb e => by have hb : b < w.heap.size := hb; have e : b = w.heap.size + 1 := e; omega)
  have c1 := own_cap ow
  have le := h.le
  subst le
  refine ⟨?_, h.be.trans (hO.below (B := w.heap.size) (by intro b _ e; have e : b = w.heap.size + 1 := e; omega) h.be.size)⟩
  rw [IsV]
  exact ⟨A, c, none, 0, xs, rfl, ⟨c1.1, c1.2, Nat.le_refl _, by decide⟩, ⟨by decide, by decide, by decide, by decide, by decide, fun x hx => by cases hx⟩, RdS.ofOwn ow (fun _ _ => trivial), iv.keep (fun _ _ _ => rfl) (fun _ _ _ => trivial), RdS.nil⟩
end
theorem GL.begin (w : World) (ten : Array Value) (k : Int) (hk : -9223372036854775808 ≤ k ∧ k ≤ 9223372036854775807) : GL w (((w.alloc (.cells ten 41)).alloc (.cells #[.int .i64 0, .bool false, .int .i64 0, .string ⟨#[]⟩, .slice none 0 0, .slice none 0 0] 25)).alloc (.cells #[.int .i64 2, .bool false, .int .i64 k, .string ⟨#[]⟩, .slice none 0 0, .slice none 0 0] 25)) ten (some ⟨w.heap.size + 1 + 1, 0, none⟩) 1 1 [vI k] (#[.int .i64 2, .bool false, .int .i64 k, .string ⟨#[]⟩, .slice none 0 0, .slice none 0 0] : Array Value).toList := by
  have ho := World.ownsRow_lit (base := w.heap.size + 2) (e := 25) (size := 6) ((w.alloc (.cells ten 41)).alloc (.cells #[.int .i64 0, .bool false, .int .i64 0, .string ⟨#[]⟩, .slice none 0 0, .slice none 0 0] 25)) #[.int .i64 2, .bool false, .int .i64 k, .string ⟨#[]⟩, .slice none 0 0, .slice none 0 0] 1 (by simp) (by decide) rfl
  refine ⟨by simpa using ho, IsVs.one (leaf hk (by decide) (by decide)), ((Blk.new w 41 ten).alloc _).alloc _, ?_, (((Below.refl w.heap.size w).alloc (Nat.le_refl _) _).alloc (by simp) _).alloc (by simp; omega) _, rfl, by simp⟩
  have := (Blk.new (w.alloc (.cells ten 41)) 25 #[.int .i64 0, .bool false, .int .i64 0, .string ⟨#[]⟩, .slice none 0 0, .slice none 0 0]).alloc (.cells #[.int .i64 2, .bool false, .int .i64 k, .string ⟨#[]⟩, .slice none 0 0, .slice none 0 0] 25)
  simpa using this
def ListP (m : M) (w : World) (e : Ending) (w' : World) : Prop := ∃ cs, e = .returned (.agg cs) ∧ IsV w' (fun _ => True) (listM m) cs ∧ Below w.heap.size w w'
set_option maxHeartbeats 4000000 in
set_option maxRecDepth 100000 in
theorem listM_any {m : M} {w : World} {S : Nat → Prop} {cs : Array Value} (hM : IsM w S m cs) :
    Calls Try.prog 45 #[.agg cs] w fun e w' => ListP m w e w' := by
  obtain ⟨mk, ms, mt, mn, mv⟩ := m
  obtain ⟨k, b, n, s, AL, nL, cL, AK, nK, cK, rfl, hV0, hrange⟩ := hM
  dsimp only at hV0 hrange ⊢
  have hV := hV0.mono (S' := fun b => b < w.heap.size) (fun b _ h => h)
  have hmk : -9223372036854775808 ≤ mk ∧ mk ≤ 9223372036854775807 := ⟨hrange.1, hrange.2.1⟩
  have hmn : -9223372036854775808 ≤ mn ∧ mn ≤ 9223372036854775807 := ⟨hrange.2.2.1, hrange.2.2.2.1⟩
  have hms : ms.size ≤ 9223372036854775807 := hrange.2.2.2.2.1
  have hmt : mt.size ≤ 9223372036854775807 := hrange.2.2.2.2.2
  clear hrange hV0
  rcases kind_cases mk with rfl | rfl | rfl | rfl | rfl | rfl | h0
  · have G0 := GL.begin w #[.int .i64 1, .string ms, .string mt, .int .i64 mn, .int .i64 k, .bool b, .int .i64 n, .string s, .slice AL nL cL, .slice AK nK cK] 1 (by decide)
    have HG0 := hide G0
    clear G0
    go_enter Try.func45, Try.ntmps45
    go_wp2_with (at_builtin; refine pause ?_)
    refine unpause ?_
    have G1 := HG0.out.step ((Below.refl (((w.alloc (.cells #[.int .i64 1, .string ms, .string mt, .int .i64 mn, .int .i64 k, .bool b, .int .i64 n, .string s, .slice AL nL cL, .slice AK nK cK] 41)).alloc (.cells #[.int .i64 0, .bool false, .int .i64 0, .string ⟨#[]⟩, .slice none 0 0, .slice none 0 0] 25)).alloc (.cells #[.int .i64 2, .bool false, .int .i64 1, .string ⟨#[]⟩, .slice none 0 0, .slice none 0 0] 25)).heap.size (((w.alloc (.cells #[.int .i64 1, .string ms, .string mt, .int .i64 mn, .int .i64 k, .bool b, .int .i64 n, .string s, .slice AL nL cL, .slice AK nK cK] 41)).alloc (.cells #[.int .i64 0, .bool false, .int .i64 0, .string ⟨#[]⟩, .slice none 0 0, .slice none 0 0] 25)).alloc (.cells #[.int .i64 2, .bool false, .int .i64 1, .string ⟨#[]⟩, .slice none 0 0, .slice none 0 0] 25))).alloc (Nat.le_refl _) (.cells #[.int .i64 3, .bool false, .int .i64 0, .string ms, .slice none 0 0, .slice none 0 0] 25))
    have RL := Reads.lit (((w.alloc (.cells #[.int .i64 1, .string ms, .string mt, .int .i64 mn, .int .i64 k, .bool b, .int .i64 n, .string s, .slice AL nL cL, .slice AK nK cK] 41)).alloc (.cells #[.int .i64 0, .bool false, .int .i64 0, .string ⟨#[]⟩, .slice none 0 0, .slice none 0 0] 25)).alloc (.cells #[.int .i64 2, .bool false, .int .i64 1, .string ⟨#[]⟩, .slice none 0 0, .slice none 0 0] 25)) #[.int .i64 3, .bool false, .int .i64 0, .string ms, .slice none 0 0, .slice none 0 0] 25 1 6 rfl
    rw [show (((w.alloc (.cells #[.int .i64 1, .string ms, .string mt, .int .i64 mn, .int .i64 k, .bool b, .int .i64 n, .string s, .slice AL nL cL, .slice AK nK cK] 41)).alloc (.cells #[.int .i64 0, .bool false, .int .i64 0, .string ⟨#[]⟩, .slice none 0 0, .slice none 0 0] 25)).alloc (.cells #[.int .i64 2, .bool false, .int .i64 1, .string ⟨#[]⟩, .slice none 0 0, .slice none 0 0] 25)).heap.size = w.heap.size + 1 + 1 + 1 by simp] at RL
    refine wpList_app el22 (.tmp 12) (.tmp 16) G1.ow RL (by intro u hu; simp at hu; rcases hu with rfl | rfl | rfl | rfl | rfl | rfl <;> rfl) (N := 2) rfl rfl (by decide) (by decide) G1.sz rfl rfl rfl rfl ?_
    intro A1 c1 w1 ho hg hb
    have L := G1.app (leaf (by decide) (by decide) hms) ho hg
    have HL1 := hide L
    clear L RL G1 ho hg hb
    have x0 : w1.cell? ⟨w.heap.size + 1, 0, none⟩ = some (.int .i64 0) := blkR HL1.out.x rfl
    have x1 : w1.cell? ⟨w.heap.size + 1, 1, none⟩ = some (.bool false) := blkR HL1.out.x rfl
    have x2 : w1.cell? ⟨w.heap.size + 1, 2, none⟩ = some (.int .i64 0) := blkR HL1.out.x rfl
    have x3 : w1.cell? ⟨w.heap.size + 1, 3, none⟩ = some (.string ⟨#[]⟩) := blkR HL1.out.x rfl
    have x4 : w1.cell? ⟨w.heap.size + 1, 4, none⟩ = some (.slice none 0 0) := blkR HL1.out.x rfl
    have x5 : w1.cell? ⟨w.heap.size + 1, 5, none⟩ = some (.slice none 0 0) := blkR HL1.out.x rfl
    have xf : ∀ i, w1.frozen? ⟨w.heap.size + 1, i, none⟩ = false := fun i => HL1.out.x.frozen i
    have OE := only6 (Only.refl (fun b => b = w.heap.size + 1) w1) (.inl rfl) (.int .i64 4) (.bool false) (.int .i64 0) (.string ⟨#[]⟩) (.slice A1 2 c1) (.slice none 0 0)
    have HXE := hide (set6 HL1.out.x (.int .i64 4) (.bool false) (.int .i64 0) (.string ⟨#[]⟩) (.slice A1 2 c1) (.slice none 0 0))
    have HF := hide (HL1.out.fin OE)
    clear OE
    go_wp2
    refine bodyPost_ret (results_cell1 rfl _ _ (w.heap.size + 1) 25 _ _ rfl HXE.out Try.underlying25 rfl (by kernel_rfl)) rfl ?_
    exact ⟨_, rfl, HF.out.1, HF.out.2⟩
  · have G0 := GL.begin w #[.int .i64 3, .string ms, .string mt, .int .i64 mn, .int .i64 k, .bool b, .int .i64 n, .string s, .slice AL nL cL, .slice AK nK cK] 3 (by decide)
    have HG0 := hide G0
    clear G0
    go_enter Try.func45, Try.ntmps45
    go_wp2_with (at_builtin; refine pause ?_)
    refine unpause ?_
    have G1 := HG0.out.step ((Below.refl (((w.alloc (.cells #[.int .i64 3, .string ms, .string mt, .int .i64 mn, .int .i64 k, .bool b, .int .i64 n, .string s, .slice AL nL cL, .slice AK nK cK] 41)).alloc (.cells #[.int .i64 0, .bool false, .int .i64 0, .string ⟨#[]⟩, .slice none 0 0, .slice none 0 0] 25)).alloc (.cells #[.int .i64 2, .bool false, .int .i64 3, .string ⟨#[]⟩, .slice none 0 0, .slice none 0 0] 25)).heap.size (((w.alloc (.cells #[.int .i64 3, .string ms, .string mt, .int .i64 mn, .int .i64 k, .bool b, .int .i64 n, .string s, .slice AL nL cL, .slice AK nK cK] 41)).alloc (.cells #[.int .i64 0, .bool false, .int .i64 0, .string ⟨#[]⟩, .slice none 0 0, .slice none 0 0] 25)).alloc (.cells #[.int .i64 2, .bool false, .int .i64 3, .string ⟨#[]⟩, .slice none 0 0, .slice none 0 0] 25))).alloc (Nat.le_refl _) (.cells #[.int .i64 3, .bool false, .int .i64 0, .string mt, .slice none 0 0, .slice none 0 0] 25))
    have RL := Reads.lit (((w.alloc (.cells #[.int .i64 3, .string ms, .string mt, .int .i64 mn, .int .i64 k, .bool b, .int .i64 n, .string s, .slice AL nL cL, .slice AK nK cK] 41)).alloc (.cells #[.int .i64 0, .bool false, .int .i64 0, .string ⟨#[]⟩, .slice none 0 0, .slice none 0 0] 25)).alloc (.cells #[.int .i64 2, .bool false, .int .i64 3, .string ⟨#[]⟩, .slice none 0 0, .slice none 0 0] 25)) #[.int .i64 3, .bool false, .int .i64 0, .string mt, .slice none 0 0, .slice none 0 0] 25 1 6 rfl
    rw [show (((w.alloc (.cells #[.int .i64 3, .string ms, .string mt, .int .i64 mn, .int .i64 k, .bool b, .int .i64 n, .string s, .slice AL nL cL, .slice AK nK cK] 41)).alloc (.cells #[.int .i64 0, .bool false, .int .i64 0, .string ⟨#[]⟩, .slice none 0 0, .slice none 0 0] 25)).alloc (.cells #[.int .i64 2, .bool false, .int .i64 3, .string ⟨#[]⟩, .slice none 0 0, .slice none 0 0] 25)).heap.size = w.heap.size + 1 + 1 + 1 by simp] at RL
    refine wpList_app el22 (.tmp 20) (.tmp 24) G1.ow RL (by intro u hu; simp at hu; rcases hu with rfl | rfl | rfl | rfl | rfl | rfl <;> rfl) (N := 2) rfl rfl (by decide) (by decide) G1.sz rfl rfl rfl rfl ?_
    intro A1 c1 w1 ho hg hb
    have L := G1.app (leaf (by decide) (by decide) hmt) ho hg
    have HL1 := hide L
    have VV1 := (((hV.alloc _).alloc _).alloc _).alloc _ |>.only (Only.ofGrown hg) (fun b hb e => by have h1 := own_lo G1.ow e; have hb : b < w.heap.size := hb; omega)
    clear L RL G1 ho hg hb
    have m0 : w1.cell? ⟨w.heap.size, 0, none⟩ = some (.int .i64 3) := blkR HL1.out.m rfl
    have m1 : w1.cell? ⟨w.heap.size, 1, none⟩ = some (.string ms) := blkR HL1.out.m rfl
    have m2 : w1.cell? ⟨w.heap.size, 2, none⟩ = some (.string mt) := blkR HL1.out.m rfl
    have m3 : w1.cell? ⟨w.heap.size, 3, none⟩ = some (.int .i64 mn) := blkR HL1.out.m rfl
    have m4 : w1.cell? ⟨w.heap.size, 4, none⟩ = some (.int .i64 k) := blkR HL1.out.m rfl
    have m5 : w1.cell? ⟨w.heap.size, 5, none⟩ = some (.bool b) := blkR HL1.out.m rfl
    have m6 : w1.cell? ⟨w.heap.size, 6, none⟩ = some (.int .i64 n) := blkR HL1.out.m rfl
    have m7 : w1.cell? ⟨w.heap.size, 7, none⟩ = some (.string s) := blkR HL1.out.m rfl
    have m8 : w1.cell? ⟨w.heap.size, 8, none⟩ = some (.slice AL nL cL) := blkR HL1.out.m rfl
    have m9 : w1.cell? ⟨w.heap.size, 9, none⟩ = some (.slice AK nK cK) := blkR HL1.out.m rfl
    go_wp2_with (at_builtin; refine pause ?_)
    refine unpause ?_
    have G2 := HL1.out.step ((Below.refl w1.heap.size w1).alloc (Nat.le_refl _) (.cells #[.int .i64 k, .bool b, .int .i64 n, .string s, .slice AL nL cL, .slice AK nK cK] 25))
    have RL := Reads.lit w1 #[.int .i64 k, .bool b, .int .i64 n, .string s, .slice AL nL cL, .slice AK nK cK] 25 1 6 rfl
    refine wpList_app el22 (.tmp 26) (.tmp 29) G2.ow RL (by intro u hu; simp at hu; rcases hu with rfl | rfl | rfl | rfl | rfl | rfl <;> rfl) (N := 3) rfl rfl (by decide) (by decide) G2.sz rfl rfl rfl rfl ?_
    intro A2 c2 w2 ho hg hb
    have L := G2.app ((VV1.alloc _)) ho hg
    have HL2 := hide L
    clear L RL G2 ho hg hb
    have x0 : w2.cell? ⟨w.heap.size + 1, 0, none⟩ = some (.int .i64 0) := blkR HL2.out.x rfl
    have x1 : w2.cell? ⟨w.heap.size + 1, 1, none⟩ = some (.bool false) := blkR HL2.out.x rfl
    have x2 : w2.cell? ⟨w.heap.size + 1, 2, none⟩ = some (.int .i64 0) := blkR HL2.out.x rfl
    have x3 : w2.cell? ⟨w.heap.size + 1, 3, none⟩ = some (.string ⟨#[]⟩) := blkR HL2.out.x rfl
    have x4 : w2.cell? ⟨w.heap.size + 1, 4, none⟩ = some (.slice none 0 0) := blkR HL2.out.x rfl
    have x5 : w2.cell? ⟨w.heap.size + 1, 5, none⟩ = some (.slice none 0 0) := blkR HL2.out.x rfl
    have xf : ∀ i, w2.frozen? ⟨w.heap.size + 1, i, none⟩ = false := fun i => HL2.out.x.frozen i
    have OE := only6 (Only.refl (fun b => b = w.heap.size + 1) w2) (.inl rfl) (.int .i64 4) (.bool false) (.int .i64 0) (.string ⟨#[]⟩) (.slice A2 3 c2) (.slice none 0 0)
    have HXE := hide (set6 HL2.out.x (.int .i64 4) (.bool false) (.int .i64 0) (.string ⟨#[]⟩) (.slice A2 3 c2) (.slice none 0 0))
    have HF := hide (HL2.out.fin OE)
    clear OE
    go_wp2
    refine bodyPost_ret (results_cell1 rfl _ _ (w.heap.size + 1) 25 _ _ rfl HXE.out Try.underlying25 rfl (by kernel_rfl)) rfl ?_
    exact ⟨_, rfl, HF.out.1, HF.out.2⟩
  · have G0 := GL.begin w #[.int .i64 4, .string ms, .string mt, .int .i64 mn, .int .i64 k, .bool b, .int .i64 n, .string s, .slice AL nL cL, .slice AK nK cK] 4 (by decide)
    have HG0 := hide G0
    clear G0
    go_enter Try.func45, Try.ntmps45
    go_wp2_with (at_builtin; refine pause ?_)
    refine unpause ?_
    have G1 := HG0.out.step ((Below.refl (((w.alloc (.cells #[.int .i64 4, .string ms, .string mt, .int .i64 mn, .int .i64 k, .bool b, .int .i64 n, .string s, .slice AL nL cL, .slice AK nK cK] 41)).alloc (.cells #[.int .i64 0, .bool false, .int .i64 0, .string ⟨#[]⟩, .slice none 0 0, .slice none 0 0] 25)).alloc (.cells #[.int .i64 2, .bool false, .int .i64 4, .string ⟨#[]⟩, .slice none 0 0, .slice none 0 0] 25)).heap.size (((w.alloc (.cells #[.int .i64 4, .string ms, .string mt, .int .i64 mn, .int .i64 k, .bool b, .int .i64 n, .string s, .slice AL nL cL, .slice AK nK cK] 41)).alloc (.cells #[.int .i64 0, .bool false, .int .i64 0, .string ⟨#[]⟩, .slice none 0 0, .slice none 0 0] 25)).alloc (.cells #[.int .i64 2, .bool false, .int .i64 4, .string ⟨#[]⟩, .slice none 0 0, .slice none 0 0] 25))).alloc (Nat.le_refl _) (.cells #[.int .i64 2, .bool false, .int .i64 mn, .string ⟨#[]⟩, .slice none 0 0, .slice none 0 0] 25))
    have RL := Reads.lit (((w.alloc (.cells #[.int .i64 4, .string ms, .string mt, .int .i64 mn, .int .i64 k, .bool b, .int .i64 n, .string s, .slice AL nL cL, .slice AK nK cK] 41)).alloc (.cells #[.int .i64 0, .bool false, .int .i64 0, .string ⟨#[]⟩, .slice none 0 0, .slice none 0 0] 25)).alloc (.cells #[.int .i64 2, .bool false, .int .i64 4, .string ⟨#[]⟩, .slice none 0 0, .slice none 0 0] 25)) #[.int .i64 2, .bool false, .int .i64 mn, .string ⟨#[]⟩, .slice none 0 0, .slice none 0 0] 25 1 6 rfl
    rw [show (((w.alloc (.cells #[.int .i64 4, .string ms, .string mt, .int .i64 mn, .int .i64 k, .bool b, .int .i64 n, .string s, .slice AL nL cL, .slice AK nK cK] 41)).alloc (.cells #[.int .i64 0, .bool false, .int .i64 0, .string ⟨#[]⟩, .slice none 0 0, .slice none 0 0] 25)).alloc (.cells #[.int .i64 2, .bool false, .int .i64 4, .string ⟨#[]⟩, .slice none 0 0, .slice none 0 0] 25)).heap.size = w.heap.size + 1 + 1 + 1 by simp] at RL
    refine wpList_app el22 (.tmp 34) (.tmp 38) G1.ow RL (by intro u hu; simp at hu; rcases hu with rfl | rfl | rfl | rfl | rfl | rfl <;> rfl) (N := 2) rfl rfl (by decide) (by decide) G1.sz rfl rfl rfl rfl ?_
    intro A1 c1 w1 ho hg hb
    have L := G1.app (leaf hmn (by decide) (by decide)) ho hg
    have HL1 := hide L
    clear L RL G1 ho hg hb
    have x0 : w1.cell? ⟨w.heap.size + 1, 0, none⟩ = some (.int .i64 0) := blkR HL1.out.x rfl
    have x1 : w1.cell? ⟨w.heap.size + 1, 1, none⟩ = some (.bool false) := blkR HL1.out.x rfl
    have x2 : w1.cell? ⟨w.heap.size + 1, 2, none⟩ = some (.int .i64 0) := blkR HL1.out.x rfl
    have x3 : w1.cell? ⟨w.heap.size + 1, 3, none⟩ = some (.string ⟨#[]⟩) := blkR HL1.out.x rfl
    have x4 : w1.cell? ⟨w.heap.size + 1, 4, none⟩ = some (.slice none 0 0) := blkR HL1.out.x rfl
    have x5 : w1.cell? ⟨w.heap.size + 1, 5, none⟩ = some (.slice none 0 0) := blkR HL1.out.x rfl
    have xf : ∀ i, w1.frozen? ⟨w.heap.size + 1, i, none⟩ = false := fun i => HL1.out.x.frozen i
    have OE := only6 (Only.refl (fun b => b = w.heap.size + 1) w1) (.inl rfl) (.int .i64 4) (.bool false) (.int .i64 0) (.string ⟨#[]⟩) (.slice A1 2 c1) (.slice none 0 0)
    have HXE := hide (set6 HL1.out.x (.int .i64 4) (.bool false) (.int .i64 0) (.string ⟨#[]⟩) (.slice A1 2 c1) (.slice none 0 0))
    have HF := hide (HL1.out.fin OE)
    clear OE
    go_wp2
    refine bodyPost_ret (results_cell1 rfl _ _ (w.heap.size + 1) 25 _ _ rfl HXE.out Try.underlying25 rfl (by kernel_rfl)) rfl ?_
    exact ⟨_, rfl, HF.out.1, HF.out.2⟩
  · have G0 := GL.begin w #[.int .i64 18, .string ms, .string mt, .int .i64 mn, .int .i64 k, .bool b, .int .i64 n, .string s, .slice AL nL cL, .slice AK nK cK] 18 (by decide)
    have HG0 := hide G0
    clear G0
    go_enter Try.func45, Try.ntmps45
    go_wp2_with (at_builtin; refine pause ?_)
    refine unpause ?_
    have G1 := HG0.out.step ((Below.refl (((w.alloc (.cells #[.int .i64 18, .string ms, .string mt, .int .i64 mn, .int .i64 k, .bool b, .int .i64 n, .string s, .slice AL nL cL, .slice AK nK cK] 41)).alloc (.cells #[.int .i64 0, .bool false, .int .i64 0, .string ⟨#[]⟩, .slice none 0 0, .slice none 0 0] 25)).alloc (.cells #[.int .i64 2, .bool false, .int .i64 18, .string ⟨#[]⟩, .slice none 0 0, .slice none 0 0] 25)).heap.size (((w.alloc (.cells #[.int .i64 18, .string ms, .string mt, .int .i64 mn, .int .i64 k, .bool b, .int .i64 n, .string s, .slice AL nL cL, .slice AK nK cK] 41)).alloc (.cells #[.int .i64 0, .bool false, .int .i64 0, .string ⟨#[]⟩, .slice none 0 0, .slice none 0 0] 25)).alloc (.cells #[.int .i64 2, .bool false, .int .i64 18, .string ⟨#[]⟩, .slice none 0 0, .slice none 0 0] 25))).alloc (Nat.le_refl _) (.cells #[.int .i64 2, .bool false, .int .i64 mn, .string ⟨#[]⟩, .slice none 0 0, .slice none 0 0] 25))
    have RL := Reads.lit (((w.alloc (.cells #[.int .i64 18, .string ms, .string mt, .int .i64 mn, .int .i64 k, .bool b, .int .i64 n, .string s, .slice AL nL cL, .slice AK nK cK] 41)).alloc (.cells #[.int .i64 0, .bool false, .int .i64 0, .string ⟨#[]⟩, .slice none 0 0, .slice none 0 0] 25)).alloc (.cells #[.int .i64 2, .bool false, .int .i64 18, .string ⟨#[]⟩, .slice none 0 0, .slice none 0 0] 25)) #[.int .i64 2, .bool false, .int .i64 mn, .string ⟨#[]⟩, .slice none 0 0, .slice none 0 0] 25 1 6 rfl
    rw [show (((w.alloc (.cells #[.int .i64 18, .string ms, .string mt, .int .i64 mn, .int .i64 k, .bool b, .int .i64 n, .string s, .slice AL nL cL, .slice AK nK cK] 41)).alloc (.cells #[.int .i64 0, .bool false, .int .i64 0, .string ⟨#[]⟩, .slice none 0 0, .slice none 0 0] 25)).alloc (.cells #[.int .i64 2, .bool false, .int .i64 18, .string ⟨#[]⟩, .slice none 0 0, .slice none 0 0] 25)).heap.size = w.heap.size + 1 + 1 + 1 by simp] at RL
    refine wpList_app el22 (.tmp 34) (.tmp 38) G1.ow RL (by intro u hu; simp at hu; rcases hu with rfl | rfl | rfl | rfl | rfl | rfl <;> rfl) (N := 2) rfl rfl (by decide) (by decide) G1.sz rfl rfl rfl rfl ?_
    intro A1 c1 w1 ho hg hb
    have L := G1.app (leaf hmn (by decide) (by decide)) ho hg
    have HL1 := hide L
    clear L RL G1 ho hg hb
    have x0 : w1.cell? ⟨w.heap.size + 1, 0, none⟩ = some (.int .i64 0) := blkR HL1.out.x rfl
    have x1 : w1.cell? ⟨w.heap.size + 1, 1, none⟩ = some (.bool false) := blkR HL1.out.x rfl
    have x2 : w1.cell? ⟨w.heap.size + 1, 2, none⟩ = some (.int .i64 0) := blkR HL1.out.x rfl
    have x3 : w1.cell? ⟨w.heap.size + 1, 3, none⟩ = some (.string ⟨#[]⟩) := blkR HL1.out.x rfl
    have x4 : w1.cell? ⟨w.heap.size + 1, 4, none⟩ = some (.slice none 0 0) := blkR HL1.out.x rfl
    have x5 : w1.cell? ⟨w.heap.size + 1, 5, none⟩ = some (.slice none 0 0) := blkR HL1.out.x rfl
    have xf : ∀ i, w1.frozen? ⟨w.heap.size + 1, i, none⟩ = false := fun i => HL1.out.x.frozen i
    have OE := only6 (Only.refl (fun b => b = w.heap.size + 1) w1) (.inl rfl) (.int .i64 4) (.bool false) (.int .i64 0) (.string ⟨#[]⟩) (.slice A1 2 c1) (.slice none 0 0)
    have HXE := hide (set6 HL1.out.x (.int .i64 4) (.bool false) (.int .i64 0) (.string ⟨#[]⟩) (.slice A1 2 c1) (.slice none 0 0))
    have HF := hide (HL1.out.fin OE)
    clear OE
    go_wp2
    refine bodyPost_ret (results_cell1 rfl _ _ (w.heap.size + 1) 25 _ _ rfl HXE.out Try.underlying25 rfl (by kernel_rfl)) rfl ?_
    exact ⟨_, rfl, HF.out.1, HF.out.2⟩
  · have G0 := GL.begin w #[.int .i64 16, .string ms, .string mt, .int .i64 mn, .int .i64 k, .bool b, .int .i64 n, .string s, .slice AL nL cL, .slice AK nK cK] 16 (by decide)
    have HG0 := hide G0
    clear G0
    go_enter Try.func45, Try.ntmps45
    go_wp2_with (at_builtin; refine pause ?_)
    refine unpause ?_
    have G1 := HG0.out.step ((Below.refl (((w.alloc (.cells #[.int .i64 16, .string ms, .string mt, .int .i64 mn, .int .i64 k, .bool b, .int .i64 n, .string s, .slice AL nL cL, .slice AK nK cK] 41)).alloc (.cells #[.int .i64 0, .bool false, .int .i64 0, .string ⟨#[]⟩, .slice none 0 0, .slice none 0 0] 25)).alloc (.cells #[.int .i64 2, .bool false, .int .i64 16, .string ⟨#[]⟩, .slice none 0 0, .slice none 0 0] 25)).heap.size (((w.alloc (.cells #[.int .i64 16, .string ms, .string mt, .int .i64 mn, .int .i64 k, .bool b, .int .i64 n, .string s, .slice AL nL cL, .slice AK nK cK] 41)).alloc (.cells #[.int .i64 0, .bool false, .int .i64 0, .string ⟨#[]⟩, .slice none 0 0, .slice none 0 0] 25)).alloc (.cells #[.int .i64 2, .bool false, .int .i64 16, .string ⟨#[]⟩, .slice none 0 0, .slice none 0 0] 25))).alloc (Nat.le_refl _) (.cells #[.int .i64 k, .bool b, .int .i64 n, .string s, .slice AL nL cL, .slice AK nK cK] 25))
    have RL := Reads.lit (((w.alloc (.cells #[.int .i64 16, .string ms, .string mt, .int .i64 mn, .int .i64 k, .bool b, .int .i64 n, .string s, .slice AL nL cL, .slice AK nK cK] 41)).alloc (.cells #[.int .i64 0, .bool false, .int .i64 0, .string ⟨#[]⟩, .slice none 0 0, .slice none 0 0] 25)).alloc (.cells #[.int .i64 2, .bool false, .int .i64 16, .string ⟨#[]⟩, .slice none 0 0, .slice none 0 0] 25)) #[.int .i64 k, .bool b, .int .i64 n, .string s, .slice AL nL cL, .slice AK nK cK] 25 1 6 rfl
    rw [show (((w.alloc (.cells #[.int .i64 16, .string ms, .string mt, .int .i64 mn, .int .i64 k, .bool b, .int .i64 n, .string s, .slice AL nL cL, .slice AK nK cK] 41)).alloc (.cells #[.int .i64 0, .bool false, .int .i64 0, .string ⟨#[]⟩, .slice none 0 0, .slice none 0 0] 25)).alloc (.cells #[.int .i64 2, .bool false, .int .i64 16, .string ⟨#[]⟩, .slice none 0 0, .slice none 0 0] 25)).heap.size = w.heap.size + 1 + 1 + 1 by simp] at RL
    refine wpList_app el22 (.tmp 43) (.tmp 46) G1.ow RL (by intro u hu; simp at hu; rcases hu with rfl | rfl | rfl | rfl | rfl | rfl <;> rfl) (N := 2) rfl rfl (by decide) (by decide) G1.sz rfl rfl rfl rfl ?_
    intro A1 c1 w1 ho hg hb
    have L := G1.app (((((hV.alloc _).alloc _).alloc _).alloc _)) ho hg
    have HL1 := hide L
    clear L RL G1 ho hg hb
    have x0 : w1.cell? ⟨w.heap.size + 1, 0, none⟩ = some (.int .i64 0) := blkR HL1.out.x rfl
    have x1 : w1.cell? ⟨w.heap.size + 1, 1, none⟩ = some (.bool false) := blkR HL1.out.x rfl
    have x2 : w1.cell? ⟨w.heap.size + 1, 2, none⟩ = some (.int .i64 0) := blkR HL1.out.x rfl
    have x3 : w1.cell? ⟨w.heap.size + 1, 3, none⟩ = some (.string ⟨#[]⟩) := blkR HL1.out.x rfl
    have x4 : w1.cell? ⟨w.heap.size + 1, 4, none⟩ = some (.slice none 0 0) := blkR HL1.out.x rfl
    have x5 : w1.cell? ⟨w.heap.size + 1, 5, none⟩ = some (.slice none 0 0) := blkR HL1.out.x rfl
    have xf : ∀ i, w1.frozen? ⟨w.heap.size + 1, i, none⟩ = false := fun i => HL1.out.x.frozen i
    have OE := only6 (Only.refl (fun b => b = w.heap.size + 1) w1) (.inl rfl) (.int .i64 4) (.bool false) (.int .i64 0) (.string ⟨#[]⟩) (.slice A1 2 c1) (.slice none 0 0)
    have HXE := hide (set6 HL1.out.x (.int .i64 4) (.bool false) (.int .i64 0) (.string ⟨#[]⟩) (.slice A1 2 c1) (.slice none 0 0))
    have HF := hide (HL1.out.fin OE)
    clear OE
    go_wp2
    refine bodyPost_ret (results_cell1 rfl _ _ (w.heap.size + 1) 25 _ _ rfl HXE.out Try.underlying25 rfl (by kernel_rfl)) rfl ?_
    exact ⟨_, rfl, HF.out.1, HF.out.2⟩
  · have G0 := GL.begin w #[.int .i64 17, .string ms, .string mt, .int .i64 mn, .int .i64 k, .bool b, .int .i64 n, .string s, .slice AL nL cL, .slice AK nK cK] 17 (by decide)
    have HG0 := hide G0
    clear G0
    go_enter Try.func45, Try.ntmps45
    go_wp2_with (at_builtin; refine pause ?_)
    refine unpause ?_
    have G1 := HG0.out.step ((Below.refl (((w.alloc (.cells #[.int .i64 17, .string ms, .string mt, .int .i64 mn, .int .i64 k, .bool b, .int .i64 n, .string s, .slice AL nL cL, .slice AK nK cK] 41)).alloc (.cells #[.int .i64 0, .bool false, .int .i64 0, .string ⟨#[]⟩, .slice none 0 0, .slice none 0 0] 25)).alloc (.cells #[.int .i64 2, .bool false, .int .i64 17, .string ⟨#[]⟩, .slice none 0 0, .slice none 0 0] 25)).heap.size (((w.alloc (.cells #[.int .i64 17, .string ms, .string mt, .int .i64 mn, .int .i64 k, .bool b, .int .i64 n, .string s, .slice AL nL cL, .slice AK nK cK] 41)).alloc (.cells #[.int .i64 0, .bool false, .int .i64 0, .string ⟨#[]⟩, .slice none 0 0, .slice none 0 0] 25)).alloc (.cells #[.int .i64 2, .bool false, .int .i64 17, .string ⟨#[]⟩, .slice none 0 0, .slice none 0 0] 25))).alloc (Nat.le_refl _) (.cells #[.int .i64 k, .bool b, .int .i64 n, .string s, .slice AL nL cL, .slice AK nK cK] 25))
    have RL := Reads.lit (((w.alloc (.cells #[.int .i64 17, .string ms, .string mt, .int .i64 mn, .int .i64 k, .bool b, .int .i64 n, .string s, .slice AL nL cL, .slice AK nK cK] 41)).alloc (.cells #[.int .i64 0, .bool false, .int .i64 0, .string ⟨#[]⟩, .slice none 0 0, .slice none 0 0] 25)).alloc (.cells #[.int .i64 2, .bool false, .int .i64 17, .string ⟨#[]⟩, .slice none 0 0, .slice none 0 0] 25)) #[.int .i64 k, .bool b, .int .i64 n, .string s, .slice AL nL cL, .slice AK nK cK] 25 1 6 rfl
    rw [show (((w.alloc (.cells #[.int .i64 17, .string ms, .string mt, .int .i64 mn, .int .i64 k, .bool b, .int .i64 n, .string s, .slice AL nL cL, .slice AK nK cK] 41)).alloc (.cells #[.int .i64 0, .bool false, .int .i64 0, .string ⟨#[]⟩, .slice none 0 0, .slice none 0 0] 25)).alloc (.cells #[.int .i64 2, .bool false, .int .i64 17, .string ⟨#[]⟩, .slice none 0 0, .slice none 0 0] 25)).heap.size = w.heap.size + 1 + 1 + 1 by simp] at RL
    refine wpList_app el22 (.tmp 43) (.tmp 46) G1.ow RL (by intro u hu; simp at hu; rcases hu with rfl | rfl | rfl | rfl | rfl | rfl <;> rfl) (N := 2) rfl rfl (by decide) (by decide) G1.sz rfl rfl rfl rfl ?_
    intro A1 c1 w1 ho hg hb
    have L := G1.app (((((hV.alloc _).alloc _).alloc _).alloc _)) ho hg
    have HL1 := hide L
    clear L RL G1 ho hg hb
    have x0 : w1.cell? ⟨w.heap.size + 1, 0, none⟩ = some (.int .i64 0) := blkR HL1.out.x rfl
    have x1 : w1.cell? ⟨w.heap.size + 1, 1, none⟩ = some (.bool false) := blkR HL1.out.x rfl
    have x2 : w1.cell? ⟨w.heap.size + 1, 2, none⟩ = some (.int .i64 0) := blkR HL1.out.x rfl
    have x3 : w1.cell? ⟨w.heap.size + 1, 3, none⟩ = some (.string ⟨#[]⟩) := blkR HL1.out.x rfl
    have x4 : w1.cell? ⟨w.heap.size + 1, 4, none⟩ = some (.slice none 0 0) := blkR HL1.out.x rfl
    have x5 : w1.cell? ⟨w.heap.size + 1, 5, none⟩ = some (.slice none 0 0) := blkR HL1.out.x rfl
    have xf : ∀ i, w1.frozen? ⟨w.heap.size + 1, i, none⟩ = false := fun i => HL1.out.x.frozen i
    have OE := only6 (Only.refl (fun b => b = w.heap.size + 1) w1) (.inl rfl) (.int .i64 4) (.bool false) (.int .i64 0) (.string ⟨#[]⟩) (.slice A1 2 c1) (.slice none 0 0)
    have HXE := hide (set6 HL1.out.x (.int .i64 4) (.bool false) (.int .i64 0) (.string ⟨#[]⟩) (.slice A1 2 c1) (.slice none 0 0))
    have HF := hide (HL1.out.fin OE)
    clear OE
    go_wp2
    refine bodyPost_ret (results_cell1 rfl _ _ (w.heap.size + 1) 25 _ _ rfl HXE.out Try.underlying25 rfl (by kernel_rfl)) rfl ?_
    exact ⟨_, rfl, HF.out.1, HF.out.2⟩
  · have hrest := rest_0 (m := ⟨mk, ms, mt, mn, mv⟩) h0
    have HRS := hide hrest
    have e1 : (mk == 1) = false := by simp; omega
    have e3 : (mk == 3) = false := by simp; omega
    have e4 : (mk == 4) = false := by simp; omega
    have e18 : (mk == 18) = false := by simp; omega
    have e16 : (mk == 16) = false := by simp; omega
    have e17 : (mk == 17) = false := by simp; omega
    clear h0 hrest
    have RES := fun (cs : Array Value) => (show Blk (((w.alloc (.cells #[.int .i64 mk, .string ms, .string mt, .int .i64 mn, .int .i64 k, .bool b, .int .i64 n, .string s, .slice AL nL cL, .slice AK nK cK] 41)).alloc (.cells cs 25)).alloc (.cells #[.int .i64 2, .bool false, .int .i64 mk, .string ⟨#[]⟩, .slice none 0 0, .slice none 0 0] 25)) (w.heap.size + 1) 25 cs by simpa using (Blk.new (w.alloc (.cells #[.int .i64 mk, .string ms, .string mt, .int .i64 mn, .int .i64 k, .bool b, .int .i64 n, .string s, .slice AL nL cL, .slice AK nK cK] 41)) 25 cs).alloc (.cells #[.int .i64 2, .bool false, .int .i64 mk, .string ⟨#[]⟩, .slice none 0 0, .slice none 0 0] 25))
    have OWN := fun (cs : Array Value) => World.ownsRow_lit (base := w.heap.size + 2) (e := 25) (size := 6) ((w.alloc (.cells #[.int .i64 mk, .string ms, .string mt, .int .i64 mn, .int .i64 k, .bool b, .int .i64 n, .string s, .slice AL nL cL, .slice AK nK cK] 41)).alloc (.cells cs 25)) #[.int .i64 2, .bool false, .int .i64 mk, .string ⟨#[]⟩, .slice none 0 0, .slice none 0 0] 1 (by simp) (by decide) rfl
    have BEL := fun (cs : Array Value) => (((Below.refl w.heap.size w).alloc (Nat.le_refl _) (.cells #[.int .i64 mk, .string ms, .string mt, .int .i64 mn, .int .i64 k, .bool b, .int .i64 n, .string s, .slice AL nL cL, .slice AK nK cK] 41)).alloc (by simp) (.cells cs 25)).alloc (by simp; omega) (.cells #[.int .i64 2, .bool false, .int .i64 mk, .string ⟨#[]⟩, .slice none 0 0, .slice none 0 0] 25)
    have HRES := hide RES
    have HOWN := hide OWN
    have HBEL := hide BEL
    clear RES OWN BEL
    go_enter Try.func45, Try.ntmps45
    go_wp2
    refine bodyPost_ret (results_cell1 rfl _ _ (w.heap.size + 1) 25 _ _ rfl (HRES.out _) Try.underlying25 rfl (by kernel_rfl)) rfl ?_
    refine ⟨_, rfl, ?_, HBEL.out _⟩
    unfold listM
    rw [HRS.out, IsV]
    refine ⟨some ⟨w.heap.size + 1 + 1, 0, none⟩, 1, none, 0, (#[.int .i64 2, .bool false, .int .i64 mk, .string ⟨#[]⟩, .slice none 0 0, .slice none 0 0] : Array Value).toList, rfl, ⟨Nat.le_refl _, by decide, Nat.le_refl _, by decide⟩, ⟨by decide, by decide, by decide, by decide, by decide, fun x hx => by cases hx⟩, RdS.ofOwn (by simpa using HOWN.out _) (fun _ _ => trivial), IsVs.one (leaf hmk (by decide) (by decide)), RdS.nil⟩
end Go.Proofs.Ytaapbiiiepdopaa
