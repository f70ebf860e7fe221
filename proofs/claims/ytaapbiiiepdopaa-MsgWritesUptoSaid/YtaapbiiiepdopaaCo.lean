/- A copy of a value. -/
import Derived.Test.YtaapbiiiepdopaaWk
import Derived.Test.YtaapbiiiepdopaaSa
namespace Go.Proofs.Ytaapbiiiepdopaa
open Go.RowKit Mem
set_option linter.unusedVariables false

def CopC (v : V) : Prop := bulk v ≤ 1048576 → ∀ {w : World} {S : Nat → Prop} {cs : Array Value}, IsV w S v cs →
  Calls Try.prog 14 #[.agg cs] w fun e w' => ∃ cs', e = .returned (.agg cs') ∧ IsV w' (fun b => w.heap.size ≤ b) v cs' ∧ Below w.heap.size w w'
/-- a copy under way: the list so far -/
structure CS (w wr : World) (B X : Nat) (cells : Array Value) (A : Option Addr) (n c : Nat) (vs : List V) (xs : List Value) : Prop where
  ol : wr.ownsRow w.heap.size 25 6 (.slice A n c) n xs
  iv : IsVs wr (fun b => w.heap.size ≤ b ∧ b ≠ B ∧ b ≠ X ∧ (Value.slice A n c).ownBlock ≠ some b) vs xs
  y : Blk wr B 25 cells
  x : Blk wr X 25 nulCells
  lx : (Value.slice A n c).ownBlock ≠ some B ∧ (Value.slice A n c).ownBlock ≠ some X
  be : Below w.heap.size w wr
  lt : w.heap.size ≤ B ∧ w.heap.size ≤ X ∧ B ≠ X
section
variable {w wr w7 w8 : World} {B X : Nat} {cells : Array Value} {A A' : Option Addr} {n c c' : Nat} {vs : List V} {xs : List Value}
theorem CS.step (h : CS w wr B X cells A n c vs xs) (hb : Below wr.heap.size wr w7) : CS w w7 B X cells A n c vs xs :=
  ⟨own_only h.ol (Only.ofBelow (S := fun _ => False) hb) (fun _ _ h => h), h.iv.grow hb, h.y.below hb h.y.lt, h.x.below hb h.x.lt, h.lx, h.be.trans (hb.mono h.be.size), h.lt⟩
theorem CS.val (h : CS w wr B X cells A n c vs xs) {v : V} {cs : Array Value} {N : Nat} (hN : w.heap.size ≤ N ∧ B < N ∧ X < N ∧ ∀ b, (Value.slice A n c).ownBlock = some b → b < N) (hv : IsV wr (fun b => N ≤ b) v cs)
    (ho : w8.ownsRow w.heap.size 25 6 (.slice A' (n + 1) c') (n + 1) (xs ++ cs.toList)) (hg : wr.grownBy w8 (Value.slice A n c).ownBlock)
    (hb : (Value.slice A' (n + 1) c').ownBlock = (Value.slice A n c).ownBlock ∨ (Value.slice A' (n + 1) c').ownBlock = some wr.heap.size) : CS w w8 B X cells A' (n + 1) c' (vs ++ [v]) (xs ++ cs.toList) := by
  have hY := h.y.lt
  have hX := h.x.lt
  obtain ⟨n1, n2, n3, n4⟩ := hN
  have ot : Only (fun b => (Value.slice A n c).ownBlock = some b) wr w8 := Only.ofGrown hg
  have newne : ∀ b, b < wr.heap.size → (Value.slice A n c).ownBlock ≠ some b → (Value.slice A' (n + 1) c').ownBlock ≠ some b := by
    intro b hb1 hb2 e
    rcases hb with hb | hb
    · rw [hb] at e; exact hb2 e
    · rw [hb] at e; cases e; omega
  have hvk : IsVs wr (fun b => w.heap.size ≤ b ∧ b ≠ B ∧ b ≠ X ∧ (Value.slice A n c).ownBlock ≠ some b) [v] cs.toList := IsVs.one (hv.mono (fun b hb1 hb2 => ⟨Nat.le_trans n1 hb1, by have hb1 : N ≤ b := hb1; omega, by have hb1 : N ≤ b := hb1; omega, fun e => by have := n4 b e; have hb1 : N ≤ b := hb1; omega⟩))
  have hall := h.iv.app hvk
  refine ⟨ho, hall.keep (fun b hb1 hb2 => ot.block b hb2 hb1.2.2.2) (fun b hb1 hb2 => ⟨hb1.1, hb1.2.1, hb1.2.2.1, newne b hb2 hb1.2.2.2⟩), h.y.only ot h.lx.1, h.x.only ot h.lx.2, ⟨newne _ hY h.lx.1, newne _ hX h.lx.2⟩, ?_, h.lt⟩
  exact h.be.grown hg h.be.size (fun k hk => own_lo h.ol hk)
end

set_option maxHeartbeats 2000000 in
set_option maxRecDepth 100000 in
theorem copy_any (v : V) : CopC v := by
  refine V.ind (P := CopC) ?_ v
  intro k b m s l ks ih hbk w S cs hV0
  have hV := hV0.mono (S' := fun b => b < w.heap.size) (fun b _ h => h)
  clear hV0
  have hwf := hV.wf
  rw [IsV] at hV
  obtain ⟨AL, cL, AK, cK, ys, rfl, ⟨hl1, hl2, hk1, hk2⟩, hrng, hR, hI, hK⟩ := hV
  have hll : l.length ≤ 1048576 := by have := bulks_len l; rw [bulk] at hbk; omega
  have hkl : ks.length ≤ 1048576 := by
    rw [bulk] at hbk
    have : ks.length ≤ (ks.map fun k => k.size + 1).sum := by
      clear hbk hK hk1 ih hrng hwf hI hR hll hl1
      induction ks with
      | nil => simp
      | cons a t ih => simp only [List.length_cons, List.map_cons, List.sum_cons]; omega
    omega
  have hbi : ∀ i (h : i < l.length), bulk l[i] ≤ 1048576 := fun i h => by have := bulks_mem (List.getElem_mem h); rw [bulk] at hbk; omega
  have B0 := ((Below.refl w.heap.size w).alloc (Nat.le_refl _) (.cells #[.int .i64 k, .bool b, .int .i64 m, .string s, .slice AL l.length cL, .slice AK ks.length cK] 25)).alloc (by simp) (.cells nulCells 25)
  have Y0 := (Blk.new w 25 #[.int .i64 k, .bool b, .int .i64 m, .string s, .slice AL l.length cL, .slice AK ks.length cK]).alloc (.cells nulCells 25)
  have X0 := Blk.new (w.alloc (.cells #[.int .i64 k, .bool b, .int .i64 m, .string s, .slice AL l.length cL, .slice AK ks.length cK] 25)) 25 nulCells
  have C0 : CS w ((w.alloc (.cells #[.int .i64 k, .bool b, .int .i64 m, .string s, .slice AL l.length cL, .slice AK ks.length cK] 25)).alloc (.cells nulCells 25)) w.heap.size (w.heap.size + 1) _ none 0 0 [] [] :=
    ⟨World.ownsRow_nil _ _ _ _, IsVs.nil, Y0, by simpa using X0, ⟨by simp [Value.ownBlock], by simp [Value.ownBlock]⟩, B0, ⟨Nat.le_refl _, by omega, by omega⟩⟩
  have HC0 := hide C0
  clear C0 B0 Y0 X0
  unfold nulCells at HC0
  go_enter Try.func14, Try.ntmps14
  go_wp2_with fail
  go_loopg [3, 4] l.length (fun gj lv iv wr => ∃ (i : Nat) (A : Option Addr) (c : Nat) (xs : List Value), gj = l.length - i ∧ lv = .slice A i c ∧ iv = .int .i64 (i : Nat) ∧ i ≤ l.length ∧ Hid (CS w wr w.heap.size (w.heap.size + 1) #[.int .i64 k, .bool b, .int .i64 m, .string s, .slice AL l.length cL, .slice AK ks.length cK] A i c (l.take i) xs))
  case atStart => exact ⟨0, none, 0, [], rfl, rfl, rfl, Nat.zero_le _, HC0⟩
  case round =>
    obtain ⟨i, A, c, xs, rfl, rfl, rfl, hi, hC⟩ := hrel
    have f4 : wr.cell? ⟨w.heap.size, 4, none⟩ = some (.slice AL l.length cL) := blkR hC.out.y rfl
    by_cases hlt : i < l.length
    · obtain ⟨bA, oA, cs, rfl, _, hbA, hVA, hcA⟩ := (hI.below hC.out.be (fun b h => h)).get (hR.below hC.out.be (fun b h => h)) hlt
      obtain ⟨k2, bb2, m2, s2, AL2, nL2, cL2, AK2, nK2, cK2, rfl⟩ := hVA.shape
      have g0 : wr.cell? ⟨bA, oA + i * 6, none⟩ = some (.int .i64 k2) := hcA 0 (by decide)
      have g1 : wr.cell? ⟨bA, oA + i * 6 + 1, none⟩ = some (.bool bb2) := hcA 1 (by decide)
      have g2 : wr.cell? ⟨bA, oA + i * 6 + 2, none⟩ = some (.int .i64 m2) := hcA 2 (by decide)
      have g3 : wr.cell? ⟨bA, oA + i * 6 + 3, none⟩ = some (.string s2) := hcA 3 (by decide)
      have g4 : wr.cell? ⟨bA, oA + i * 6 + 4, none⟩ = some (.slice AL2 nL2 cL2) := hcA 4 (by decide)
      have g5 : wr.cell? ⟨bA, oA + i * 6 + 5, none⟩ = some (.slice AK2 nK2 cK2) := hcA 5 (by decide)
      have hx1 : (i : Int) < (l.length : Int) := by omega
      have HIH := hide (ih l[i] (List.getElem_mem hlt) (hbi i hlt) hVA)
      have ht : l.take (i + 1) = l.take i ++ [l[i]] := List.take_succ_eq_append_getElem hlt
      have HT := hide ht
      clear hVA hcA ht
      go_wp2_with fail
      refine HIH.out.mono ?_
      rintro e w7 ⟨cs', rfl, hV7, hb7⟩
      obtain ⟨k3, bb3, m3, s3, AL3, nL3, cL3, AK3, nK3, cK3, rfl⟩ := hV7.shape
      have C7 := hC.out.step hb7
      clear g0 g1 g2 g3 g4 g5 HIH
      go_wp2_with (at_builtin; refine pause ?_)
      refine unpause ?_
      have C8 := C7.step (((Below.refl w7.heap.size w7).alloc (Nat.le_refl _) (.cells #[.int .i64 k3, .bool bb3, .int .i64 m3, .string s3, .slice AL3 nL3 cL3, .slice AK3 nK3 cK3] 25)))
      refine wpList_app el22 (.tmp 13) (.tmp 20) C8.ol (Reads.lit w7 #[.int .i64 k3, .bool bb3, .int .i64 m3, .string s3, .slice AL3 nL3 cL3, .slice AK3 nK3 cK3] 25 1 6 rfl) hV7.oneCell (N := i + 1) rfl rfl (by unfold maxLen; omega) (by omega) C8.be.size rfl rfl rfl rfl ?_
      intro A9 c9 w9 ho9 hg9 hb9
      have C9 := C8.val ⟨hC.out.be.size, hC.out.y.lt, hC.out.x.lt, fun b hb => own_lt hC.out.ol hb⟩ (hV7.alloc _) ho9 hg9 hb9
      rw [← HT.out] at C9
      have HC9 := hide C9
      clear C7 C8 C9 hV7 hb7 ho9 hg9 hb9
      go_wp2_with fail
      go_roundg (l.length - (i + 1))
      case measure => omega
      case rel => exact ⟨i + 1, A9, c9, _, rfl, rfl, by go_num, by omega, HC9⟩
    · have hx1 : ¬ (i : Int) < (l.length : Int) := by omega
      have hil : i = l.length := by omega
      subst hil
      have f5 : wr.cell? ⟨w.heap.size, 5, none⟩ = some (.slice AK ks.length cK) := blkR hC.out.y rfl
      go_wp2_with (at_builtin; refine pause ?_)
      refine unpause ?_
      refine wpList_app el23 (.tmp 22) (.tmp 24) (World.ownsRow_nil wr w.heap.size 9 1) ((hK.below hC.out.be (fun b h => h)).reads (hi := w.heap.size) (fun b h => h)) (by intro u hu; obtain ⟨x, _, rfl⟩ := List.mem_map.1 hu; rfl) (N := ks.length) (ys := ks.map .string) (by simp) (by simp) (by unfold maxLen; omega) (by omega) hC.out.be.size rfl rfl rfl rfl ?_
      intro A5 c5 w5 o5 h5 hb5
      have b5 : Below wr.heap.size wr w5 := (Below.refl _ wr).grown h5 (Nat.le_refl _) (by simp [Value.ownBlock])
      have C5 := hC.out.step b5
      have hyl := hC.out.y.lt
      have hxl := hC.out.x.lt
      have kB : (Value.slice A5 ks.length c5).ownBlock ≠ some w.heap.size ∧ (Value.slice A5 ks.length c5).ownBlock ≠ some (w.heap.size + 1) := by
        rcases hb5 with e | e <;> rw [e]
        · simp [Value.ownBlock]
        · exact ⟨fun e => by have := Option.some.inj e; omega, fun e => by have := Option.some.inj e; omega⟩
      have Y5 := C5.y
      have X5 := C5.x
      have y0 : w5.cell? ⟨w.heap.size, 0, none⟩ = some (.int .i64 k) := blkR Y5 rfl
      have y1 : w5.cell? ⟨w.heap.size, 1, none⟩ = some (.bool b) := blkR Y5 rfl
      have y2 : w5.cell? ⟨w.heap.size, 2, none⟩ = some (.int .i64 m) := blkR Y5 rfl
      have y3 : w5.cell? ⟨w.heap.size, 3, none⟩ = some (.string s) := blkR Y5 rfl
      have y4 : w5.cell? ⟨w.heap.size, 4, none⟩ = some (.slice AL l.length cL) := blkR Y5 rfl
      have y5 : w5.cell? ⟨w.heap.size, 5, none⟩ = some (.slice AK ks.length cK) := blkR Y5 rfl
      have yf : ∀ i, w5.frozen? ⟨w.heap.size, i, none⟩ = false := fun i => Y5.frozen i
      have x0 : w5.cell? ⟨w.heap.size + 1, 0, none⟩ = some (.int .i64 0) := blkR X5 rfl
      have x1 : w5.cell? ⟨w.heap.size + 1, 1, none⟩ = some (.bool false) := blkR X5 rfl
      have x2 : w5.cell? ⟨w.heap.size + 1, 2, none⟩ = some (.int .i64 0) := blkR X5 rfl
      have x3 : w5.cell? ⟨w.heap.size + 1, 3, none⟩ = some (.string ⟨#[]⟩) := blkR X5 rfl
      have x4 : w5.cell? ⟨w.heap.size + 1, 4, none⟩ = some (.slice none 0 0) := blkR X5 rfl
      have x5 : w5.cell? ⟨w.heap.size + 1, 5, none⟩ = some (.slice none 0 0) := blkR X5 rfl
      have xf : ∀ i, w5.frozen? ⟨w.heap.size + 1, i, none⟩ = false := fun i => X5.frozen i
      have O1 : Only (fun b => b = w.heap.size) w5 ((w5.setCell ⟨w.heap.size, 4, none⟩ (.slice A l.length c)).setCell ⟨w.heap.size, 5, none⟩ (.slice A5 ks.length c5)) :=
        ((Only.refl (fun b => b = w.heap.size) w5).setCell (p := ⟨w.heap.size, 4, none⟩) (.inl rfl) _).setCell (p := ⟨w.heap.size, 5, none⟩) (.inl rfl) _
      have X6 := X5.only O1 (by omega)
      have XE := set6 X6 (.int .i64 k) (.bool b) (.int .i64 m) (.string s) (.slice A l.length c) (.slice A5 ks.length c5)
      have OE := only6 (Only.refl (fun b => b = w.heap.size + 1) ((w5.setCell ⟨w.heap.size, 4, none⟩ (.slice A l.length c)).setCell ⟨w.heap.size, 5, none⟩ (.slice A5 ks.length c5))) (.inl rfl) (.int .i64 k) (.bool b) (.int .i64 m) (.string s) (.slice A l.length c) (.slice A5 ks.length c5)
      have OA : Only (fun b => b = w.heap.size ∨ b = w.heap.size + 1) w5 _ := (O1.mono (fun _ _ h => .inl h)).trans OE (fun _ _ h => .inr h)
      have HXE := hide XE
      have HOA := hide OA
      have HC5 := hide C5
      have HO5 := hide o5
      clear Y5 X5 X6 XE O1 OE OA C5 o5 h5 b5 hb5
      go_wp2
      refine bodyPost_ret (results_cell1 rfl _ _ (w.heap.size + 1) 25 _ _ rfl HXE.out Try.underlying25 rfl (by kernel_rfl)) rfl ?_
      have ol := own_only HC5.out.ol HOA.out (by rintro b hb (rfl | rfl); exact HC5.out.lx.1 hb; exact HC5.out.lx.2 hb)
      have ok := own_only HO5.out HOA.out (by rintro b hb (rfl | rfl); exact kB.1 hb; exact kB.2 hb)
      have iv := HC5.out.iv.only HOA.out (fun b hb e => by rcases e with e | e; exact hb.2.1 e; exact hb.2.2.1 e)
      rw [List.take_length] at iv
      refine ⟨_, rfl, ?_, HC5.out.be.trans (HOA.out.below (B := w.heap.size) (by rintro b _ (e | e) <;> omega) HC5.out.be.size)⟩
      rw [IsV]
      have q1 := own_cap ol
      have q2 := own_cap ok
      exact ⟨A, c, A5, c5, _, rfl, ⟨q1.1, q1.2, q2.1, q2.2⟩, hrng, RdS.ofOwn ol (fun b hb => own_lo ol hb), iv.keep (fun _ _ _ => rfl) (fun b hb _ => hb.1), RdS.ofOwn ok (fun b hb => own_lo ok hb)⟩
end Go.Proofs.Ytaapbiiiepdopaa
