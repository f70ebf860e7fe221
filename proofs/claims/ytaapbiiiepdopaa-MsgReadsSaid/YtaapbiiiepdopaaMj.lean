/- msg.Encode, wattleref08.Encode. -/
import Derived.Test.YtaapbiiiepdopaaMh
import Derived.Test.YtaapbiiiepdopaaMi
import Derived.Test.YtaapbiiiepdopaaEn
import Derived.Test.YtaapbiiiepdopaaRe
namespace Go.Proofs.Ytaapbiiiepdopaa
open Go.RowKit Mem
set_option linter.unusedVariables false

/-- what an encoding answers -/
def EncMP (m : M) (w : World) (e : Ending) (w' : World) : Prop := Below w.heap.size w w' ∧ match encM m with
  | .ok bs => ∃ A c, e = .returned (.tuple #[.slice A bs.length c, .int .i64 0]) ∧ Reads w' 0 w'.heap.size 1 A bs.length (bs.map B8)
  | .error z => e = .returned (.tuple #[.slice none 0 0, .int .i64 z])
theorem EncMP_9 {m : M} {w w' : World} (hb : Below w.heap.size w w') (h : okM m = false) : EncMP m w (.returned (.tuple #[.slice none 0 0, .int .i64 9])) w' := by
  refine ⟨hb, ?_⟩
  unfold encM
  rw [if_neg (by rw [h]; decide)]
theorem EncMP_21 {m : M} {w w' : World} (hb : Below w.heap.size w w') (h : okM m = true) (h2 : ¬ (mayB (listM m) = true ∧ (byt (listM m)).length ≤ 32768)) : EncMP m w (.returned (.tuple #[.slice none 0 0, .int .i64 21])) w' := by
  refine ⟨hb, ?_⟩
  unfold encM
  rw [if_pos h, if_neg h2]
theorem EncMP_ok {m : M} {w w' : World} {A : Option Addr} {c : Nat} (hb : Below w.heap.size w w') (h : okM m = true) (h2 : mayB (listM m) = true ∧ (byt (listM m)).length ≤ 32768) (hr : Reads w' 0 w'.heap.size 1 A (byt (listM m)).length ((byt (listM m)).map B8)) : EncMP m w (.returned (.tuple #[.slice A (byt (listM m)).length c, .int .i64 0])) w' := by
  refine ⟨hb, ?_⟩
  unfold encM
  rw [if_pos h, if_pos h2]
  exact ⟨A, c, rfl, hr⟩
def EncMQ (m : M) (w : World) (e : Ending) (w' : World) : Prop := Below w.heap.size w w' ∧ match encM m with
  | .ok bs => ∃ A c, e = .returned (.tuple #[.slice A bs.length c, .int .i64 0]) ∧ Reads w' 0 w'.heap.size 1 A bs.length (bs.map B8) ∧ bs.length ≤ c ∧ c ≤ 9223372036854775807
  | .error z => e = .returned (.tuple #[.slice none 0 0, .int .i64 z])
theorem EncMQ.p {m : M} {w w' : World} {e : Ending} (h : EncMQ m w e w') : EncMP m w e w' := by
  obtain ⟨h1, h2⟩ := h
  refine ⟨h1, ?_⟩
  cases he : encM m with
  | ok bs => rw [he] at h2; obtain ⟨A, c, h3, h4, _⟩ := h2; exact ⟨A, c, h3, h4⟩
  | error z => rw [he] at h2; exact h2
theorem EncMQ_9 {m : M} {w w' : World} (hb : Below w.heap.size w w') (h : okM m = false) : EncMQ m w (.returned (.tuple #[.slice none 0 0, .int .i64 9])) w' := by
  refine ⟨hb, ?_⟩
  unfold encM
  rw [if_neg (by rw [h]; decide)]
theorem EncMQ_21 {m : M} {w w' : World} (hb : Below w.heap.size w w') (h : okM m = true) (h2 : ¬ (mayB (listM m) = true ∧ (byt (listM m)).length ≤ 32768)) : EncMQ m w (.returned (.tuple #[.slice none 0 0, .int .i64 21])) w' := by
  refine ⟨hb, ?_⟩
  unfold encM
  rw [if_pos h, if_neg h2]
theorem EncMQ_ok {m : M} {w w' : World} {A : Option Addr} {c : Nat} (hb : Below w.heap.size w w') (h : okM m = true) (h2 : mayB (listM m) = true ∧ (byt (listM m)).length ≤ 32768) (hr : Reads w' 0 w'.heap.size 1 A (byt (listM m)).length ((byt (listM m)).map B8)) (hc : (byt (listM m)).length ≤ c ∧ c ≤ 9223372036854775807) : EncMQ m w (.returned (.tuple #[.slice A (byt (listM m)).length c, .int .i64 0])) w' := by
  refine ⟨hb, ?_⟩
  unfold encM
  rw [if_pos h, if_pos h2]
  exact ⟨A, c, rfl, hr, hc⟩
/-- a list under way: the message's block, the values so far -/
structure GK (w w1 : World) (ten : Array Value) (A : Option Addr) (N c : Nat) (vs : List V) (xs : List Value) : Prop where
  ow : w1.ownsRow (w.heap.size + 1) 25 6 (.slice A N c) N xs
  iv : IsVs w1 (fun b => b < w.heap.size) vs xs
  m : Blk w1 w.heap.size 41 ten
  be : Below w.heap.size w w1
  le : vs.length = N
  sz : w.heap.size + 1 ≤ w1.heap.size
section
variable {w w1 w2 : World} {ten : Array Value} {A A' : Option Addr} {N n c c' : Nat} {vs us : List V} {xs ys : List Value}
theorem GK.step (h : GK w w1 ten A N c vs xs) (hb : Below w1.heap.size w1 w2) : GK w w2 ten A N c vs xs :=
  ⟨own_only h.ow (Only.ofBelow (S := fun _ => False) hb) (fun _ _ h => h), h.iv.grow hb, h.m.below hb h.m.lt, h.be.trans (hb.mono h.be.size), h.le, Nat.le_trans h.sz hb.size⟩
theorem GK.drewN (h : GK w w1 ten A N c vs xs) (k : Nat) : GK w (w1.drewN k) ten A N c vs xs := ⟨own_drewN h.ow k, h.iv.drewN k, h.m.drewN k, Below.drewN' h.be k, h.le, h.sz⟩
theorem GK.app (h : GK w w1 ten A N c vs xs) (hv : IsVs w1 (fun b => b < w.heap.size) us ys) (hn : N + us.length = n)
    (ho : w2.ownsRow (w.heap.size + 1) 25 6 (.slice A' n c') n (xs ++ ys)) (hg : w1.grownBy w2 (Value.slice A N c).ownBlock) : GK w w2 ten A' n c' (vs ++ us) (xs ++ ys) := by
  have ot : Only (fun b => (Value.slice A N c).ownBlock = some b) w1 w2 := Only.ofGrown hg
  have lo : ∀ b, (Value.slice A N c).ownBlock = some b → w.heap.size + 1 ≤ b := fun b hb => own_lo h.ow hb
  refine ⟨ho, (h.iv.app hv).only ot (fun b hb e => by have := lo b e; have hb : b < w.heap.size := hb; omega), h.m.only ot (fun e => by have := lo _ e; omega), ?_, by have := h.le; simp; omega, Nat.le_trans h.sz ot.size⟩
  exact h.be.trans (ot.below (B := w.heap.size) (by intro b _ e; have := lo b e; omega) h.be.size)
theorem GK.isv (h : GK w w1 ten A N c vs xs) : IsV w1 (fun _ => True) (.mk 4 false 0 .empty vs []) #[.int .i64 4, .bool false, .int .i64 0, .string ⟨#[]⟩, .slice A N c, .slice none 0 0] := by
  have c1 := own_cap h.ow
  have le := h.le
  have ow := h.ow
  have iv := h.iv
  clear h
  subst le
  rw [IsV]
  exact ⟨A, c, none, 0, xs, rfl, ⟨c1.1, c1.2, Nat.le_refl _, by decide⟩, ⟨by decide, by decide, by decide, by decide, by decide, fun x hx => by cases hx⟩, RdS.ofOwn ow (fun _ _ => trivial), iv.keep (fun _ _ _ => rfl) (fun _ _ _ => trivial), RdS.nil⟩
end
theorem GK.begin {w w2 : World} {ten : Array Value} (hm : Blk w2 w.heap.size 41 ten) (hb : Below w.heap.size w w2) (hs : w.heap.size + 1 ≤ w2.heap.size) (k : Int) (hk : -9223372036854775808 ≤ k ∧ k ≤ 9223372036854775807) : GK w (w2.alloc (.cells #[.int .i64 2, .bool false, .int .i64 k, .string ⟨#[]⟩, .slice none 0 0, .slice none 0 0] 25)) ten (some ⟨w2.heap.size, 0, none⟩) 1 1 [vI k] (#[.int .i64 2, .bool false, .int .i64 k, .string ⟨#[]⟩, .slice none 0 0, .slice none 0 0] : Array Value).toList :=
  ⟨World.ownsRow_lit (base := w.heap.size + 1) (e := 25) (size := 6) w2 #[.int .i64 2, .bool false, .int .i64 k, .string ⟨#[]⟩, .slice none 0 0, .slice none 0 0] 1 hs (by decide) rfl, IsVs.one (leaf hk (by decide) (by decide)), hm.alloc _, hb.alloc hb.size _, rfl, by simp; omega⟩
set_option maxHeartbeats 8000000 in
set_option maxRecDepth 100000 in
theorem encodeM_any {m : M} {w : World} {S : Nat → Prop} {cs : Array Value} (hM : IsM w S m cs) (hn : mayB (listM m) = true → (byt (listM m)).length ≤ 35184372088832) :
    Calls Try.prog 25 #[.agg cs] w fun e w' => EncMQ m w e w' := by
  obtain ⟨mk, ms, mt, mn, mv⟩ := m
  have hM0 := hM
  obtain ⟨k, b, n, s, AL, nL, cL, AK, nK, cK, rfl, hV0, hrange⟩ := hM0
  dsimp only at hV0 hrange hM
  have hV := hV0.mono (S' := fun b => b < w.heap.size) (fun b _ h => h)
  have hmk : -9223372036854775808 ≤ mk ∧ mk ≤ 9223372036854775807 := ⟨hrange.1, hrange.2.1⟩
  have hmn : -9223372036854775808 ≤ mn ∧ mn ≤ 9223372036854775807 := ⟨hrange.2.2.1, hrange.2.2.2.1⟩
  have hms : ms.size ≤ 9223372036854775807 := hrange.2.2.2.2.1
  have hmt : mt.size ≤ 9223372036854775807 := hrange.2.2.2.2.2
  clear hrange hV0
  rcases kind_cases mk with rfl | rfl | rfl | rfl | rfl | rfl | h0
  · have X0 := Blk.new w 41 #[.int .i64 1, .string ms, .string mt, .int .i64 mn, .int .i64 k, .bool b, .int .i64 n, .string s, .slice AL nL cL, .slice AK nK cK]
    have B0 := (Below.refl w.heap.size w).alloc (Nat.le_refl _) (.cells #[.int .i64 1, .string ms, .string mt, .int .i64 mn, .int .i64 k, .bool b, .int .i64 n, .string s, .slice AL nL cL, .slice AK nK cK] 41)
    have V0 := hV.alloc (.cells #[.int .i64 1, .string ms, .string mt, .int .i64 mn, .int .i64 k, .bool b, .int .i64 n, .string s, .slice AL nL cL, .slice AK nK cK] 41)
    have HC := hide (mcheck_any (hM.alloc (.cells #[.int .i64 1, .string ms, .string mt, .int .i64 mn, .int .i64 k, .bool b, .int .i64 n, .string s, .slice AL nL cL, .slice AK nK cK] 41)))
    have HX0 := hide X0
    have HB0 := hide B0
    have HV0 := hide V0
    clear X0 B0 V0 hM hV
    cases hok : okM ⟨1, ms, mt, mn, mv⟩ with
    | false =>
      rw [hok, if_neg (by decide)] at HC
      have HOK := hide hok
      clear hok
      go_enter Try.func25, Try.ntmps25
      go_wp2_with fail
      refine HC.out.mono ?_
      rintro e w1 ⟨rfl, hb⟩
      have HB1 := hide (HB0.out.trans (hb.mono HB0.out.size))
      clear hb HC
      go_wp2
      refine bodyPost_ret (results_tmp2 rfl _ _ _) rfl ?_
      exact EncMQ_9 HB1.out HOK.out
    | true =>
      rw [hok, if_pos rfl] at HC
      have HOK := hide hok
      clear hok
      go_enter Try.func25, Try.ntmps25
      go_wp2_with fail
      generalize w.alloc (.cells #[.int .i64 1, .string ms, .string mt, .int .i64 mn, .int .i64 k, .bool b, .int .i64 n, .string s, .slice AL nL cL, .slice AK nK cK] 41) = W at HX0 HB0 HV0 HC ⊢
      refine HC.out.mono ?_
      rintro e w1 ⟨rfl, hb⟩
      have X1 := HX0.out.below hb HX0.out.lt
      have V1 := HV0.out.grow hb
      have HB1 := hide (HB0.out.trans (hb.mono HB0.out.size))
      clear hb HC
      have m0 : w1.cell? ⟨w.heap.size, 0, none⟩ = some (.int .i64 1) := blkR X1 rfl
      have m1 : w1.cell? ⟨w.heap.size, 1, none⟩ = some (.string ms) := blkR X1 rfl
      have m2 : w1.cell? ⟨w.heap.size, 2, none⟩ = some (.string mt) := blkR X1 rfl
      have m3 : w1.cell? ⟨w.heap.size, 3, none⟩ = some (.int .i64 mn) := blkR X1 rfl
      have m4 : w1.cell? ⟨w.heap.size, 4, none⟩ = some (.int .i64 k) := blkR X1 rfl
      have m5 : w1.cell? ⟨w.heap.size, 5, none⟩ = some (.bool b) := blkR X1 rfl
      have m6 : w1.cell? ⟨w.heap.size, 6, none⟩ = some (.int .i64 n) := blkR X1 rfl
      have m7 : w1.cell? ⟨w.heap.size, 7, none⟩ = some (.string s) := blkR X1 rfl
      have m8 : w1.cell? ⟨w.heap.size, 8, none⟩ = some (.slice AL nL cL) := blkR X1 rfl
      have m9 : w1.cell? ⟨w.heap.size, 9, none⟩ = some (.slice AK nK cK) := blkR X1 rfl
      have HX1 := hide X1
      have HV1 := hide V1
      clear X1 V1 HX0 HB0 HV0
      go_wp2_with fail
      refine (whole_any 1 _).mono ?_
      rintro e w2 ⟨rfl, hb⟩
      have X2 := HX1.out.below hb HX1.out.lt
      have HV2 := hide (HV1.out.grow hb)
      have HB2 := hide (HB1.out.trans (hb.mono HB1.out.size))
      have sz2 : w.heap.size + 1 ≤ w2.heap.size := X2.lt
      have HG2 := hide (GK.begin X2 HB2.out sz2 1 (by decide))
      clear m0 m1 m2 m3 m4 m5 m6 m7 m8 m9 hb HX1 HV1 HB1
      have m0 : ∀ o, (w2.alloc o).cell? ⟨w.heap.size, 0, none⟩ = some (.int .i64 1) := fun o => blkR (X2.alloc o) rfl
      have m1 : ∀ o, (w2.alloc o).cell? ⟨w.heap.size, 1, none⟩ = some (.string ms) := fun o => blkR (X2.alloc o) rfl
      have m2 : ∀ o, (w2.alloc o).cell? ⟨w.heap.size, 2, none⟩ = some (.string mt) := fun o => blkR (X2.alloc o) rfl
      have m3 : ∀ o, (w2.alloc o).cell? ⟨w.heap.size, 3, none⟩ = some (.int .i64 mn) := fun o => blkR (X2.alloc o) rfl
      have m4 : ∀ o, (w2.alloc o).cell? ⟨w.heap.size, 4, none⟩ = some (.int .i64 k) := fun o => blkR (X2.alloc o) rfl
      have m5 : ∀ o, (w2.alloc o).cell? ⟨w.heap.size, 5, none⟩ = some (.bool b) := fun o => blkR (X2.alloc o) rfl
      have m6 : ∀ o, (w2.alloc o).cell? ⟨w.heap.size, 6, none⟩ = some (.int .i64 n) := fun o => blkR (X2.alloc o) rfl
      have m7 : ∀ o, (w2.alloc o).cell? ⟨w.heap.size, 7, none⟩ = some (.string s) := fun o => blkR (X2.alloc o) rfl
      have m8 : ∀ o, (w2.alloc o).cell? ⟨w.heap.size, 8, none⟩ = some (.slice AL nL cL) := fun o => blkR (X2.alloc o) rfl
      have m9 : ∀ o, (w2.alloc o).cell? ⟨w.heap.size, 9, none⟩ = some (.slice AK nK cK) := fun o => blkR (X2.alloc o) rfl
      clear X2
      go_wp2_with fail
      refine (show Calls Try.prog 47 #[.int .i64 1] (w2.alloc (.cells #[.int .i64 2, .bool false, .int .i64 1, .string ⟨#[]⟩, .slice none 0 0, .slice none 0 0] 25)) (fun e w' => e = .returned (.tuple #[.int .i64 1, .bool true]) ∧ Below (w2.alloc (.cells #[.int .i64 2, .bool false, .int .i64 1, .string ⟨#[]⟩, .slice none 0 0, .slice none 0 0] 25)).heap.size (w2.alloc (.cells #[.int .i64 2, .bool false, .int .i64 1, .string ⟨#[]⟩, .slice none 0 0, .slice none 0 0] 25)) w') from parts_any 1 _).mono ?_
      rintro e w4 ⟨rfl, hb⟩
      have HG4 := hide (HG2.out.step hb)
      have HV4 := hide ((HV2.out.alloc (.cells #[.int .i64 2, .bool false, .int .i64 1, .string ⟨#[]⟩, .slice none 0 0, .slice none 0 0] 25)).grow hb)
      clear hb m0 m1 m2 m3 m4 m5 m6 m7 m8 m9 HG2 HV2 HB2 sz2
      have m0 : w4.cell? ⟨w.heap.size, 0, none⟩ = some (.int .i64 1) := blkR HG4.out.m rfl
      have m1 : w4.cell? ⟨w.heap.size, 1, none⟩ = some (.string ms) := blkR HG4.out.m rfl
      have m2 : w4.cell? ⟨w.heap.size, 2, none⟩ = some (.string mt) := blkR HG4.out.m rfl
      have m3 : w4.cell? ⟨w.heap.size, 3, none⟩ = some (.int .i64 mn) := blkR HG4.out.m rfl
      have m4 : w4.cell? ⟨w.heap.size, 4, none⟩ = some (.int .i64 k) := blkR HG4.out.m rfl
      have m5 : w4.cell? ⟨w.heap.size, 5, none⟩ = some (.bool b) := blkR HG4.out.m rfl
      have m6 : w4.cell? ⟨w.heap.size, 6, none⟩ = some (.int .i64 n) := blkR HG4.out.m rfl
      have m7 : w4.cell? ⟨w.heap.size, 7, none⟩ = some (.string s) := blkR HG4.out.m rfl
      have m8 : w4.cell? ⟨w.heap.size, 8, none⟩ = some (.slice AL nL cL) := blkR HG4.out.m rfl
      have m9 : w4.cell? ⟨w.heap.size, 9, none⟩ = some (.slice AK nK cK) := blkR HG4.out.m rfl
      go_wp2_with fail
      refine (text_any ms _).mono ?_
      rintro e w5 ⟨rfl, hb⟩
      have HG5 := hide (HG4.out.step hb)
      clear hb m0 m1 m2 m3 m4 m5 m6 m7 m8 m9 HG4
      go_wp2_with (at_builtin; refine pause ?_)
      refine unpause ?_
      have G6 := HG5.out.step ((Below.refl w5.heap.size w5).alloc (Nat.le_refl _) (.cells #[.int .i64 3, .bool false, .int .i64 0, .string ms, .slice none 0 0, .slice none 0 0] 25))
      have RL := Reads.lit w5 #[.int .i64 3, .bool false, .int .i64 0, .string ms, .slice none 0 0, .slice none 0 0] 25 1 6 rfl
      refine wpList_app el22 (.tmp 28) (.tmp 32) G6.ow RL (by intro u hu; simp at hu; rcases hu with rfl | rfl | rfl | rfl | rfl | rfl <;> rfl) (N := 2) rfl rfl (by decide) (by decide) G6.sz rfl rfl rfl rfl ?_
      intro A9 c9 w9 ho hg hb
      have L := G6.app (IsVs.one (leaf (by decide) (by decide) hms)) rfl ho hg
      have HL := hide L
      clear L RL G6 ho hg hb 
      have HE := hide (encode_any (v := listM ⟨1, ms, mt, mn, mv⟩) (show IsV w9 (fun _ => True) (listM ⟨1, ms, mt, mn, mv⟩) #[.int .i64 4, .bool false, .int .i64 0, .string ⟨#[]⟩, .slice A9 2 c9, .slice none 0 0] from HL.out.isv) hn)
      go_wp2_with fail
      refine HE.out.mono ?_
      intro e w20 he
      clear HE
      by_cases hm : mayB (listM ⟨1, ms, mt, mn, mv⟩) = true
      · obtain ⟨hb, A20, c20, rfl, o20⟩ := EncP_ok he hm
        have HB20 := hide (HL.out.be.trans (hb.mono HL.out.be.size))
        have HR20 := hide ((Reads.of_own o20).more (Nat.zero_le _) (Nat.le_refl _))
        have HC20 := hide (own_cap o20)
        clear he hb o20
        by_cases hl : (byt (listM ⟨1, ms, mt, mn, mv⟩)).length ≤ 32768
        · have e1 : decide ((32768 : Int) < ((byt (listM ⟨1, ms, mt, mn, mv⟩)).length : Int)) = false := by simp; omega
          have e2 : ¬ (32768 : Int) < ((byt (listM ⟨1, ms, mt, mn, mv⟩)).length : Int) := by omega
          have e3 : ¬ 32768 < (byt (listM ⟨1, ms, mt, mn, mv⟩)).length := by omega
          have HM2 := hide hm
          have HLN := hide hl
          clear hm hl
          generalize hL : (byt (listM ⟨1, ms, mt, mn, mv⟩)).length = LEN at e1 e2 e3
          have HLL := hide hL
          clear hL
          go_wp2
          refine bodyPost_ret (results_tmp2 rfl _ _ _) rfl ?_
          have hL := HLL.out
          subst hL
          exact EncMQ_ok HB20.out HOK.out ⟨HM2.out, HLN.out⟩ HR20.out HC20.out
        · have e1 : decide ((32768 : Int) < ((byt (listM ⟨1, ms, mt, mn, mv⟩)).length : Int)) = true := by simp; omega
          have e2 : (32768 : Int) < ((byt (listM ⟨1, ms, mt, mn, mv⟩)).length : Int) := by omega
          have HLN := hide hl
          clear hm hl
          generalize (byt (listM ⟨1, ms, mt, mn, mv⟩)).length = LEN at e1 e2
          go_wp2
          refine bodyPost_ret (results_tmp2 rfl _ _ _) rfl ?_
          exact EncMQ_21 HB20.out HOK.out (fun h => HLN.out h.2)
      · obtain ⟨hb, rfl⟩ := EncP_no he hm
        have HB20 := hide (HL.out.be.trans (hb.mono HL.out.be.size))
        have HM2 := hide hm
        clear he hb hm
        go_wp2
        refine bodyPost_ret (results_tmp2 rfl _ _ _) rfl ?_
        exact EncMQ_21 HB20.out HOK.out (fun h => HM2.out h.1)
  · have X0 := Blk.new w 41 #[.int .i64 3, .string ms, .string mt, .int .i64 mn, .int .i64 k, .bool b, .int .i64 n, .string s, .slice AL nL cL, .slice AK nK cK]
    have B0 := (Below.refl w.heap.size w).alloc (Nat.le_refl _) (.cells #[.int .i64 3, .string ms, .string mt, .int .i64 mn, .int .i64 k, .bool b, .int .i64 n, .string s, .slice AL nL cL, .slice AK nK cK] 41)
    have V0 := hV.alloc (.cells #[.int .i64 3, .string ms, .string mt, .int .i64 mn, .int .i64 k, .bool b, .int .i64 n, .string s, .slice AL nL cL, .slice AK nK cK] 41)
    have HC := hide (mcheck_any (hM.alloc (.cells #[.int .i64 3, .string ms, .string mt, .int .i64 mn, .int .i64 k, .bool b, .int .i64 n, .string s, .slice AL nL cL, .slice AK nK cK] 41)))
    have HX0 := hide X0
    have HB0 := hide B0
    have HV0 := hide V0
    clear X0 B0 V0 hM hV
    cases hok : okM ⟨3, ms, mt, mn, mv⟩ with
    | false =>
      rw [hok, if_neg (by decide)] at HC
      have HOK := hide hok
      clear hok
      go_enter Try.func25, Try.ntmps25
      go_wp2_with fail
      refine HC.out.mono ?_
      rintro e w1 ⟨rfl, hb⟩
      have HB1 := hide (HB0.out.trans (hb.mono HB0.out.size))
      clear hb HC
      go_wp2
      refine bodyPost_ret (results_tmp2 rfl _ _ _) rfl ?_
      exact EncMQ_9 HB1.out HOK.out
    | true =>
      rw [hok, if_pos rfl] at HC
      have HOK := hide hok
      clear hok
      go_enter Try.func25, Try.ntmps25
      go_wp2_with fail
      generalize w.alloc (.cells #[.int .i64 3, .string ms, .string mt, .int .i64 mn, .int .i64 k, .bool b, .int .i64 n, .string s, .slice AL nL cL, .slice AK nK cK] 41) = W at HX0 HB0 HV0 HC ⊢
      refine HC.out.mono ?_
      rintro e w1 ⟨rfl, hb⟩
      have X1 := HX0.out.below hb HX0.out.lt
      have V1 := HV0.out.grow hb
      have HB1 := hide (HB0.out.trans (hb.mono HB0.out.size))
      clear hb HC
      have m0 : w1.cell? ⟨w.heap.size, 0, none⟩ = some (.int .i64 3) := blkR X1 rfl
      have m1 : w1.cell? ⟨w.heap.size, 1, none⟩ = some (.string ms) := blkR X1 rfl
      have m2 : w1.cell? ⟨w.heap.size, 2, none⟩ = some (.string mt) := blkR X1 rfl
      have m3 : w1.cell? ⟨w.heap.size, 3, none⟩ = some (.int .i64 mn) := blkR X1 rfl
      have m4 : w1.cell? ⟨w.heap.size, 4, none⟩ = some (.int .i64 k) := blkR X1 rfl
      have m5 : w1.cell? ⟨w.heap.size, 5, none⟩ = some (.bool b) := blkR X1 rfl
      have m6 : w1.cell? ⟨w.heap.size, 6, none⟩ = some (.int .i64 n) := blkR X1 rfl
      have m7 : w1.cell? ⟨w.heap.size, 7, none⟩ = some (.string s) := blkR X1 rfl
      have m8 : w1.cell? ⟨w.heap.size, 8, none⟩ = some (.slice AL nL cL) := blkR X1 rfl
      have m9 : w1.cell? ⟨w.heap.size, 9, none⟩ = some (.slice AK nK cK) := blkR X1 rfl
      have HX1 := hide X1
      have HV1 := hide V1
      clear X1 V1 HX0 HB0 HV0
      go_wp2_with fail
      refine (whole_any 3 _).mono ?_
      rintro e w2 ⟨rfl, hb⟩
      have X2 := HX1.out.below hb HX1.out.lt
      have HV2 := hide (HV1.out.grow hb)
      have HB2 := hide (HB1.out.trans (hb.mono HB1.out.size))
      have sz2 : w.heap.size + 1 ≤ w2.heap.size := X2.lt
      have HG2 := hide (GK.begin X2 HB2.out sz2 3 (by decide))
      clear m0 m1 m2 m3 m4 m5 m6 m7 m8 m9 hb HX1 HV1 HB1
      have m0 : ∀ o, (w2.alloc o).cell? ⟨w.heap.size, 0, none⟩ = some (.int .i64 3) := fun o => blkR (X2.alloc o) rfl
      have m1 : ∀ o, (w2.alloc o).cell? ⟨w.heap.size, 1, none⟩ = some (.string ms) := fun o => blkR (X2.alloc o) rfl
      have m2 : ∀ o, (w2.alloc o).cell? ⟨w.heap.size, 2, none⟩ = some (.string mt) := fun o => blkR (X2.alloc o) rfl
      have m3 : ∀ o, (w2.alloc o).cell? ⟨w.heap.size, 3, none⟩ = some (.int .i64 mn) := fun o => blkR (X2.alloc o) rfl
      have m4 : ∀ o, (w2.alloc o).cell? ⟨w.heap.size, 4, none⟩ = some (.int .i64 k) := fun o => blkR (X2.alloc o) rfl
      have m5 : ∀ o, (w2.alloc o).cell? ⟨w.heap.size, 5, none⟩ = some (.bool b) := fun o => blkR (X2.alloc o) rfl
      have m6 : ∀ o, (w2.alloc o).cell? ⟨w.heap.size, 6, none⟩ = some (.int .i64 n) := fun o => blkR (X2.alloc o) rfl
      have m7 : ∀ o, (w2.alloc o).cell? ⟨w.heap.size, 7, none⟩ = some (.string s) := fun o => blkR (X2.alloc o) rfl
      have m8 : ∀ o, (w2.alloc o).cell? ⟨w.heap.size, 8, none⟩ = some (.slice AL nL cL) := fun o => blkR (X2.alloc o) rfl
      have m9 : ∀ o, (w2.alloc o).cell? ⟨w.heap.size, 9, none⟩ = some (.slice AK nK cK) := fun o => blkR (X2.alloc o) rfl
      clear X2
      go_wp2_with fail
      refine (show Calls Try.prog 47 #[.int .i64 3] (w2.alloc (.cells #[.int .i64 2, .bool false, .int .i64 3, .string ⟨#[]⟩, .slice none 0 0, .slice none 0 0] 25)) (fun e w' => e = .returned (.tuple #[.int .i64 2, .bool true]) ∧ Below (w2.alloc (.cells #[.int .i64 2, .bool false, .int .i64 3, .string ⟨#[]⟩, .slice none 0 0, .slice none 0 0] 25)).heap.size (w2.alloc (.cells #[.int .i64 2, .bool false, .int .i64 3, .string ⟨#[]⟩, .slice none 0 0, .slice none 0 0] 25)) w') from parts_any 3 _).mono ?_
      rintro e w4 ⟨rfl, hb⟩
      have HG4 := hide (HG2.out.step hb)
      have HV4 := hide ((HV2.out.alloc (.cells #[.int .i64 2, .bool false, .int .i64 3, .string ⟨#[]⟩, .slice none 0 0, .slice none 0 0] 25)).grow hb)
      clear hb m0 m1 m2 m3 m4 m5 m6 m7 m8 m9 HG2 HV2 HB2 sz2
      have m0 : w4.cell? ⟨w.heap.size, 0, none⟩ = some (.int .i64 3) := blkR HG4.out.m rfl
      have m1 : w4.cell? ⟨w.heap.size, 1, none⟩ = some (.string ms) := blkR HG4.out.m rfl
      have m2 : w4.cell? ⟨w.heap.size, 2, none⟩ = some (.string mt) := blkR HG4.out.m rfl
      have m3 : w4.cell? ⟨w.heap.size, 3, none⟩ = some (.int .i64 mn) := blkR HG4.out.m rfl
      have m4 : w4.cell? ⟨w.heap.size, 4, none⟩ = some (.int .i64 k) := blkR HG4.out.m rfl
      have m5 : w4.cell? ⟨w.heap.size, 5, none⟩ = some (.bool b) := blkR HG4.out.m rfl
      have m6 : w4.cell? ⟨w.heap.size, 6, none⟩ = some (.int .i64 n) := blkR HG4.out.m rfl
      have m7 : w4.cell? ⟨w.heap.size, 7, none⟩ = some (.string s) := blkR HG4.out.m rfl
      have m8 : w4.cell? ⟨w.heap.size, 8, none⟩ = some (.slice AL nL cL) := blkR HG4.out.m rfl
      have m9 : w4.cell? ⟨w.heap.size, 9, none⟩ = some (.slice AK nK cK) := blkR HG4.out.m rfl
      have HT := hide (text_any mt w4.drew)
      go_wp2_with fail
      go_region_law (first
        | (refine step_app el22 (.tmp 36) (.tmp 42) (HG5.out.step ((Below.refl w5.heap.size w5).alloc (Nat.le_refl _) (.cells #[.int .i64 3, .bool false, .int .i64 0, .string mt, .slice none 0 0, .slice none 0 0, .int .i64 k, .bool b, .int .i64 n, .string s, .slice AL nL cL, .slice AK nK cK] 25))).ow (Reads.lit w5 #[.int .i64 3, .bool false, .int .i64 0, .string mt, .slice none 0 0, .slice none 0 0, .int .i64 k, .bool b, .int .i64 n, .string s, .slice AL nL cL, .slice AK nK cK] 25 2 6 rfl) (by intro u hu; simp at hu; rcases hu with rfl | rfl | rfl | rfl | rfl | rfl | rfl | rfl | rfl | rfl | rfl | rfl <;> rfl) (N := 3) rfl rfl (by decide) (by decide) (HG5.out.step ((Below.refl w5.heap.size w5).alloc (Nat.le_refl _) (.cells #[.int .i64 3, .bool false, .int .i64 0, .string mt, .slice none 0 0, .slice none 0 0, .int .i64 k, .bool b, .int .i64 n, .string s, .slice AL nL cL, .slice AK nK cK] 25))).sz rfl rfl rfl rfl ?_; intro A9 c9 w9 ho hg hb9)
        | (go_simp; go_at_call 48; (with_reducible refine HT.out.mono ?_); rintro e w5 ⟨rfl, hb⟩; have HG5 := hide ((HG4.out.drewN 1).step hb); have HV5 := hide ((HV4.out.drewN 1).grow hb); have X5 := HG5.out.m; have f2 : w5.cell? ⟨w.heap.size, 2, none⟩ = some (.string mt) := blkR X5 rfl; have h2 : ∀ o, (w5.alloc o).cell? ⟨w.heap.size, 2, none⟩ = some (.string mt) := fun o => blkR (X5.alloc o) rfl; have f4 : w5.cell? ⟨w.heap.size, 4, none⟩ = some (.int .i64 k) := blkR X5 rfl; have h4 : ∀ o, (w5.alloc o).cell? ⟨w.heap.size, 4, none⟩ = some (.int .i64 k) := fun o => blkR (X5.alloc o) rfl; have f5 : w5.cell? ⟨w.heap.size, 5, none⟩ = some (.bool b) := blkR X5 rfl; have h5 : ∀ o, (w5.alloc o).cell? ⟨w.heap.size, 5, none⟩ = some (.bool b) := fun o => blkR (X5.alloc o) rfl; have f6 : w5.cell? ⟨w.heap.size, 6, none⟩ = some (.int .i64 n) := blkR X5 rfl; have h6 : ∀ o, (w5.alloc o).cell? ⟨w.heap.size, 6, none⟩ = some (.int .i64 n) := fun o => blkR (X5.alloc o) rfl; have f7 : w5.cell? ⟨w.heap.size, 7, none⟩ = some (.string s) := blkR X5 rfl; have h7 : ∀ o, (w5.alloc o).cell? ⟨w.heap.size, 7, none⟩ = some (.string s) := fun o => blkR (X5.alloc o) rfl; have f8 : w5.cell? ⟨w.heap.size, 8, none⟩ = some (.slice AL nL cL) := blkR X5 rfl; have h8 : ∀ o, (w5.alloc o).cell? ⟨w.heap.size, 8, none⟩ = some (.slice AL nL cL) := fun o => blkR (X5.alloc o) rfl; have f9 : w5.cell? ⟨w.heap.size, 9, none⟩ = some (.slice AK nK cK) := blkR X5 rfl; have h9 : ∀ o, (w5.alloc o).cell? ⟨w.heap.size, 9, none⟩ = some (.slice AK nK cK) := fun o => blkR (X5.alloc o) rfl;  clear X5 hb))
      all_goals (
        have L := (HG5.out.step ((Below.refl w5.heap.size w5).alloc (Nat.le_refl _) (.cells #[.int .i64 3, .bool false, .int .i64 0, .string mt, .slice none 0 0, .slice none 0 0, .int .i64 k, .bool b, .int .i64 n, .string s, .slice AL nL cL, .slice AK nK cK] 25))).app (us := [vS mt, mv]) (ys := (#[.int .i64 3, .bool false, .int .i64 0, .string mt, .slice none 0 0, .slice none 0 0, .int .i64 k, .bool b, .int .i64 n, .string s, .slice AL nL cL, .slice AK nK cK] : Array Value).toList) ((IsVs.one (leaf (by decide) (by decide) hmt)).app (IsVs.one (HV5.out.alloc _))) rfl ho hg
        have HL := hide L
        clear L ho hg hb9 HG5 HV5 f2 f4 f5 f6 f7 f8 f9 h2 h4 h5 h6 h7 h8 h9 m0 m1 m2 m3 m4 m5 m6 m7 m8 m9
        have HE := hide (encode_any (v := listM ⟨3, ms, mt, mn, mv⟩) (show IsV w9 (fun _ => True) (listM ⟨3, ms, mt, mn, mv⟩) #[.int .i64 4, .bool false, .int .i64 0, .string ⟨#[]⟩, .slice A9 3 c9, .slice none 0 0] from HL.out.isv) hn)
        go_wp2_with fail
        refine HE.out.mono ?_
        intro e w20 he
        clear HE
        by_cases hm : mayB (listM ⟨3, ms, mt, mn, mv⟩) = true
        · obtain ⟨hb, A20, c20, rfl, o20⟩ := EncP_ok he hm
          have HB20 := hide (HL.out.be.trans (hb.mono HL.out.be.size))
          have HR20 := hide ((Reads.of_own o20).more (Nat.zero_le _) (Nat.le_refl _))
          have HC20 := hide (own_cap o20)
          clear he hb o20
          by_cases hl : (byt (listM ⟨3, ms, mt, mn, mv⟩)).length ≤ 32768
          · have e1 : decide ((32768 : Int) < ((byt (listM ⟨3, ms, mt, mn, mv⟩)).length : Int)) = false := by simp; omega
            have e2 : ¬ (32768 : Int) < ((byt (listM ⟨3, ms, mt, mn, mv⟩)).length : Int) := by omega
            have e3 : ¬ 32768 < (byt (listM ⟨3, ms, mt, mn, mv⟩)).length := by omega
            have HM2 := hide hm
            have HLN := hide hl
            clear hm hl
            generalize hL : (byt (listM ⟨3, ms, mt, mn, mv⟩)).length = LEN at e1 e2 e3
            have HLL := hide hL
            clear hL
            go_wp2
            refine bodyPost_ret (results_tmp2 rfl _ _ _) rfl ?_
            have hL := HLL.out
            subst hL
            exact EncMQ_ok HB20.out HOK.out ⟨HM2.out, HLN.out⟩ HR20.out HC20.out
          · have e1 : decide ((32768 : Int) < ((byt (listM ⟨3, ms, mt, mn, mv⟩)).length : Int)) = true := by simp; omega
            have e2 : (32768 : Int) < ((byt (listM ⟨3, ms, mt, mn, mv⟩)).length : Int) := by omega
            have HLN := hide hl
            clear hm hl
            generalize (byt (listM ⟨3, ms, mt, mn, mv⟩)).length = LEN at e1 e2
            go_wp2
            refine bodyPost_ret (results_tmp2 rfl _ _ _) rfl ?_
            exact EncMQ_21 HB20.out HOK.out (fun h => HLN.out h.2)
        · obtain ⟨hb, rfl⟩ := EncP_no he hm
          have HB20 := hide (HL.out.be.trans (hb.mono HL.out.be.size))
          have HM2 := hide hm
          clear he hb hm
          go_wp2
          refine bodyPost_ret (results_tmp2 rfl _ _ _) rfl ?_
          exact EncMQ_21 HB20.out HOK.out (fun h => HM2.out h.1))
  · have X0 := Blk.new w 41 #[.int .i64 4, .string ms, .string mt, .int .i64 mn, .int .i64 k, .bool b, .int .i64 n, .string s, .slice AL nL cL, .slice AK nK cK]
    have B0 := (Below.refl w.heap.size w).alloc (Nat.le_refl _) (.cells #[.int .i64 4, .string ms, .string mt, .int .i64 mn, .int .i64 k, .bool b, .int .i64 n, .string s, .slice AL nL cL, .slice AK nK cK] 41)
    have V0 := hV.alloc (.cells #[.int .i64 4, .string ms, .string mt, .int .i64 mn, .int .i64 k, .bool b, .int .i64 n, .string s, .slice AL nL cL, .slice AK nK cK] 41)
    have HC := hide (mcheck_any (hM.alloc (.cells #[.int .i64 4, .string ms, .string mt, .int .i64 mn, .int .i64 k, .bool b, .int .i64 n, .string s, .slice AL nL cL, .slice AK nK cK] 41)))
    have HX0 := hide X0
    have HB0 := hide B0
    have HV0 := hide V0
    clear X0 B0 V0 hM hV
    cases hok : okM ⟨4, ms, mt, mn, mv⟩ with
    | false =>
      rw [hok, if_neg (by decide)] at HC
      have HOK := hide hok
      clear hok
      go_enter Try.func25, Try.ntmps25
      go_wp2_with fail
      refine HC.out.mono ?_
      rintro e w1 ⟨rfl, hb⟩
      have HB1 := hide (HB0.out.trans (hb.mono HB0.out.size))
      clear hb HC
      go_wp2
      refine bodyPost_ret (results_tmp2 rfl _ _ _) rfl ?_
      exact EncMQ_9 HB1.out HOK.out
    | true =>
      rw [hok, if_pos rfl] at HC
      have HOK := hide hok
      clear hok
      go_enter Try.func25, Try.ntmps25
      go_wp2_with fail
      generalize w.alloc (.cells #[.int .i64 4, .string ms, .string mt, .int .i64 mn, .int .i64 k, .bool b, .int .i64 n, .string s, .slice AL nL cL, .slice AK nK cK] 41) = W at HX0 HB0 HV0 HC ⊢
      refine HC.out.mono ?_
      rintro e w1 ⟨rfl, hb⟩
      have X1 := HX0.out.below hb HX0.out.lt
      have V1 := HV0.out.grow hb
      have HB1 := hide (HB0.out.trans (hb.mono HB0.out.size))
      clear hb HC
      have m0 : w1.cell? ⟨w.heap.size, 0, none⟩ = some (.int .i64 4) := blkR X1 rfl
      have m1 : w1.cell? ⟨w.heap.size, 1, none⟩ = some (.string ms) := blkR X1 rfl
      have m2 : w1.cell? ⟨w.heap.size, 2, none⟩ = some (.string mt) := blkR X1 rfl
      have m3 : w1.cell? ⟨w.heap.size, 3, none⟩ = some (.int .i64 mn) := blkR X1 rfl
      have m4 : w1.cell? ⟨w.heap.size, 4, none⟩ = some (.int .i64 k) := blkR X1 rfl
      have m5 : w1.cell? ⟨w.heap.size, 5, none⟩ = some (.bool b) := blkR X1 rfl
      have m6 : w1.cell? ⟨w.heap.size, 6, none⟩ = some (.int .i64 n) := blkR X1 rfl
      have m7 : w1.cell? ⟨w.heap.size, 7, none⟩ = some (.string s) := blkR X1 rfl
      have m8 : w1.cell? ⟨w.heap.size, 8, none⟩ = some (.slice AL nL cL) := blkR X1 rfl
      have m9 : w1.cell? ⟨w.heap.size, 9, none⟩ = some (.slice AK nK cK) := blkR X1 rfl
      have HX1 := hide X1
      have HV1 := hide V1
      clear X1 V1 HX0 HB0 HV0
      go_wp2_with fail
      refine (whole_any 4 _).mono ?_
      rintro e w2 ⟨rfl, hb⟩
      have X2 := HX1.out.below hb HX1.out.lt
      have HV2 := hide (HV1.out.grow hb)
      have HB2 := hide (HB1.out.trans (hb.mono HB1.out.size))
      have sz2 : w.heap.size + 1 ≤ w2.heap.size := X2.lt
      have HG2 := hide (GK.begin X2 HB2.out sz2 4 (by decide))
      clear m0 m1 m2 m3 m4 m5 m6 m7 m8 m9 hb HX1 HV1 HB1
      have m0 : ∀ o, (w2.alloc o).cell? ⟨w.heap.size, 0, none⟩ = some (.int .i64 4) := fun o => blkR (X2.alloc o) rfl
      have m1 : ∀ o, (w2.alloc o).cell? ⟨w.heap.size, 1, none⟩ = some (.string ms) := fun o => blkR (X2.alloc o) rfl
      have m2 : ∀ o, (w2.alloc o).cell? ⟨w.heap.size, 2, none⟩ = some (.string mt) := fun o => blkR (X2.alloc o) rfl
      have m3 : ∀ o, (w2.alloc o).cell? ⟨w.heap.size, 3, none⟩ = some (.int .i64 mn) := fun o => blkR (X2.alloc o) rfl
      have m4 : ∀ o, (w2.alloc o).cell? ⟨w.heap.size, 4, none⟩ = some (.int .i64 k) := fun o => blkR (X2.alloc o) rfl
      have m5 : ∀ o, (w2.alloc o).cell? ⟨w.heap.size, 5, none⟩ = some (.bool b) := fun o => blkR (X2.alloc o) rfl
      have m6 : ∀ o, (w2.alloc o).cell? ⟨w.heap.size, 6, none⟩ = some (.int .i64 n) := fun o => blkR (X2.alloc o) rfl
      have m7 : ∀ o, (w2.alloc o).cell? ⟨w.heap.size, 7, none⟩ = some (.string s) := fun o => blkR (X2.alloc o) rfl
      have m8 : ∀ o, (w2.alloc o).cell? ⟨w.heap.size, 8, none⟩ = some (.slice AL nL cL) := fun o => blkR (X2.alloc o) rfl
      have m9 : ∀ o, (w2.alloc o).cell? ⟨w.heap.size, 9, none⟩ = some (.slice AK nK cK) := fun o => blkR (X2.alloc o) rfl
      clear X2
      go_wp2_with fail
      refine (show Calls Try.prog 47 #[.int .i64 4] (w2.alloc (.cells #[.int .i64 2, .bool false, .int .i64 4, .string ⟨#[]⟩, .slice none 0 0, .slice none 0 0] 25)) (fun e w' => e = .returned (.tuple #[.int .i64 3, .bool true]) ∧ Below (w2.alloc (.cells #[.int .i64 2, .bool false, .int .i64 4, .string ⟨#[]⟩, .slice none 0 0, .slice none 0 0] 25)).heap.size (w2.alloc (.cells #[.int .i64 2, .bool false, .int .i64 4, .string ⟨#[]⟩, .slice none 0 0, .slice none 0 0] 25)) w') from parts_any 4 _).mono ?_
      rintro e w4 ⟨rfl, hb⟩
      have HG4 := hide (HG2.out.step hb)
      have HV4 := hide ((HV2.out.alloc (.cells #[.int .i64 2, .bool false, .int .i64 4, .string ⟨#[]⟩, .slice none 0 0, .slice none 0 0] 25)).grow hb)
      clear hb m0 m1 m2 m3 m4 m5 m6 m7 m8 m9 HG2 HV2 HB2 sz2
      have m0 : w4.cell? ⟨w.heap.size, 0, none⟩ = some (.int .i64 4) := blkR HG4.out.m rfl
      have m1 : w4.cell? ⟨w.heap.size, 1, none⟩ = some (.string ms) := blkR HG4.out.m rfl
      have m2 : w4.cell? ⟨w.heap.size, 2, none⟩ = some (.string mt) := blkR HG4.out.m rfl
      have m3 : w4.cell? ⟨w.heap.size, 3, none⟩ = some (.int .i64 mn) := blkR HG4.out.m rfl
      have m4 : w4.cell? ⟨w.heap.size, 4, none⟩ = some (.int .i64 k) := blkR HG4.out.m rfl
      have m5 : w4.cell? ⟨w.heap.size, 5, none⟩ = some (.bool b) := blkR HG4.out.m rfl
      have m6 : w4.cell? ⟨w.heap.size, 6, none⟩ = some (.int .i64 n) := blkR HG4.out.m rfl
      have m7 : w4.cell? ⟨w.heap.size, 7, none⟩ = some (.string s) := blkR HG4.out.m rfl
      have m8 : w4.cell? ⟨w.heap.size, 8, none⟩ = some (.slice AL nL cL) := blkR HG4.out.m rfl
      have m9 : w4.cell? ⟨w.heap.size, 9, none⟩ = some (.slice AK nK cK) := blkR HG4.out.m rfl
      go_wp2_with fail
      refine (whole_any mn _).mono ?_
      rintro e w5 ⟨rfl, hb⟩
      have HG5 := hide (HG4.out.step hb)
      clear hb m0 m1 m2 m3 m4 m5 m6 m7 m8 m9 HG4
      go_wp2_with (at_builtin; refine pause ?_)
      refine unpause ?_
      have G6 := HG5.out.step ((Below.refl w5.heap.size w5).alloc (Nat.le_refl _) (.cells #[.int .i64 2, .bool false, .int .i64 mn, .string ⟨#[]⟩, .slice none 0 0, .slice none 0 0] 25))
      have RL := Reads.lit w5 #[.int .i64 2, .bool false, .int .i64 mn, .string ⟨#[]⟩, .slice none 0 0, .slice none 0 0] 25 1 6 rfl
      refine wpList_app el22 (.tmp 47) (.tmp 51) G6.ow RL (by intro u hu; simp at hu; rcases hu with rfl | rfl | rfl | rfl | rfl | rfl <;> rfl) (N := 2) rfl rfl (by decide) (by decide) G6.sz rfl rfl rfl rfl ?_
      intro A9 c9 w9 ho hg hb
      have L := G6.app (IsVs.one (leaf hmn (by decide) (by decide))) rfl ho hg
      have HL := hide L
      clear L RL G6 ho hg hb 
      have HE := hide (encode_any (v := listM ⟨4, ms, mt, mn, mv⟩) (show IsV w9 (fun _ => True) (listM ⟨4, ms, mt, mn, mv⟩) #[.int .i64 4, .bool false, .int .i64 0, .string ⟨#[]⟩, .slice A9 2 c9, .slice none 0 0] from HL.out.isv) hn)
      go_wp2_with fail
      refine HE.out.mono ?_
      intro e w20 he
      clear HE
      by_cases hm : mayB (listM ⟨4, ms, mt, mn, mv⟩) = true
      · obtain ⟨hb, A20, c20, rfl, o20⟩ := EncP_ok he hm
        have HB20 := hide (HL.out.be.trans (hb.mono HL.out.be.size))
        have HR20 := hide ((Reads.of_own o20).more (Nat.zero_le _) (Nat.le_refl _))
        have HC20 := hide (own_cap o20)
        clear he hb o20
        by_cases hl : (byt (listM ⟨4, ms, mt, mn, mv⟩)).length ≤ 32768
        · have e1 : decide ((32768 : Int) < ((byt (listM ⟨4, ms, mt, mn, mv⟩)).length : Int)) = false := by simp; omega
          have e2 : ¬ (32768 : Int) < ((byt (listM ⟨4, ms, mt, mn, mv⟩)).length : Int) := by omega
          have e3 : ¬ 32768 < (byt (listM ⟨4, ms, mt, mn, mv⟩)).length := by omega
          have HM2 := hide hm
          have HLN := hide hl
          clear hm hl
          generalize hL : (byt (listM ⟨4, ms, mt, mn, mv⟩)).length = LEN at e1 e2 e3
          have HLL := hide hL
          clear hL
          go_wp2
          refine bodyPost_ret (results_tmp2 rfl _ _ _) rfl ?_
          have hL := HLL.out
          subst hL
          exact EncMQ_ok HB20.out HOK.out ⟨HM2.out, HLN.out⟩ HR20.out HC20.out
        · have e1 : decide ((32768 : Int) < ((byt (listM ⟨4, ms, mt, mn, mv⟩)).length : Int)) = true := by simp; omega
          have e2 : (32768 : Int) < ((byt (listM ⟨4, ms, mt, mn, mv⟩)).length : Int) := by omega
          have HLN := hide hl
          clear hm hl
          generalize (byt (listM ⟨4, ms, mt, mn, mv⟩)).length = LEN at e1 e2
          go_wp2
          refine bodyPost_ret (results_tmp2 rfl _ _ _) rfl ?_
          exact EncMQ_21 HB20.out HOK.out (fun h => HLN.out h.2)
      · obtain ⟨hb, rfl⟩ := EncP_no he hm
        have HB20 := hide (HL.out.be.trans (hb.mono HL.out.be.size))
        have HM2 := hide hm
        clear he hb hm
        go_wp2
        refine bodyPost_ret (results_tmp2 rfl _ _ _) rfl ?_
        exact EncMQ_21 HB20.out HOK.out (fun h => HM2.out h.1)
  · have X0 := Blk.new w 41 #[.int .i64 18, .string ms, .string mt, .int .i64 mn, .int .i64 k, .bool b, .int .i64 n, .string s, .slice AL nL cL, .slice AK nK cK]
    have B0 := (Below.refl w.heap.size w).alloc (Nat.le_refl _) (.cells #[.int .i64 18, .string ms, .string mt, .int .i64 mn, .int .i64 k, .bool b, .int .i64 n, .string s, .slice AL nL cL, .slice AK nK cK] 41)
    have V0 := hV.alloc (.cells #[.int .i64 18, .string ms, .string mt, .int .i64 mn, .int .i64 k, .bool b, .int .i64 n, .string s, .slice AL nL cL, .slice AK nK cK] 41)
    have HC := hide (mcheck_any (hM.alloc (.cells #[.int .i64 18, .string ms, .string mt, .int .i64 mn, .int .i64 k, .bool b, .int .i64 n, .string s, .slice AL nL cL, .slice AK nK cK] 41)))
    have HX0 := hide X0
    have HB0 := hide B0
    have HV0 := hide V0
    clear X0 B0 V0 hM hV
    cases hok : okM ⟨18, ms, mt, mn, mv⟩ with
    | false =>
      rw [hok, if_neg (by decide)] at HC
      have HOK := hide hok
      clear hok
      go_enter Try.func25, Try.ntmps25
      go_wp2_with fail
      refine HC.out.mono ?_
      rintro e w1 ⟨rfl, hb⟩
      have HB1 := hide (HB0.out.trans (hb.mono HB0.out.size))
      clear hb HC
      go_wp2
      refine bodyPost_ret (results_tmp2 rfl _ _ _) rfl ?_
      exact EncMQ_9 HB1.out HOK.out
    | true =>
      rw [hok, if_pos rfl] at HC
      have HOK := hide hok
      clear hok
      go_enter Try.func25, Try.ntmps25
      go_wp2_with fail
      generalize w.alloc (.cells #[.int .i64 18, .string ms, .string mt, .int .i64 mn, .int .i64 k, .bool b, .int .i64 n, .string s, .slice AL nL cL, .slice AK nK cK] 41) = W at HX0 HB0 HV0 HC ⊢
      refine HC.out.mono ?_
      rintro e w1 ⟨rfl, hb⟩
      have X1 := HX0.out.below hb HX0.out.lt
      have V1 := HV0.out.grow hb
      have HB1 := hide (HB0.out.trans (hb.mono HB0.out.size))
      clear hb HC
      have m0 : w1.cell? ⟨w.heap.size, 0, none⟩ = some (.int .i64 18) := blkR X1 rfl
      have m1 : w1.cell? ⟨w.heap.size, 1, none⟩ = some (.string ms) := blkR X1 rfl
      have m2 : w1.cell? ⟨w.heap.size, 2, none⟩ = some (.string mt) := blkR X1 rfl
      have m3 : w1.cell? ⟨w.heap.size, 3, none⟩ = some (.int .i64 mn) := blkR X1 rfl
      have m4 : w1.cell? ⟨w.heap.size, 4, none⟩ = some (.int .i64 k) := blkR X1 rfl
      have m5 : w1.cell? ⟨w.heap.size, 5, none⟩ = some (.bool b) := blkR X1 rfl
      have m6 : w1.cell? ⟨w.heap.size, 6, none⟩ = some (.int .i64 n) := blkR X1 rfl
      have m7 : w1.cell? ⟨w.heap.size, 7, none⟩ = some (.string s) := blkR X1 rfl
      have m8 : w1.cell? ⟨w.heap.size, 8, none⟩ = some (.slice AL nL cL) := blkR X1 rfl
      have m9 : w1.cell? ⟨w.heap.size, 9, none⟩ = some (.slice AK nK cK) := blkR X1 rfl
      have HX1 := hide X1
      have HV1 := hide V1
      clear X1 V1 HX0 HB0 HV0
      go_wp2_with fail
      refine (whole_any 18 _).mono ?_
      rintro e w2 ⟨rfl, hb⟩
      have X2 := HX1.out.below hb HX1.out.lt
      have HV2 := hide (HV1.out.grow hb)
      have HB2 := hide (HB1.out.trans (hb.mono HB1.out.size))
      have sz2 : w.heap.size + 1 ≤ w2.heap.size := X2.lt
      have HG2 := hide (GK.begin X2 HB2.out sz2 18 (by decide))
      clear m0 m1 m2 m3 m4 m5 m6 m7 m8 m9 hb HX1 HV1 HB1
      have m0 : ∀ o, (w2.alloc o).cell? ⟨w.heap.size, 0, none⟩ = some (.int .i64 18) := fun o => blkR (X2.alloc o) rfl
      have m1 : ∀ o, (w2.alloc o).cell? ⟨w.heap.size, 1, none⟩ = some (.string ms) := fun o => blkR (X2.alloc o) rfl
      have m2 : ∀ o, (w2.alloc o).cell? ⟨w.heap.size, 2, none⟩ = some (.string mt) := fun o => blkR (X2.alloc o) rfl
      have m3 : ∀ o, (w2.alloc o).cell? ⟨w.heap.size, 3, none⟩ = some (.int .i64 mn) := fun o => blkR (X2.alloc o) rfl
      have m4 : ∀ o, (w2.alloc o).cell? ⟨w.heap.size, 4, none⟩ = some (.int .i64 k) := fun o => blkR (X2.alloc o) rfl
      have m5 : ∀ o, (w2.alloc o).cell? ⟨w.heap.size, 5, none⟩ = some (.bool b) := fun o => blkR (X2.alloc o) rfl
      have m6 : ∀ o, (w2.alloc o).cell? ⟨w.heap.size, 6, none⟩ = some (.int .i64 n) := fun o => blkR (X2.alloc o) rfl
      have m7 : ∀ o, (w2.alloc o).cell? ⟨w.heap.size, 7, none⟩ = some (.string s) := fun o => blkR (X2.alloc o) rfl
      have m8 : ∀ o, (w2.alloc o).cell? ⟨w.heap.size, 8, none⟩ = some (.slice AL nL cL) := fun o => blkR (X2.alloc o) rfl
      have m9 : ∀ o, (w2.alloc o).cell? ⟨w.heap.size, 9, none⟩ = some (.slice AK nK cK) := fun o => blkR (X2.alloc o) rfl
      clear X2
      go_wp2_with fail
      refine (show Calls Try.prog 47 #[.int .i64 18] (w2.alloc (.cells #[.int .i64 2, .bool false, .int .i64 18, .string ⟨#[]⟩, .slice none 0 0, .slice none 0 0] 25)) (fun e w' => e = .returned (.tuple #[.int .i64 6, .bool true]) ∧ Below (w2.alloc (.cells #[.int .i64 2, .bool false, .int .i64 18, .string ⟨#[]⟩, .slice none 0 0, .slice none 0 0] 25)).heap.size (w2.alloc (.cells #[.int .i64 2, .bool false, .int .i64 18, .string ⟨#[]⟩, .slice none 0 0, .slice none 0 0] 25)) w') from parts_any 18 _).mono ?_
      rintro e w4 ⟨rfl, hb⟩
      have HG4 := hide (HG2.out.step hb)
      have HV4 := hide ((HV2.out.alloc (.cells #[.int .i64 2, .bool false, .int .i64 18, .string ⟨#[]⟩, .slice none 0 0, .slice none 0 0] 25)).grow hb)
      clear hb m0 m1 m2 m3 m4 m5 m6 m7 m8 m9 HG2 HV2 HB2 sz2
      have m0 : w4.cell? ⟨w.heap.size, 0, none⟩ = some (.int .i64 18) := blkR HG4.out.m rfl
      have m1 : w4.cell? ⟨w.heap.size, 1, none⟩ = some (.string ms) := blkR HG4.out.m rfl
      have m2 : w4.cell? ⟨w.heap.size, 2, none⟩ = some (.string mt) := blkR HG4.out.m rfl
      have m3 : w4.cell? ⟨w.heap.size, 3, none⟩ = some (.int .i64 mn) := blkR HG4.out.m rfl
      have m4 : w4.cell? ⟨w.heap.size, 4, none⟩ = some (.int .i64 k) := blkR HG4.out.m rfl
      have m5 : w4.cell? ⟨w.heap.size, 5, none⟩ = some (.bool b) := blkR HG4.out.m rfl
      have m6 : w4.cell? ⟨w.heap.size, 6, none⟩ = some (.int .i64 n) := blkR HG4.out.m rfl
      have m7 : w4.cell? ⟨w.heap.size, 7, none⟩ = some (.string s) := blkR HG4.out.m rfl
      have m8 : w4.cell? ⟨w.heap.size, 8, none⟩ = some (.slice AL nL cL) := blkR HG4.out.m rfl
      have m9 : w4.cell? ⟨w.heap.size, 9, none⟩ = some (.slice AK nK cK) := blkR HG4.out.m rfl
      go_wp2_with fail
      refine (whole_any mn _).mono ?_
      rintro e w5 ⟨rfl, hb⟩
      have HG5 := hide (HG4.out.step hb)
      clear hb m0 m1 m2 m3 m4 m5 m6 m7 m8 m9 HG4
      go_wp2_with (at_builtin; refine pause ?_)
      refine unpause ?_
      have G6 := HG5.out.step ((Below.refl w5.heap.size w5).alloc (Nat.le_refl _) (.cells #[.int .i64 2, .bool false, .int .i64 mn, .string ⟨#[]⟩, .slice none 0 0, .slice none 0 0] 25))
      have RL := Reads.lit w5 #[.int .i64 2, .bool false, .int .i64 mn, .string ⟨#[]⟩, .slice none 0 0, .slice none 0 0] 25 1 6 rfl
      refine wpList_app el22 (.tmp 47) (.tmp 51) G6.ow RL (by intro u hu; simp at hu; rcases hu with rfl | rfl | rfl | rfl | rfl | rfl <;> rfl) (N := 2) rfl rfl (by decide) (by decide) G6.sz rfl rfl rfl rfl ?_
      intro A9 c9 w9 ho hg hb
      have L := G6.app (IsVs.one (leaf hmn (by decide) (by decide))) rfl ho hg
      have HL := hide L
      clear L RL G6 ho hg hb 
      have HE := hide (encode_any (v := listM ⟨18, ms, mt, mn, mv⟩) (show IsV w9 (fun _ => True) (listM ⟨18, ms, mt, mn, mv⟩) #[.int .i64 4, .bool false, .int .i64 0, .string ⟨#[]⟩, .slice A9 2 c9, .slice none 0 0] from HL.out.isv) hn)
      go_wp2_with fail
      refine HE.out.mono ?_
      intro e w20 he
      clear HE
      by_cases hm : mayB (listM ⟨18, ms, mt, mn, mv⟩) = true
      · obtain ⟨hb, A20, c20, rfl, o20⟩ := EncP_ok he hm
        have HB20 := hide (HL.out.be.trans (hb.mono HL.out.be.size))
        have HR20 := hide ((Reads.of_own o20).more (Nat.zero_le _) (Nat.le_refl _))
        have HC20 := hide (own_cap o20)
        clear he hb o20
        by_cases hl : (byt (listM ⟨18, ms, mt, mn, mv⟩)).length ≤ 32768
        · have e1 : decide ((32768 : Int) < ((byt (listM ⟨18, ms, mt, mn, mv⟩)).length : Int)) = false := by simp; omega
          have e2 : ¬ (32768 : Int) < ((byt (listM ⟨18, ms, mt, mn, mv⟩)).length : Int) := by omega
          have e3 : ¬ 32768 < (byt (listM ⟨18, ms, mt, mn, mv⟩)).length := by omega
          have HM2 := hide hm
          have HLN := hide hl
          clear hm hl
          generalize hL : (byt (listM ⟨18, ms, mt, mn, mv⟩)).length = LEN at e1 e2 e3
          have HLL := hide hL
          clear hL
          go_wp2
          refine bodyPost_ret (results_tmp2 rfl _ _ _) rfl ?_
          have hL := HLL.out
          subst hL
          exact EncMQ_ok HB20.out HOK.out ⟨HM2.out, HLN.out⟩ HR20.out HC20.out
        · have e1 : decide ((32768 : Int) < ((byt (listM ⟨18, ms, mt, mn, mv⟩)).length : Int)) = true := by simp; omega
          have e2 : (32768 : Int) < ((byt (listM ⟨18, ms, mt, mn, mv⟩)).length : Int) := by omega
          have HLN := hide hl
          clear hm hl
          generalize (byt (listM ⟨18, ms, mt, mn, mv⟩)).length = LEN at e1 e2
          go_wp2
          refine bodyPost_ret (results_tmp2 rfl _ _ _) rfl ?_
          exact EncMQ_21 HB20.out HOK.out (fun h => HLN.out h.2)
      · obtain ⟨hb, rfl⟩ := EncP_no he hm
        have HB20 := hide (HL.out.be.trans (hb.mono HL.out.be.size))
        have HM2 := hide hm
        clear he hb hm
        go_wp2
        refine bodyPost_ret (results_tmp2 rfl _ _ _) rfl ?_
        exact EncMQ_21 HB20.out HOK.out (fun h => HM2.out h.1)
  · have X0 := Blk.new w 41 #[.int .i64 16, .string ms, .string mt, .int .i64 mn, .int .i64 k, .bool b, .int .i64 n, .string s, .slice AL nL cL, .slice AK nK cK]
    have B0 := (Below.refl w.heap.size w).alloc (Nat.le_refl _) (.cells #[.int .i64 16, .string ms, .string mt, .int .i64 mn, .int .i64 k, .bool b, .int .i64 n, .string s, .slice AL nL cL, .slice AK nK cK] 41)
    have V0 := hV.alloc (.cells #[.int .i64 16, .string ms, .string mt, .int .i64 mn, .int .i64 k, .bool b, .int .i64 n, .string s, .slice AL nL cL, .slice AK nK cK] 41)
    have HC := hide (mcheck_any (hM.alloc (.cells #[.int .i64 16, .string ms, .string mt, .int .i64 mn, .int .i64 k, .bool b, .int .i64 n, .string s, .slice AL nL cL, .slice AK nK cK] 41)))
    have HX0 := hide X0
    have HB0 := hide B0
    have HV0 := hide V0
    clear X0 B0 V0 hM hV
    cases hok : okM ⟨16, ms, mt, mn, mv⟩ with
    | false =>
      rw [hok, if_neg (by decide)] at HC
      have HOK := hide hok
      clear hok
      go_enter Try.func25, Try.ntmps25
      go_wp2_with fail
      refine HC.out.mono ?_
      rintro e w1 ⟨rfl, hb⟩
      have HB1 := hide (HB0.out.trans (hb.mono HB0.out.size))
      clear hb HC
      go_wp2
      refine bodyPost_ret (results_tmp2 rfl _ _ _) rfl ?_
      exact EncMQ_9 HB1.out HOK.out
    | true =>
      rw [hok, if_pos rfl] at HC
      have HOK := hide hok
      clear hok
      go_enter Try.func25, Try.ntmps25
      go_wp2_with fail
      generalize w.alloc (.cells #[.int .i64 16, .string ms, .string mt, .int .i64 mn, .int .i64 k, .bool b, .int .i64 n, .string s, .slice AL nL cL, .slice AK nK cK] 41) = W at HX0 HB0 HV0 HC ⊢
      refine HC.out.mono ?_
      rintro e w1 ⟨rfl, hb⟩
      have X1 := HX0.out.below hb HX0.out.lt
      have V1 := HV0.out.grow hb
      have HB1 := hide (HB0.out.trans (hb.mono HB0.out.size))
      clear hb HC
      have m0 : w1.cell? ⟨w.heap.size, 0, none⟩ = some (.int .i64 16) := blkR X1 rfl
      have m1 : w1.cell? ⟨w.heap.size, 1, none⟩ = some (.string ms) := blkR X1 rfl
      have m2 : w1.cell? ⟨w.heap.size, 2, none⟩ = some (.string mt) := blkR X1 rfl
      have m3 : w1.cell? ⟨w.heap.size, 3, none⟩ = some (.int .i64 mn) := blkR X1 rfl
      have m4 : w1.cell? ⟨w.heap.size, 4, none⟩ = some (.int .i64 k) := blkR X1 rfl
      have m5 : w1.cell? ⟨w.heap.size, 5, none⟩ = some (.bool b) := blkR X1 rfl
      have m6 : w1.cell? ⟨w.heap.size, 6, none⟩ = some (.int .i64 n) := blkR X1 rfl
      have m7 : w1.cell? ⟨w.heap.size, 7, none⟩ = some (.string s) := blkR X1 rfl
      have m8 : w1.cell? ⟨w.heap.size, 8, none⟩ = some (.slice AL nL cL) := blkR X1 rfl
      have m9 : w1.cell? ⟨w.heap.size, 9, none⟩ = some (.slice AK nK cK) := blkR X1 rfl
      have HX1 := hide X1
      have HV1 := hide V1
      clear X1 V1 HX0 HB0 HV0
      go_wp2_with fail
      refine (whole_any 16 _).mono ?_
      rintro e w2 ⟨rfl, hb⟩
      have X2 := HX1.out.below hb HX1.out.lt
      have HV2 := hide (HV1.out.grow hb)
      have HB2 := hide (HB1.out.trans (hb.mono HB1.out.size))
      have sz2 : w.heap.size + 1 ≤ w2.heap.size := X2.lt
      have HG2 := hide (GK.begin X2 HB2.out sz2 16 (by decide))
      clear m0 m1 m2 m3 m4 m5 m6 m7 m8 m9 hb HX1 HV1 HB1
      have m0 : ∀ o, (w2.alloc o).cell? ⟨w.heap.size, 0, none⟩ = some (.int .i64 16) := fun o => blkR (X2.alloc o) rfl
      have m1 : ∀ o, (w2.alloc o).cell? ⟨w.heap.size, 1, none⟩ = some (.string ms) := fun o => blkR (X2.alloc o) rfl
      have m2 : ∀ o, (w2.alloc o).cell? ⟨w.heap.size, 2, none⟩ = some (.string mt) := fun o => blkR (X2.alloc o) rfl
      have m3 : ∀ o, (w2.alloc o).cell? ⟨w.heap.size, 3, none⟩ = some (.int .i64 mn) := fun o => blkR (X2.alloc o) rfl
      have m4 : ∀ o, (w2.alloc o).cell? ⟨w.heap.size, 4, none⟩ = some (.int .i64 k) := fun o => blkR (X2.alloc o) rfl
      have m5 : ∀ o, (w2.alloc o).cell? ⟨w.heap.size, 5, none⟩ = some (.bool b) := fun o => blkR (X2.alloc o) rfl
      have m6 : ∀ o, (w2.alloc o).cell? ⟨w.heap.size, 6, none⟩ = some (.int .i64 n) := fun o => blkR (X2.alloc o) rfl
      have m7 : ∀ o, (w2.alloc o).cell? ⟨w.heap.size, 7, none⟩ = some (.string s) := fun o => blkR (X2.alloc o) rfl
      have m8 : ∀ o, (w2.alloc o).cell? ⟨w.heap.size, 8, none⟩ = some (.slice AL nL cL) := fun o => blkR (X2.alloc o) rfl
      have m9 : ∀ o, (w2.alloc o).cell? ⟨w.heap.size, 9, none⟩ = some (.slice AK nK cK) := fun o => blkR (X2.alloc o) rfl
      clear X2
      go_wp2_with fail
      refine (show Calls Try.prog 47 #[.int .i64 16] (w2.alloc (.cells #[.int .i64 2, .bool false, .int .i64 16, .string ⟨#[]⟩, .slice none 0 0, .slice none 0 0] 25)) (fun e w' => e = .returned (.tuple #[.int .i64 4, .bool true]) ∧ Below (w2.alloc (.cells #[.int .i64 2, .bool false, .int .i64 16, .string ⟨#[]⟩, .slice none 0 0, .slice none 0 0] 25)).heap.size (w2.alloc (.cells #[.int .i64 2, .bool false, .int .i64 16, .string ⟨#[]⟩, .slice none 0 0, .slice none 0 0] 25)) w') from parts_any 16 _).mono ?_
      rintro e w4 ⟨rfl, hb⟩
      have HG4 := hide (HG2.out.step hb)
      have HV4 := hide ((HV2.out.alloc (.cells #[.int .i64 2, .bool false, .int .i64 16, .string ⟨#[]⟩, .slice none 0 0, .slice none 0 0] 25)).grow hb)
      clear hb m0 m1 m2 m3 m4 m5 m6 m7 m8 m9 HG2 HV2 HB2 sz2
      have m0 : w4.cell? ⟨w.heap.size, 0, none⟩ = some (.int .i64 16) := blkR HG4.out.m rfl
      have m1 : w4.cell? ⟨w.heap.size, 1, none⟩ = some (.string ms) := blkR HG4.out.m rfl
      have m2 : w4.cell? ⟨w.heap.size, 2, none⟩ = some (.string mt) := blkR HG4.out.m rfl
      have m3 : w4.cell? ⟨w.heap.size, 3, none⟩ = some (.int .i64 mn) := blkR HG4.out.m rfl
      have m4 : w4.cell? ⟨w.heap.size, 4, none⟩ = some (.int .i64 k) := blkR HG4.out.m rfl
      have m5 : w4.cell? ⟨w.heap.size, 5, none⟩ = some (.bool b) := blkR HG4.out.m rfl
      have m6 : w4.cell? ⟨w.heap.size, 6, none⟩ = some (.int .i64 n) := blkR HG4.out.m rfl
      have m7 : w4.cell? ⟨w.heap.size, 7, none⟩ = some (.string s) := blkR HG4.out.m rfl
      have m8 : w4.cell? ⟨w.heap.size, 8, none⟩ = some (.slice AL nL cL) := blkR HG4.out.m rfl
      have m9 : w4.cell? ⟨w.heap.size, 9, none⟩ = some (.slice AK nK cK) := blkR HG4.out.m rfl
      go_wp2_with (at_builtin; refine pause ?_)
      refine unpause ?_
      have G6 := HG4.out.step ((Below.refl w4.heap.size w4).alloc (Nat.le_refl _) (.cells #[.int .i64 k, .bool b, .int .i64 n, .string s, .slice AL nL cL, .slice AK nK cK] 25))
      have RL := Reads.lit w4 #[.int .i64 k, .bool b, .int .i64 n, .string s, .slice AL nL cL, .slice AK nK cK] 25 1 6 rfl
      refine wpList_app el22 (.tmp 56) (.tmp 59) G6.ow RL (by intro u hu; simp at hu; rcases hu with rfl | rfl | rfl | rfl | rfl | rfl <;> rfl) (N := 2) rfl rfl (by decide) (by decide) G6.sz rfl rfl rfl rfl ?_
      intro A9 c9 w9 ho hg hb
      have L := G6.app (IsVs.one (HV4.out.alloc _)) rfl ho hg
      have HL := hide L
      clear L RL G6 ho hg hb m0 m1 m2 m3 m4 m5 m6 m7 m8 m9
      have HE := hide (encode_any (v := listM ⟨16, ms, mt, mn, mv⟩) (show IsV w9 (fun _ => True) (listM ⟨16, ms, mt, mn, mv⟩) #[.int .i64 4, .bool false, .int .i64 0, .string ⟨#[]⟩, .slice A9 2 c9, .slice none 0 0] from HL.out.isv) hn)
      go_wp2_with fail
      refine HE.out.mono ?_
      intro e w20 he
      clear HE
      by_cases hm : mayB (listM ⟨16, ms, mt, mn, mv⟩) = true
      · obtain ⟨hb, A20, c20, rfl, o20⟩ := EncP_ok he hm
        have HB20 := hide (HL.out.be.trans (hb.mono HL.out.be.size))
        have HR20 := hide ((Reads.of_own o20).more (Nat.zero_le _) (Nat.le_refl _))
        have HC20 := hide (own_cap o20)
        clear he hb o20
        by_cases hl : (byt (listM ⟨16, ms, mt, mn, mv⟩)).length ≤ 32768
        · have e1 : decide ((32768 : Int) < ((byt (listM ⟨16, ms, mt, mn, mv⟩)).length : Int)) = false := by simp; omega
          have e2 : ¬ (32768 : Int) < ((byt (listM ⟨16, ms, mt, mn, mv⟩)).length : Int) := by omega
          have e3 : ¬ 32768 < (byt (listM ⟨16, ms, mt, mn, mv⟩)).length := by omega
          have HM2 := hide hm
          have HLN := hide hl
          clear hm hl
          generalize hL : (byt (listM ⟨16, ms, mt, mn, mv⟩)).length = LEN at e1 e2 e3
          have HLL := hide hL
          clear hL
          go_wp2
          refine bodyPost_ret (results_tmp2 rfl _ _ _) rfl ?_
          have hL := HLL.out
          subst hL
          exact EncMQ_ok HB20.out HOK.out ⟨HM2.out, HLN.out⟩ HR20.out HC20.out
        · have e1 : decide ((32768 : Int) < ((byt (listM ⟨16, ms, mt, mn, mv⟩)).length : Int)) = true := by simp; omega
          have e2 : (32768 : Int) < ((byt (listM ⟨16, ms, mt, mn, mv⟩)).length : Int) := by omega
          have HLN := hide hl
          clear hm hl
          generalize (byt (listM ⟨16, ms, mt, mn, mv⟩)).length = LEN at e1 e2
          go_wp2
          refine bodyPost_ret (results_tmp2 rfl _ _ _) rfl ?_
          exact EncMQ_21 HB20.out HOK.out (fun h => HLN.out h.2)
      · obtain ⟨hb, rfl⟩ := EncP_no he hm
        have HB20 := hide (HL.out.be.trans (hb.mono HL.out.be.size))
        have HM2 := hide hm
        clear he hb hm
        go_wp2
        refine bodyPost_ret (results_tmp2 rfl _ _ _) rfl ?_
        exact EncMQ_21 HB20.out HOK.out (fun h => HM2.out h.1)
  · have X0 := Blk.new w 41 #[.int .i64 17, .string ms, .string mt, .int .i64 mn, .int .i64 k, .bool b, .int .i64 n, .string s, .slice AL nL cL, .slice AK nK cK]
    have B0 := (Below.refl w.heap.size w).alloc (Nat.le_refl _) (.cells #[.int .i64 17, .string ms, .string mt, .int .i64 mn, .int .i64 k, .bool b, .int .i64 n, .string s, .slice AL nL cL, .slice AK nK cK] 41)
    have V0 := hV.alloc (.cells #[.int .i64 17, .string ms, .string mt, .int .i64 mn, .int .i64 k, .bool b, .int .i64 n, .string s, .slice AL nL cL, .slice AK nK cK] 41)
    have HC := hide (mcheck_any (hM.alloc (.cells #[.int .i64 17, .string ms, .string mt, .int .i64 mn, .int .i64 k, .bool b, .int .i64 n, .string s, .slice AL nL cL, .slice AK nK cK] 41)))
    have HX0 := hide X0
    have HB0 := hide B0
    have HV0 := hide V0
    clear X0 B0 V0 hM hV
    cases hok : okM ⟨17, ms, mt, mn, mv⟩ with
    | false =>
      rw [hok, if_neg (by decide)] at HC
      have HOK := hide hok
      clear hok
      go_enter Try.func25, Try.ntmps25
      go_wp2_with fail
      refine HC.out.mono ?_
      rintro e w1 ⟨rfl, hb⟩
      have HB1 := hide (HB0.out.trans (hb.mono HB0.out.size))
      clear hb HC
      go_wp2
      refine bodyPost_ret (results_tmp2 rfl _ _ _) rfl ?_
      exact EncMQ_9 HB1.out HOK.out
    | true =>
      rw [hok, if_pos rfl] at HC
      have HOK := hide hok
      clear hok
      go_enter Try.func25, Try.ntmps25
      go_wp2_with fail
      generalize w.alloc (.cells #[.int .i64 17, .string ms, .string mt, .int .i64 mn, .int .i64 k, .bool b, .int .i64 n, .string s, .slice AL nL cL, .slice AK nK cK] 41) = W at HX0 HB0 HV0 HC ⊢
      refine HC.out.mono ?_
      rintro e w1 ⟨rfl, hb⟩
      have X1 := HX0.out.below hb HX0.out.lt
      have V1 := HV0.out.grow hb
      have HB1 := hide (HB0.out.trans (hb.mono HB0.out.size))
      clear hb HC
      have m0 : w1.cell? ⟨w.heap.size, 0, none⟩ = some (.int .i64 17) := blkR X1 rfl
      have m1 : w1.cell? ⟨w.heap.size, 1, none⟩ = some (.string ms) := blkR X1 rfl
      have m2 : w1.cell? ⟨w.heap.size, 2, none⟩ = some (.string mt) := blkR X1 rfl
      have m3 : w1.cell? ⟨w.heap.size, 3, none⟩ = some (.int .i64 mn) := blkR X1 rfl
      have m4 : w1.cell? ⟨w.heap.size, 4, none⟩ = some (.int .i64 k) := blkR X1 rfl
      have m5 : w1.cell? ⟨w.heap.size, 5, none⟩ = some (.bool b) := blkR X1 rfl
      have m6 : w1.cell? ⟨w.heap.size, 6, none⟩ = some (.int .i64 n) := blkR X1 rfl
      have m7 : w1.cell? ⟨w.heap.size, 7, none⟩ = some (.string s) := blkR X1 rfl
      have m8 : w1.cell? ⟨w.heap.size, 8, none⟩ = some (.slice AL nL cL) := blkR X1 rfl
      have m9 : w1.cell? ⟨w.heap.size, 9, none⟩ = some (.slice AK nK cK) := blkR X1 rfl
      have HX1 := hide X1
      have HV1 := hide V1
      clear X1 V1 HX0 HB0 HV0
      go_wp2_with fail
      refine (whole_any 17 _).mono ?_
      rintro e w2 ⟨rfl, hb⟩
      have X2 := HX1.out.below hb HX1.out.lt
      have HV2 := hide (HV1.out.grow hb)
      have HB2 := hide (HB1.out.trans (hb.mono HB1.out.size))
      have sz2 : w.heap.size + 1 ≤ w2.heap.size := X2.lt
      have HG2 := hide (GK.begin X2 HB2.out sz2 17 (by decide))
      clear m0 m1 m2 m3 m4 m5 m6 m7 m8 m9 hb HX1 HV1 HB1
      have m0 : ∀ o, (w2.alloc o).cell? ⟨w.heap.size, 0, none⟩ = some (.int .i64 17) := fun o => blkR (X2.alloc o) rfl
      have m1 : ∀ o, (w2.alloc o).cell? ⟨w.heap.size, 1, none⟩ = some (.string ms) := fun o => blkR (X2.alloc o) rfl
      have m2 : ∀ o, (w2.alloc o).cell? ⟨w.heap.size, 2, none⟩ = some (.string mt) := fun o => blkR (X2.alloc o) rfl
      have m3 : ∀ o, (w2.alloc o).cell? ⟨w.heap.size, 3, none⟩ = some (.int .i64 mn) := fun o => blkR (X2.alloc o) rfl
      have m4 : ∀ o, (w2.alloc o).cell? ⟨w.heap.size, 4, none⟩ = some (.int .i64 k) := fun o => blkR (X2.alloc o) rfl
      have m5 : ∀ o, (w2.alloc o).cell? ⟨w.heap.size, 5, none⟩ = some (.bool b) := fun o => blkR (X2.alloc o) rfl
      have m6 : ∀ o, (w2.alloc o).cell? ⟨w.heap.size, 6, none⟩ = some (.int .i64 n) := fun o => blkR (X2.alloc o) rfl
      have m7 : ∀ o, (w2.alloc o).cell? ⟨w.heap.size, 7, none⟩ = some (.string s) := fun o => blkR (X2.alloc o) rfl
      have m8 : ∀ o, (w2.alloc o).cell? ⟨w.heap.size, 8, none⟩ = some (.slice AL nL cL) := fun o => blkR (X2.alloc o) rfl
      have m9 : ∀ o, (w2.alloc o).cell? ⟨w.heap.size, 9, none⟩ = some (.slice AK nK cK) := fun o => blkR (X2.alloc o) rfl
      clear X2
      go_wp2_with fail
      refine (show Calls Try.prog 47 #[.int .i64 17] (w2.alloc (.cells #[.int .i64 2, .bool false, .int .i64 17, .string ⟨#[]⟩, .slice none 0 0, .slice none 0 0] 25)) (fun e w' => e = .returned (.tuple #[.int .i64 5, .bool true]) ∧ Below (w2.alloc (.cells #[.int .i64 2, .bool false, .int .i64 17, .string ⟨#[]⟩, .slice none 0 0, .slice none 0 0] 25)).heap.size (w2.alloc (.cells #[.int .i64 2, .bool false, .int .i64 17, .string ⟨#[]⟩, .slice none 0 0, .slice none 0 0] 25)) w') from parts_any 17 _).mono ?_
      rintro e w4 ⟨rfl, hb⟩
      have HG4 := hide (HG2.out.step hb)
      have HV4 := hide ((HV2.out.alloc (.cells #[.int .i64 2, .bool false, .int .i64 17, .string ⟨#[]⟩, .slice none 0 0, .slice none 0 0] 25)).grow hb)
      clear hb m0 m1 m2 m3 m4 m5 m6 m7 m8 m9 HG2 HV2 HB2 sz2
      have m0 : w4.cell? ⟨w.heap.size, 0, none⟩ = some (.int .i64 17) := blkR HG4.out.m rfl
      have m1 : w4.cell? ⟨w.heap.size, 1, none⟩ = some (.string ms) := blkR HG4.out.m rfl
      have m2 : w4.cell? ⟨w.heap.size, 2, none⟩ = some (.string mt) := blkR HG4.out.m rfl
      have m3 : w4.cell? ⟨w.heap.size, 3, none⟩ = some (.int .i64 mn) := blkR HG4.out.m rfl
      have m4 : w4.cell? ⟨w.heap.size, 4, none⟩ = some (.int .i64 k) := blkR HG4.out.m rfl
      have m5 : w4.cell? ⟨w.heap.size, 5, none⟩ = some (.bool b) := blkR HG4.out.m rfl
      have m6 : w4.cell? ⟨w.heap.size, 6, none⟩ = some (.int .i64 n) := blkR HG4.out.m rfl
      have m7 : w4.cell? ⟨w.heap.size, 7, none⟩ = some (.string s) := blkR HG4.out.m rfl
      have m8 : w4.cell? ⟨w.heap.size, 8, none⟩ = some (.slice AL nL cL) := blkR HG4.out.m rfl
      have m9 : w4.cell? ⟨w.heap.size, 9, none⟩ = some (.slice AK nK cK) := blkR HG4.out.m rfl
      go_wp2_with (at_builtin; refine pause ?_)
      refine unpause ?_
      have G6 := HG4.out.step ((Below.refl w4.heap.size w4).alloc (Nat.le_refl _) (.cells #[.int .i64 k, .bool b, .int .i64 n, .string s, .slice AL nL cL, .slice AK nK cK] 25))
      have RL := Reads.lit w4 #[.int .i64 k, .bool b, .int .i64 n, .string s, .slice AL nL cL, .slice AK nK cK] 25 1 6 rfl
      refine wpList_app el22 (.tmp 56) (.tmp 59) G6.ow RL (by intro u hu; simp at hu; rcases hu with rfl | rfl | rfl | rfl | rfl | rfl <;> rfl) (N := 2) rfl rfl (by decide) (by decide) G6.sz rfl rfl rfl rfl ?_
      intro A9 c9 w9 ho hg hb
      have L := G6.app (IsVs.one (HV4.out.alloc _)) rfl ho hg
      have HL := hide L
      clear L RL G6 ho hg hb m0 m1 m2 m3 m4 m5 m6 m7 m8 m9
      have HE := hide (encode_any (v := listM ⟨17, ms, mt, mn, mv⟩) (show IsV w9 (fun _ => True) (listM ⟨17, ms, mt, mn, mv⟩) #[.int .i64 4, .bool false, .int .i64 0, .string ⟨#[]⟩, .slice A9 2 c9, .slice none 0 0] from HL.out.isv) hn)
      go_wp2_with fail
      refine HE.out.mono ?_
      intro e w20 he
      clear HE
      by_cases hm : mayB (listM ⟨17, ms, mt, mn, mv⟩) = true
      · obtain ⟨hb, A20, c20, rfl, o20⟩ := EncP_ok he hm
        have HB20 := hide (HL.out.be.trans (hb.mono HL.out.be.size))
        have HR20 := hide ((Reads.of_own o20).more (Nat.zero_le _) (Nat.le_refl _))
        have HC20 := hide (own_cap o20)
        clear he hb o20
        by_cases hl : (byt (listM ⟨17, ms, mt, mn, mv⟩)).length ≤ 32768
        · have e1 : decide ((32768 : Int) < ((byt (listM ⟨17, ms, mt, mn, mv⟩)).length : Int)) = false := by simp; omega
          have e2 : ¬ (32768 : Int) < ((byt (listM ⟨17, ms, mt, mn, mv⟩)).length : Int) := by omega
          have e3 : ¬ 32768 < (byt (listM ⟨17, ms, mt, mn, mv⟩)).length := by omega
          have HM2 := hide hm
          have HLN := hide hl
          clear hm hl
          generalize hL : (byt (listM ⟨17, ms, mt, mn, mv⟩)).length = LEN at e1 e2 e3
          have HLL := hide hL
          clear hL
          go_wp2
          refine bodyPost_ret (results_tmp2 rfl _ _ _) rfl ?_
          have hL := HLL.out
          subst hL
          exact EncMQ_ok HB20.out HOK.out ⟨HM2.out, HLN.out⟩ HR20.out HC20.out
        · have e1 : decide ((32768 : Int) < ((byt (listM ⟨17, ms, mt, mn, mv⟩)).length : Int)) = true := by simp; omega
          have e2 : (32768 : Int) < ((byt (listM ⟨17, ms, mt, mn, mv⟩)).length : Int) := by omega
          have HLN := hide hl
          clear hm hl
          generalize (byt (listM ⟨17, ms, mt, mn, mv⟩)).length = LEN at e1 e2
          go_wp2
          refine bodyPost_ret (results_tmp2 rfl _ _ _) rfl ?_
          exact EncMQ_21 HB20.out HOK.out (fun h => HLN.out h.2)
      · obtain ⟨hb, rfl⟩ := EncP_no he hm
        have HB20 := hide (HL.out.be.trans (hb.mono HL.out.be.size))
        have HM2 := hide hm
        clear he hb hm
        go_wp2
        refine bodyPost_ret (results_tmp2 rfl _ _ _) rfl ?_
        exact EncMQ_21 HB20.out HOK.out (fun h => HM2.out h.1)
  · have HK := hide h0
    clear h0
    have hrest := rest_0 (m := ⟨mk, ms, mt, mn, mv⟩) HK.out
    have HRS := hide hrest
    clear hrest
    generalize hkn : knownK mk = kn
    have HKN := hide hkn
    clear hkn
    have X0 := Blk.new w 41 #[.int .i64 mk, .string ms, .string mt, .int .i64 mn, .int .i64 k, .bool b, .int .i64 n, .string s, .slice AL nL cL, .slice AK nK cK]
    have B0 := (Below.refl w.heap.size w).alloc (Nat.le_refl _) (.cells #[.int .i64 mk, .string ms, .string mt, .int .i64 mn, .int .i64 k, .bool b, .int .i64 n, .string s, .slice AL nL cL, .slice AK nK cK] 41)
    have V0 := hV.alloc (.cells #[.int .i64 mk, .string ms, .string mt, .int .i64 mn, .int .i64 k, .bool b, .int .i64 n, .string s, .slice AL nL cL, .slice AK nK cK] 41)
    have HC := hide (mcheck_any (hM.alloc (.cells #[.int .i64 mk, .string ms, .string mt, .int .i64 mn, .int .i64 k, .bool b, .int .i64 n, .string s, .slice AL nL cL, .slice AK nK cK] 41)))
    have HX0 := hide X0
    have HB0 := hide B0
    have HV0 := hide V0
    clear X0 B0 V0 hM hV
    cases hok : okM ⟨mk, ms, mt, mn, mv⟩ with
    | false =>
      rw [hok, if_neg (by decide)] at HC
      have HOK := hide hok
      clear hok
      go_enter Try.func25, Try.ntmps25
      go_wp2_with fail
      refine HC.out.mono ?_
      rintro e w1 ⟨rfl, hb⟩
      have HB1 := hide (HB0.out.trans (hb.mono HB0.out.size))
      clear hb HC
      go_wp2
      refine bodyPost_ret (results_tmp2 rfl _ _ _) rfl ?_
      exact EncMQ_9 HB1.out HOK.out
    | true =>
      rw [hok, if_pos rfl] at HC
      have HOK := hide hok
      clear hok
      go_enter Try.func25, Try.ntmps25
      go_wp2_with fail
      generalize w.alloc (.cells #[.int .i64 mk, .string ms, .string mt, .int .i64 mn, .int .i64 k, .bool b, .int .i64 n, .string s, .slice AL nL cL, .slice AK nK cK] 41) = W at HX0 HB0 HV0 HC ⊢
      refine HC.out.mono ?_
      rintro e w1 ⟨rfl, hb⟩
      have X1 := HX0.out.below hb HX0.out.lt
      have V1 := HV0.out.grow hb
      have HB1 := hide (HB0.out.trans (hb.mono HB0.out.size))
      clear hb HC
      have m0 : w1.cell? ⟨w.heap.size, 0, none⟩ = some (.int .i64 mk) := blkR X1 rfl
      have m1 : w1.cell? ⟨w.heap.size, 1, none⟩ = some (.string ms) := blkR X1 rfl
      have m2 : w1.cell? ⟨w.heap.size, 2, none⟩ = some (.string mt) := blkR X1 rfl
      have m3 : w1.cell? ⟨w.heap.size, 3, none⟩ = some (.int .i64 mn) := blkR X1 rfl
      have m4 : w1.cell? ⟨w.heap.size, 4, none⟩ = some (.int .i64 k) := blkR X1 rfl
      have m5 : w1.cell? ⟨w.heap.size, 5, none⟩ = some (.bool b) := blkR X1 rfl
      have m6 : w1.cell? ⟨w.heap.size, 6, none⟩ = some (.int .i64 n) := blkR X1 rfl
      have m7 : w1.cell? ⟨w.heap.size, 7, none⟩ = some (.string s) := blkR X1 rfl
      have m8 : w1.cell? ⟨w.heap.size, 8, none⟩ = some (.slice AL nL cL) := blkR X1 rfl
      have m9 : w1.cell? ⟨w.heap.size, 9, none⟩ = some (.slice AK nK cK) := blkR X1 rfl
      have HX1 := hide X1
      have HV1 := hide V1
      clear X1 V1 HX0 HB0 HV0
      go_wp2_with fail
      refine (whole_any mk _).mono ?_
      rintro e w2 ⟨rfl, hb⟩
      have X2 := HX1.out.below hb HX1.out.lt
      have HV2 := hide (HV1.out.grow hb)
      have HB2 := hide (HB1.out.trans (hb.mono HB1.out.size))
      have sz2 : w.heap.size + 1 ≤ w2.heap.size := X2.lt
      have HG2 := hide (GK.begin X2 HB2.out sz2 mk hmk)
      clear m0 m1 m2 m3 m4 m5 m6 m7 m8 m9 hb HX1 HV1 HB1
      have m0 : ∀ o, (w2.alloc o).cell? ⟨w.heap.size, 0, none⟩ = some (.int .i64 mk) := fun o => blkR (X2.alloc o) rfl
      have m1 : ∀ o, (w2.alloc o).cell? ⟨w.heap.size, 1, none⟩ = some (.string ms) := fun o => blkR (X2.alloc o) rfl
      have m2 : ∀ o, (w2.alloc o).cell? ⟨w.heap.size, 2, none⟩ = some (.string mt) := fun o => blkR (X2.alloc o) rfl
      have m3 : ∀ o, (w2.alloc o).cell? ⟨w.heap.size, 3, none⟩ = some (.int .i64 mn) := fun o => blkR (X2.alloc o) rfl
      have m4 : ∀ o, (w2.alloc o).cell? ⟨w.heap.size, 4, none⟩ = some (.int .i64 k) := fun o => blkR (X2.alloc o) rfl
      have m5 : ∀ o, (w2.alloc o).cell? ⟨w.heap.size, 5, none⟩ = some (.bool b) := fun o => blkR (X2.alloc o) rfl
      have m6 : ∀ o, (w2.alloc o).cell? ⟨w.heap.size, 6, none⟩ = some (.int .i64 n) := fun o => blkR (X2.alloc o) rfl
      have m7 : ∀ o, (w2.alloc o).cell? ⟨w.heap.size, 7, none⟩ = some (.string s) := fun o => blkR (X2.alloc o) rfl
      have m8 : ∀ o, (w2.alloc o).cell? ⟨w.heap.size, 8, none⟩ = some (.slice AL nL cL) := fun o => blkR (X2.alloc o) rfl
      have m9 : ∀ o, (w2.alloc o).cell? ⟨w.heap.size, 9, none⟩ = some (.slice AK nK cK) := fun o => blkR (X2.alloc o) rfl
      clear X2
      go_wp2_with fail
      refine (show Calls Try.prog 47 #[.int .i64 mk] (w2.alloc (.cells #[.int .i64 2, .bool false, .int .i64 mk, .string ⟨#[]⟩, .slice none 0 0, .slice none 0 0] 25)) (fun e w' => e = .returned (.tuple #[.int .i64 0, .bool kn]) ∧ Below (w2.alloc (.cells #[.int .i64 2, .bool false, .int .i64 mk, .string ⟨#[]⟩, .slice none 0 0, .slice none 0 0] 25)).heap.size (w2.alloc (.cells #[.int .i64 2, .bool false, .int .i64 mk, .string ⟨#[]⟩, .slice none 0 0, .slice none 0 0] 25)) w') from by have := parts_any mk (w2.alloc (.cells #[.int .i64 2, .bool false, .int .i64 mk, .string ⟨#[]⟩, .slice none 0 0, .slice none 0 0] 25)); rw [part_0 HK.out, HKN.out] at this; exact this).mono ?_
      rintro e w4 ⟨rfl, hb⟩
      have HG4 := hide (HG2.out.step hb)
      have HV4 := hide ((HV2.out.alloc (.cells #[.int .i64 2, .bool false, .int .i64 mk, .string ⟨#[]⟩, .slice none 0 0, .slice none 0 0] 25)).grow hb)
      clear hb m0 m1 m2 m3 m4 m5 m6 m7 m8 m9 HG2 HV2 HB2 sz2
      have HE := hide (encode_any (v := listM ⟨mk, ms, mt, mn, mv⟩) (show IsV w4 (fun _ => True) (listM ⟨mk, ms, mt, mn, mv⟩) #[.int .i64 4, .bool false, .int .i64 0, .string ⟨#[]⟩, .slice (some ⟨w2.heap.size, 0, none⟩) 1 1, .slice none 0 0] from by unfold listM; rw [HRS.out]; exact HG4.out.isv) hn)
      go_wp2_with fail
      refine HE.out.mono ?_
      intro e w20 he
      clear HE
      by_cases hm : mayB (listM ⟨mk, ms, mt, mn, mv⟩) = true
      · obtain ⟨hb, A20, c20, rfl, o20⟩ := EncP_ok he hm
        have HB20 := hide (HG4.out.be.trans (hb.mono HG4.out.be.size))
        have HR20 := hide ((Reads.of_own o20).more (Nat.zero_le _) (Nat.le_refl _))
        have HC20 := hide (own_cap o20)
        clear he hb o20
        by_cases hl : (byt (listM ⟨mk, ms, mt, mn, mv⟩)).length ≤ 32768
        · have e1 : decide ((32768 : Int) < ((byt (listM ⟨mk, ms, mt, mn, mv⟩)).length : Int)) = false := by simp; omega
          have e2 : ¬ (32768 : Int) < ((byt (listM ⟨mk, ms, mt, mn, mv⟩)).length : Int) := by omega
          have e3 : ¬ 32768 < (byt (listM ⟨mk, ms, mt, mn, mv⟩)).length := by omega
          have HM2 := hide hm
          have HLN := hide hl
          clear hm hl
          generalize hL : (byt (listM ⟨mk, ms, mt, mn, mv⟩)).length = LEN at e1 e2 e3
          have HLL := hide hL
          clear hL
          go_wp2
          refine bodyPost_ret (results_tmp2 rfl _ _ _) rfl ?_
          have hL := HLL.out
          subst hL
          exact EncMQ_ok HB20.out HOK.out ⟨HM2.out, HLN.out⟩ HR20.out HC20.out
        · have e1 : decide ((32768 : Int) < ((byt (listM ⟨mk, ms, mt, mn, mv⟩)).length : Int)) = true := by simp; omega
          have e2 : (32768 : Int) < ((byt (listM ⟨mk, ms, mt, mn, mv⟩)).length : Int) := by omega
          have HLN := hide hl
          clear hm hl
          generalize (byt (listM ⟨mk, ms, mt, mn, mv⟩)).length = LEN at e1 e2
          go_wp2
          refine bodyPost_ret (results_tmp2 rfl _ _ _) rfl ?_
          exact EncMQ_21 HB20.out HOK.out (fun h => HLN.out h.2)
      · obtain ⟨hb, rfl⟩ := EncP_no he hm
        have HB20 := hide (HG4.out.be.trans (hb.mono HG4.out.be.size))
        have HM2 := hide hm
        clear he hb hm
        go_wp2
        refine bodyPost_ret (results_tmp2 rfl _ _ _) rfl ?_
        exact EncMQ_21 HB20.out HOK.out (fun h => HM2.out h.1)
set_option maxHeartbeats 2000000 in
set_option maxRecDepth 100000 in
theorem refencM_any {m : M} {w : World} {S : Nat → Prop} {cs : Array Value} (hM : IsM w S m cs) (hn : mayB (listM m) = true → (byt (listM m)).length ≤ 35184372088832) :
    Calls Try.prog 27 #[.agg cs] w fun e w' => EncMP m w e w' := by
  have ht := hM.ten
  obtain ⟨mk, ms, mt, mn, k, b, n, s, AL, nL, cL, AK, nK, cK, rfl⟩ := ht
  have X0 := Blk.new w 41 #[.int .i64 mk, .string ms, .string mt, .int .i64 mn, .int .i64 k, .bool b, .int .i64 n, .string s, .slice AL nL cL, .slice AK nK cK]
  have B0 := (Below.refl w.heap.size w).alloc (Nat.le_refl _) (.cells #[.int .i64 mk, .string ms, .string mt, .int .i64 mn, .int .i64 k, .bool b, .int .i64 n, .string s, .slice AL nL cL, .slice AK nK cK] 41)
  have M0 := hM.alloc (.cells #[.int .i64 mk, .string ms, .string mt, .int .i64 mn, .int .i64 k, .bool b, .int .i64 n, .string s, .slice AL nL cL, .slice AK nK cK] 41)
  have HC := hide (rmayM_any M0)
  have HX0 := hide X0
  have HB0 := hide B0
  have HM0 := hide M0
  clear X0 B0 M0 hM
  cases hok : okM m with
  | false =>
    rw [hok] at HC
    have HOK := hide hok
    clear hok
    go_enter Try.func27, Try.ntmps27
    go_wp2_with fail
    refine HC.out.mono ?_
    rintro e w1 ⟨rfl, hb⟩
    have HB1 := hide (HB0.out.trans (hb.mono HB0.out.size))
    clear hb HC
    go_wp2
    refine bodyPost_ret (results_tmp2 rfl _ _ _) rfl ?_
    exact EncMP_9 HB1.out HOK.out
  | true =>
    rw [hok] at HC
    have HOK := hide hok
    clear hok
    go_enter Try.func27, Try.ntmps27
    go_wp2_with fail
    generalize w.alloc (.cells #[.int .i64 mk, .string ms, .string mt, .int .i64 mn, .int .i64 k, .bool b, .int .i64 n, .string s, .slice AL nL cL, .slice AK nK cK] 41) = W at HX0 HB0 HM0 HC ⊢
    refine HC.out.mono ?_
    rintro e w1 ⟨rfl, hb⟩
    have X1 := HX0.out.below hb HX0.out.lt
    have HM1 := hide (HM0.out.grow hb)
    have HB1 := hide (HB0.out.trans (hb.mono HB0.out.size))
    clear hb HC
    have m0 : w1.cell? ⟨w.heap.size, 0, none⟩ = some (.int .i64 mk) := blkR X1 rfl
    have m1 : w1.cell? ⟨w.heap.size, 1, none⟩ = some (.string ms) := blkR X1 rfl
    have m2 : w1.cell? ⟨w.heap.size, 2, none⟩ = some (.string mt) := blkR X1 rfl
    have m3 : w1.cell? ⟨w.heap.size, 3, none⟩ = some (.int .i64 mn) := blkR X1 rfl
    have m4 : w1.cell? ⟨w.heap.size, 4, none⟩ = some (.int .i64 k) := blkR X1 rfl
    have m5 : w1.cell? ⟨w.heap.size, 5, none⟩ = some (.bool b) := blkR X1 rfl
    have m6 : w1.cell? ⟨w.heap.size, 6, none⟩ = some (.int .i64 n) := blkR X1 rfl
    have m7 : w1.cell? ⟨w.heap.size, 7, none⟩ = some (.string s) := blkR X1 rfl
    have m8 : w1.cell? ⟨w.heap.size, 8, none⟩ = some (.slice AL nL cL) := blkR X1 rfl
    have m9 : w1.cell? ⟨w.heap.size, 9, none⟩ = some (.slice AK nK cK) := blkR X1 rfl
    clear X1 HX0 HB0 HM0
    go_wp2_with fail
    refine (listM_any HM1.out).mono ?_
    rintro e w2 ⟨cs2, rfl, hV2, hb⟩
    have HV2 := hide hV2
    have HB2 := hide (HB1.out.trans (hb.mono HB1.out.size))
    have hsh := hV2.shape
    obtain ⟨k2, bb2, n2, s2, AL2, nL2, cL2, AK2, nK2, cK2, rfl⟩ := hsh
    clear hb hV2 m0 m1 m2 m3 m4 m5 m6 m7 m8 m9 HM1 HB1
    go_wp2_with fail
    refine (refenc_any HV2.out hn).mono ?_
    intro e w20 he
    by_cases hm : mayB (listM m) = true
    · obtain ⟨hb, A20, c20, rfl, r20⟩ := EncR_ok he hm
      have HB20 := hide (HB2.out.trans (hb.mono HB2.out.size))
      have HR20 := hide r20
      clear he hb r20
      by_cases hl : (byt (listM m)).length ≤ 32768
      · have e1 : decide ((32768 : Int) < ((byt (listM m)).length : Int)) = false := by simp; omega
        have e2 : ¬ (32768 : Int) < ((byt (listM m)).length : Int) := by omega
        have e3 : ¬ 32768 < (byt (listM m)).length := by omega
        have HM2 := hide hm
        have HLN := hide hl
        clear hm hl
        generalize hL : (byt (listM m)).length = LEN at e1 e2 e3
        have HLL := hide hL
        clear hL
        go_wp2
        refine bodyPost_ret (results_tmp2 rfl _ _ _) rfl ?_
        have hL := HLL.out
        subst hL
        exact EncMP_ok HB20.out HOK.out ⟨HM2.out, HLN.out⟩ HR20.out
      · have e1 : decide ((32768 : Int) < ((byt (listM m)).length : Int)) = true := by simp; omega
        have e2 : (32768 : Int) < ((byt (listM m)).length : Int) := by omega
        have HLN := hide hl
        clear hm hl
        generalize (byt (listM m)).length = LEN at e1 e2
        go_wp2
        refine bodyPost_ret (results_tmp2 rfl _ _ _) rfl ?_
        exact EncMP_21 HB20.out HOK.out (fun h => HLN.out h.2)
    · obtain ⟨hb, rfl⟩ := EncR_no he hm
      have HB20 := hide (HB2.out.trans (hb.mono HB2.out.size))
      have HM2 := hide hm
      clear he hb hm
      go_wp2
      refine bodyPost_ret (results_tmp2 rfl _ _ _) rfl ?_
      exact EncMP_21 HB20.out HOK.out (fun h => HM2.out h.1)
end Go.Proofs.Ytaapbiiiepdopaa
