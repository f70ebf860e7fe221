/- wattleref04's reading of a value: lists and maps. wattleref04's Decode. -/
import Derived.Test.YtaapbiiiepdopaaRbA
namespace Go.Proofs.Ytaapbiiiepdopaa
open Go.RowKit Mem
set_option linter.unusedVariables false
section
variable {w : World} {n c at_ p d : Nat} {A : Option Addr} {bs : List UInt8}
set_option maxHeartbeats 1000000 in
set_option maxRecDepth 100000 in
theorem ref_t5 (hr : Reads w 0 w.heap.size 1 A n (bs.map B8)) (hat : at_ ≤ n) (hc : n ≤ c ∧ c ≤ 9223372036854775807) (hn : n ≤ 9223372036854775807) (hp : p ≤ 4096) (hd : d + 1 ≤ 32) (hp1 : p + 1 ≤ 4096) (hx : bs[at_]? = some 5) (ih : RefC A n c bs d) :
    Calls Try.prog 42 #[.slice A n c, .int .i64 (at_ : Int), .int .i64 ((d + 1 : Nat) : Int), .int .i64 (p : Int)] w fun e w' => RefP (rd bs (d + 1) p at_) w e w' := by
  have hr0 : rd bs (d + 1) p at_ = rdT bs (rd bs d) 5 (p + 1) (at_ + 1) := by
    rw [rd, hx]
    dsimp only
    rw [if_neg (by rw [show (5 : UInt8).toNat = 5 from rfl]; omega)]
    rfl
  have HQ := hide hr0
  have hlen : bs.length = n := by simpa using hr.1
  have X0 : ∀ (w : World) (cs ds : Array Value), Blk ((w.alloc (.cells cs 25)).alloc (.cells ds 25)) w.heap.size 25 cs := fun w cs ds => (Blk.new w 25 cs).alloc _
  have B0 : ∀ (w : World) (cs ds : Array Value), Below w.heap.size w ((w.alloc (.cells cs 25)).alloc (.cells ds 25)) := fun w cs ds => ((Below.refl w.heap.size w).alloc (Nat.le_refl _) _).alloc (by simp) _
  have hlt : at_ < n := by rw [← hlen]; exact (List.getElem?_eq_some_iff.1 hx).1
  have e1 : decide ((n : Int) ≤ (at_ : Int)) = false := by simp; omega
  have e2 : ¬ n ≤ at_ := by omega
  have e3 : (at_ : Int) < (n : Int) := by omega
  have q1 : IntKind.i64.wrap ((at_ : Int) + 1) = (at_ : Int) + 1 := IntWalk.i64_in _ (by omega)
  have q2 : IntKind.i64.wrap ((p : Int) + 1) = (p : Int) + 1 := IntWalk.i64_in _ (by omega)
  obtain ⟨b0, o0, rfl, _, hb0, hb0', hcell⟩ := hr.plain (by omega) (by decide)
  have c0 : ∀ o o', ((w.alloc o).alloc o').cell? ⟨b0, o0 + at_, none⟩ = some (.int .u8 5) := fun o o' => by
    rw [World.cell?_alloc_lt _ _ _ (show b0 < _ by simp; omega), World.cell?_alloc_lt _ _ _ (show b0 < _ from hb0'), hcell at_ (by omega), List.getElem?_map, hx]
    rfl
  have g2 : decide (((d + 1 : Nat) : Int) < 1) = false := by simp; omega
  have g2' : decide ((d : Int) + 1 < 1) = false := by simp; omega
  have g3 : decide ((4096 : Int) < (p : Int) + 1) = false := by simp; omega
  have hnum : ∀ (cs ds : Array Value), Calls Try.prog 62 #[.slice (some ⟨b0, o0, none⟩) n c, .int .i64 ((at_ + 1 : Nat) : Int)] ((w.alloc (.cells cs 25)).alloc (.cells ds 25)) fun e w' => RnP (rn 0 (bs.drop (at_ + 1))) (at_ + 1) e ∧ (w.alloc (.cells cs 25)).alloc (.cells ds 25) = w' :=
    fun cs ds => rdnum_any (hr.below (B0 w cs ds) (Nat.le_refl _)) (by omega) hc hn
  have HN := hide hnum
  have HRD := hide hr
  clear hnum
  go_enter Try.func42, Try.ntmps42
  go_wp2_with fail
  refine (HN.out _ _).mono ?_
  rintro e w5 ⟨he, rfl⟩
  cases hn0 : rn 0 (bs.drop (at_ + 1)) with
  | error z =>
    rw [hn0] at he
    have he' : e = .returned (.tuple #[.int .u64 0, .int .i64 0, .int .i64 z]) := he
    subst he'
    have hz : ¬ z = 0 := by rcases rn_err _ _ _ hn0 with h | h <;> omega
    have hfin : rd bs (d + 1) p at_ = .error z := by rw [HQ.out, rdT, if_neg (by decide), if_neg (by decide), hn0]
    have HR := hide hfin
    clear he hn0 hfin hx hcell hr
    go_wp2_with fail
    refine bodyPost_ret (results_cell4 rfl _ _ w.heap.size 25 #[.int .i64 0, .bool false, .int .i64 0, .string ⟨#[]⟩, .slice none 0 0, .slice none 0 0] _ rfl (X0 _ _ _) Try.underlying25 rfl (by kernel_rfl)) rfl ?_
    exact RefP_no HR.out (B0 _ _ _) (leaf (by decide) (by decide) (by decide))
  | ok q =>
    obtain ⟨m, k⟩ := q
    rw [hn0] at he
    have he' : e = .returned (.tuple #[.int .u64 (m : Int), .int .i64 ((at_ + 1 + k : Nat) : Int), .int .i64 0]) := he
    subst he'
    have hm64 := (rn_of hn0).1
    have hkn := rn_len hn0
    rw [List.length_drop, hlen] at hkn
    have hfin : rd bs (d + 1) p at_ = rowsR bs (rd bs d) false m (p + 1) (at_ + 1 + k) := by
      rw [HQ.out, rdT, if_neg (by decide), if_neg (by decide), hn0]
      dsimp only
      rw [if_neg (by decide), if_neg (by decide), if_neg (by decide)]
      rfl
    have HR := hide hfin
    have hcall := rows_l (w := (w.alloc (.cells nulCells 25)).alloc (.cells nulCells 25)) (m := m) (p := p + 1) (at_ := at_ + 1 + k) ((HRD.out.below (B0 w nulCells nulCells) (Nat.le_refl _)).more (Nat.le_refl _) (by simp; omega)) (by omega) hc hn hp1 hd hm64 ih
    have BW := B0 w nulCells nulCells
    have XW := X0 w nulCells nulCells
    unfold nulCells at hcall BW XW
    have harg : ((at_ + 1 + k : Nat) : Int) = (at_ : Int) + 1 + (k : Int) := by omega
    have harg2 : ((p + 1 : Nat) : Int) = (p : Int) + 1 := by omega
    have harg3 : ((d + 1 : Nat) : Int) = (d : Int) + 1 := by omega
    rw [harg, harg2, harg3] at hcall
    have HC := hide hcall
    have HBW := hide BW
    have HXW := hide XW
    clear he hn0 hfin hx hcell hr hcall harg harg2 harg3 BW XW
    go_wp2_with fail
    refine HC.out.mono ?_
    generalize hW : (w.alloc (.cells #[.int .i64 0, .bool false, .int .i64 0, .string ⟨#[]⟩, .slice none 0 0, .slice none 0 0] 25)).alloc (.cells #[.int .i64 0, .bool false, .int .i64 0, .string ⟨#[]⟩, .slice none 0 0, .slice none 0 0] 25) = W at HBW HXW ⊢
    clear hW HC c0 B0 X0
    intro e w5 he
    have hb5 := he.1
    have X5 := HXW.out.below hb5 HXW.out.lt
    have hBe := HBW.out.trans (hb5.mono HBW.out.size)
    have x0 : w5.cell? ⟨w.heap.size, 0, none⟩ = some (.int .i64 0) := blkR X5 rfl
    have x1 : w5.cell? ⟨w.heap.size, 1, none⟩ = some (.bool false) := blkR X5 rfl
    have x2 : w5.cell? ⟨w.heap.size, 2, none⟩ = some (.int .i64 0) := blkR X5 rfl
    have x3 : w5.cell? ⟨w.heap.size, 3, none⟩ = some (.string ⟨#[]⟩) := blkR X5 rfl
    have x4 : w5.cell? ⟨w.heap.size, 4, none⟩ = some (.slice none 0 0) := blkR X5 rfl
    have x5 : w5.cell? ⟨w.heap.size, 5, none⟩ = some (.slice none 0 0) := blkR X5 rfl
    have xf : ∀ i, w5.frozen? ⟨w.heap.size, i, none⟩ = false := fun i => X5.frozen i
    have HX5 := hide X5
    have HBE := hide hBe
    have hsW : w.heap.size < W.heap.size := HXW.out.lt
    cases hR : rowsR bs (rd bs d) false m (p + 1) (at_ + 1 + k) with
    | error z =>
      rw [hR] at he
      obtain ⟨_, cs, a, q, rfl, hV⟩ := he
      obtain ⟨k2, bb2, m2, s2, AL2, nL2, cL2, AK2, nK2, cK2, rfl⟩ := hV.shape
      have HF := hide (HR.out.trans hR)
      have OE := only6 (Only.refl (fun b => b = w.heap.size) w5) (.inl rfl) (.int .i64 k2) (.bool bb2) (.int .i64 m2) (.string s2) (.slice AL2 nL2 cL2) (.slice AK2 nK2 cK2)
      have HXE := hide (set6 HX5.out (.int .i64 k2) (.bool bb2) (.int .i64 m2) (.string s2) (.slice AL2 nL2 cL2) (.slice AK2 nK2 cK2))
      have HVE := hide (hV.only OE (fun b hb e => by have hb : W.heap.size ≤ b := hb; have e : b = w.heap.size := e; omega))
      have HOE := hide (HBE.out.trans (OE.below (B := w.heap.size) (by intro b _ e; have e : b = w.heap.size := e; omega) HBE.out.size))
      clear hV OE hR X5 hb5 hBe
      go_wp2
      refine bodyPost_ret (results_cell4 rfl _ _ w.heap.size 25 _ _ rfl HXE.out Try.underlying25 rfl (by kernel_rfl)) rfl ?_
      exact RefP_no HF.out HOE.out (HVE.out.mono (fun b hb _ => by have hb : W.heap.size ≤ b := hb; omega))
    | ok q3 =>
      obtain ⟨v, at2, q⟩ := q3
      rw [hR] at he
      obtain ⟨_, cs, rfl, hV⟩ := he
      obtain ⟨k2, bb2, m2, s2, AL2, nL2, cL2, AK2, nK2, cK2, rfl⟩ := hV.shape
      have HF := hide (HR.out.trans hR)
      have OE := only6 (Only.refl (fun b => b = w.heap.size) w5) (.inl rfl) (.int .i64 k2) (.bool bb2) (.int .i64 m2) (.string s2) (.slice AL2 nL2 cL2) (.slice AK2 nK2 cK2)
      have HXE := hide (set6 HX5.out (.int .i64 k2) (.bool bb2) (.int .i64 m2) (.string s2) (.slice AL2 nL2 cL2) (.slice AK2 nK2 cK2))
      have HVE := hide (hV.only OE (fun b hb e => by have hb : W.heap.size ≤ b := hb; have e : b = w.heap.size := e; omega))
      have HOE := hide (HBE.out.trans (OE.below (B := w.heap.size) (by intro b _ e; have e : b = w.heap.size := e; omega) HBE.out.size))
      clear hV OE hR X5 hb5 hBe
      go_wp2
      refine bodyPost_ret (results_cell4 rfl _ _ w.heap.size 25 _ _ rfl HXE.out Try.underlying25 rfl (by kernel_rfl)) rfl ?_
      exact RefP_ok HF.out HOE.out (HVE.out.mono (fun b hb _ => by have hb : W.heap.size ≤ b := hb; omega)) rfl rfl
set_option maxHeartbeats 1000000 in
set_option maxRecDepth 100000 in
theorem ref_t6 (hr : Reads w 0 w.heap.size 1 A n (bs.map B8)) (hat : at_ ≤ n) (hc : n ≤ c ∧ c ≤ 9223372036854775807) (hn : n ≤ 9223372036854775807) (hp : p ≤ 4096) (hd : d + 1 ≤ 32) (hp1 : p + 1 ≤ 4096) (hx : bs[at_]? = some 6) (ih : RefC A n c bs d) :
    Calls Try.prog 42 #[.slice A n c, .int .i64 (at_ : Int), .int .i64 ((d + 1 : Nat) : Int), .int .i64 (p : Int)] w fun e w' => RefP (rd bs (d + 1) p at_) w e w' := by
  have hr0 : rd bs (d + 1) p at_ = rdT bs (rd bs d) 6 (p + 1) (at_ + 1) := by
    rw [rd, hx]
    dsimp only
    rw [if_neg (by rw [show (6 : UInt8).toNat = 6 from rfl]; omega)]
    rfl
  have HQ := hide hr0
  have hlen : bs.length = n := by simpa using hr.1
  have X0 : ∀ (w : World) (cs ds : Array Value), Blk ((w.alloc (.cells cs 25)).alloc (.cells ds 25)) w.heap.size 25 cs := fun w cs ds => (Blk.new w 25 cs).alloc _
  have B0 : ∀ (w : World) (cs ds : Array Value), Below w.heap.size w ((w.alloc (.cells cs 25)).alloc (.cells ds 25)) := fun w cs ds => ((Below.refl w.heap.size w).alloc (Nat.le_refl _) _).alloc (by simp) _
  have hlt : at_ < n := by rw [← hlen]; exact (List.getElem?_eq_some_iff.1 hx).1
  have e1 : decide ((n : Int) ≤ (at_ : Int)) = false := by simp; omega
  have e2 : ¬ n ≤ at_ := by omega
  have e3 : (at_ : Int) < (n : Int) := by omega
  have q1 : IntKind.i64.wrap ((at_ : Int) + 1) = (at_ : Int) + 1 := IntWalk.i64_in _ (by omega)
  have q2 : IntKind.i64.wrap ((p : Int) + 1) = (p : Int) + 1 := IntWalk.i64_in _ (by omega)
  obtain ⟨b0, o0, rfl, _, hb0, hb0', hcell⟩ := hr.plain (by omega) (by decide)
  have c0 : ∀ o o', ((w.alloc o).alloc o').cell? ⟨b0, o0 + at_, none⟩ = some (.int .u8 6) := fun o o' => by
    rw [World.cell?_alloc_lt _ _ _ (show b0 < _ by simp; omega), World.cell?_alloc_lt _ _ _ (show b0 < _ from hb0'), hcell at_ (by omega), List.getElem?_map, hx]
    rfl
  have g2 : decide (((d + 1 : Nat) : Int) < 1) = false := by simp; omega
  have g2' : decide ((d : Int) + 1 < 1) = false := by simp; omega
  have g3 : decide ((4096 : Int) < (p : Int) + 1) = false := by simp; omega
  have hnum : ∀ (cs ds : Array Value), Calls Try.prog 62 #[.slice (some ⟨b0, o0, none⟩) n c, .int .i64 ((at_ + 1 : Nat) : Int)] ((w.alloc (.cells cs 25)).alloc (.cells ds 25)) fun e w' => RnP (rn 0 (bs.drop (at_ + 1))) (at_ + 1) e ∧ (w.alloc (.cells cs 25)).alloc (.cells ds 25) = w' :=
    fun cs ds => rdnum_any (hr.below (B0 w cs ds) (Nat.le_refl _)) (by omega) hc hn
  have HN := hide hnum
  have HRD := hide hr
  clear hnum
  go_enter Try.func42, Try.ntmps42
  go_wp2_with fail
  refine (HN.out _ _).mono ?_
  rintro e w5 ⟨he, rfl⟩
  cases hn0 : rn 0 (bs.drop (at_ + 1)) with
  | error z =>
    rw [hn0] at he
    have he' : e = .returned (.tuple #[.int .u64 0, .int .i64 0, .int .i64 z]) := he
    subst he'
    have hz : ¬ z = 0 := by rcases rn_err _ _ _ hn0 with h | h <;> omega
    have hfin : rd bs (d + 1) p at_ = .error z := by rw [HQ.out, rdT, if_neg (by decide), if_neg (by decide), hn0]
    have HR := hide hfin
    clear he hn0 hfin hx hcell hr
    go_wp2_with fail
    refine bodyPost_ret (results_cell4 rfl _ _ w.heap.size 25 #[.int .i64 0, .bool false, .int .i64 0, .string ⟨#[]⟩, .slice none 0 0, .slice none 0 0] _ rfl (X0 _ _ _) Try.underlying25 rfl (by kernel_rfl)) rfl ?_
    exact RefP_no HR.out (B0 _ _ _) (leaf (by decide) (by decide) (by decide))
  | ok q =>
    obtain ⟨m, k⟩ := q
    rw [hn0] at he
    have he' : e = .returned (.tuple #[.int .u64 (m : Int), .int .i64 ((at_ + 1 + k : Nat) : Int), .int .i64 0]) := he
    subst he'
    have hm64 := (rn_of hn0).1
    have hkn := rn_len hn0
    rw [List.length_drop, hlen] at hkn
    have hfin : rd bs (d + 1) p at_ = rowsR bs (rd bs d) true m (p + 1) (at_ + 1 + k) := by
      rw [HQ.out, rdT, if_neg (by decide), if_neg (by decide), hn0]
      dsimp only
      rw [if_neg (by decide), if_neg (by decide), if_neg (by decide)]
      rfl
    have HR := hide hfin
    have hcall := rows_m (w := (w.alloc (.cells nulCells 25)).alloc (.cells nulCells 25)) (m := m) (p := p + 1) (at_ := at_ + 1 + k) ((HRD.out.below (B0 w nulCells nulCells) (Nat.le_refl _)).more (Nat.le_refl _) (by simp; omega)) (by omega) hc hn hp1 hd hm64 ih
    have BW := B0 w nulCells nulCells
    have XW := X0 w nulCells nulCells
    unfold nulCells at hcall BW XW
    have harg : ((at_ + 1 + k : Nat) : Int) = (at_ : Int) + 1 + (k : Int) := by omega
    have harg2 : ((p + 1 : Nat) : Int) = (p : Int) + 1 := by omega
    have harg3 : ((d + 1 : Nat) : Int) = (d : Int) + 1 := by omega
    rw [harg, harg2, harg3] at hcall
    have HC := hide hcall
    have HBW := hide BW
    have HXW := hide XW
    clear he hn0 hfin hx hcell hr hcall harg harg2 harg3 BW XW
    go_wp2_with fail
    refine HC.out.mono ?_
    generalize hW : (w.alloc (.cells #[.int .i64 0, .bool false, .int .i64 0, .string ⟨#[]⟩, .slice none 0 0, .slice none 0 0] 25)).alloc (.cells #[.int .i64 0, .bool false, .int .i64 0, .string ⟨#[]⟩, .slice none 0 0, .slice none 0 0] 25) = W at HBW HXW ⊢
    clear hW HC c0 B0 X0
    intro e w5 he
    have hb5 := he.1
    have X5 := HXW.out.below hb5 HXW.out.lt
    have hBe := HBW.out.trans (hb5.mono HBW.out.size)
    have x0 : w5.cell? ⟨w.heap.size, 0, none⟩ = some (.int .i64 0) := blkR X5 rfl
    have x1 : w5.cell? ⟨w.heap.size, 1, none⟩ = some (.bool false) := blkR X5 rfl
    have x2 : w5.cell? ⟨w.heap.size, 2, none⟩ = some (.int .i64 0) := blkR X5 rfl
    have x3 : w5.cell? ⟨w.heap.size, 3, none⟩ = some (.string ⟨#[]⟩) := blkR X5 rfl
    have x4 : w5.cell? ⟨w.heap.size, 4, none⟩ = some (.slice none 0 0) := blkR X5 rfl
    have x5 : w5.cell? ⟨w.heap.size, 5, none⟩ = some (.slice none 0 0) := blkR X5 rfl
    have xf : ∀ i, w5.frozen? ⟨w.heap.size, i, none⟩ = false := fun i => X5.frozen i
    have HX5 := hide X5
    have HBE := hide hBe
    have hsW : w.heap.size < W.heap.size := HXW.out.lt
    cases hR : rowsR bs (rd bs d) true m (p + 1) (at_ + 1 + k) with
    | error z =>
      rw [hR] at he
      obtain ⟨_, cs, a, q, rfl, hV⟩ := he
      obtain ⟨k2, bb2, m2, s2, AL2, nL2, cL2, AK2, nK2, cK2, rfl⟩ := hV.shape
      have HF := hide (HR.out.trans hR)
      have OE := only6 (Only.refl (fun b => b = w.heap.size) w5) (.inl rfl) (.int .i64 k2) (.bool bb2) (.int .i64 m2) (.string s2) (.slice AL2 nL2 cL2) (.slice AK2 nK2 cK2)
      have HXE := hide (set6 HX5.out (.int .i64 k2) (.bool bb2) (.int .i64 m2) (.string s2) (.slice AL2 nL2 cL2) (.slice AK2 nK2 cK2))
      have HVE := hide (hV.only OE (fun b hb e => by have hb : W.heap.size ≤ b := hb; have e : b = w.heap.size := e; omega))
      have HOE := hide (HBE.out.trans (OE.below (B := w.heap.size) (by intro b _ e; have e : b = w.heap.size := e; omega) HBE.out.size))
      clear hV OE hR X5 hb5 hBe
      go_wp2
      refine bodyPost_ret (results_cell4 rfl _ _ w.heap.size 25 _ _ rfl HXE.out Try.underlying25 rfl (by kernel_rfl)) rfl ?_
      exact RefP_no HF.out HOE.out (HVE.out.mono (fun b hb _ => by have hb : W.heap.size ≤ b := hb; omega))
    | ok q3 =>
      obtain ⟨v, at2, q⟩ := q3
      rw [hR] at he
      obtain ⟨_, cs, rfl, hV⟩ := he
      obtain ⟨k2, bb2, m2, s2, AL2, nL2, cL2, AK2, nK2, cK2, rfl⟩ := hV.shape
      have HF := hide (HR.out.trans hR)
      have OE := only6 (Only.refl (fun b => b = w.heap.size) w5) (.inl rfl) (.int .i64 k2) (.bool bb2) (.int .i64 m2) (.string s2) (.slice AL2 nL2 cL2) (.slice AK2 nK2 cK2)
      have HXE := hide (set6 HX5.out (.int .i64 k2) (.bool bb2) (.int .i64 m2) (.string s2) (.slice AL2 nL2 cL2) (.slice AK2 nK2 cK2))
      have HVE := hide (hV.only OE (fun b hb e => by have hb : W.heap.size ≤ b := hb; have e : b = w.heap.size := e; omega))
      have HOE := hide (HBE.out.trans (OE.below (B := w.heap.size) (by intro b _ e; have e : b = w.heap.size := e; omega) HBE.out.size))
      clear hV OE hR X5 hb5 hBe
      go_wp2
      refine bodyPost_ret (results_cell4 rfl _ _ w.heap.size 25 _ _ rfl HXE.out Try.underlying25 rfl (by kernel_rfl)) rfl ?_
      exact RefP_ok HF.out HOE.out (HVE.out.mono (fun b hb _ => by have hb : W.heap.size ≤ b := hb; omega)) rfl rfl
end
theorem ref_any {n c : Nat} {A : Option Addr} {bs : List UInt8} (hc : n ≤ c ∧ c ≤ 9223372036854775807) (hn : n ≤ 9223372036854775807) : ∀ (d : Nat), d ≤ 32 → RefC A n c bs d := by
  intro d
  induction d with
  | zero =>
    intro _ w at_ p h hat hp
    cases hx : bs[at_]? with
    | none => exact ref_none h hat hc hn hp hx
    | some x => exact ref_bad h hat hc hn hp (by omega) hx (.inr (.inl rfl))
  | succ d ih =>
    intro hd w at_ p h hat hp
    have ih : RefC A n c bs d := ih (by omega)
    cases hx : bs[at_]? with
    | none => exact ref_none h hat hc hn hp hx
    | some x =>
      by_cases hb : 8 < x.toNat ∨ d + 1 = 0 ∨ 4096 < p + 1
      · exact ref_bad h hat hc hn hp hd hx hb
      · have hp' : p + 1 ≤ 4096 := by omega
        rcases byte_low (x := x) (by omega) with e | e | e | e | e | e | e | e | e <;> rw [e] at hx
        · exact ref_t0 h hat hc hn hp hd hp' hx
        · exact ref_t1 h hat hc hn hp hd hp' hx
        · exact ref_t2 h hat hc hn hp hd hp' hx
        · exact ref_t3 h hat hc hn hp hd hp' hx
        · exact ref_t4 h hat hc hn hp hd hp' hx
        · exact ref_t5 h hat hc hn hp hd hp' hx ih
        · exact ref_t6 h hat hc hn hp hd hp' hx ih
        · exact ref_t7 h hat hc hn hp hd hp' hx
        · exact ref_t8 h hat hc hn hp hd hp' hx
end Go.Proofs.Ytaapbiiiepdopaa

namespace Go.Proofs.Ytaapbiiiepdopaa
open Go.RowKit Mem
set_option linter.unusedVariables false

theorem results_cell3t {P : Program} {fn : Func} {p q r : Tmp} {ty : TypeId} (h : fn.results = #[.cell p ty, .tmp q, .tmp r]) (tmps : Array Value) (w : World) (g : Nat) (t : TypeId) (cs : Array Value) (d : TypeDesc)
    (hp : tmps.getD p undef = .pointer (some ⟨g, 0, none⟩)) (hg : Blk w g t cs)
    (hu : P.underlying ty = some d) (hd : (match d with | .struct _ | .array _ _ => true | _ => false) = true) (hi : (P.info? ty).map (·.size) = some cs.size) :
    (results fn tmps).run P w = .ok (.tuple #[.agg cs, tmps.getD q undef, tmps.getD r undef]) w := by
  have e : (results fn tmps).run P w = ((asAddr (tmps.getD p undef)).run P w).andThen fun a w₁ => ((loadVar ty a).run P w₁).andThen fun u1 w₂ => .ok (.tuple #[u1, tmps.getD q undef, tmps.getD r undef]) w₂ := by
    simp only [results, h]
    simp [Sem.run_bind, Result.andThen]
  rw [e, hp]
  simp [asAddr, run_loadVar_row w g t ty cs (0, 0) d hg hu hd hi, Result.andThen]

theorem DecP_ok {R : Rd} {w w' : World} {v : V} {at' q : Nat} {cs : Array Value} {a : Int} (h : R = .ok (v, at', q)) (hb : Below w.heap.size w w') (hv : IsV w' (fun b => w.heap.size ≤ b) v cs) (ha : a = (at' : Int)) :
    DecP R w (.returned (.tuple #[.agg cs, .int .i64 a, .int .i64 0])) w' := by subst ha; rw [h]; exact ⟨cs, hb, rfl, hv⟩
theorem DecP_no {R : Rd} {w w' : World} {z : Int} (h : R = .error z) (hb : Below w.heap.size w w') :
    DecP R w (.returned (.tuple #[.agg nulCells, .int .i64 0, .int .i64 z])) w' := by rw [h]; exact ⟨nulCells, hb, rfl, rfl⟩

set_option maxHeartbeats 1000000 in
set_option maxRecDepth 100000 in
theorem refdec_any {w : World} {n c : Nat} {A : Option Addr} {bs : List UInt8} (hr : Reads w 0 w.heap.size 1 A n (bs.map B8)) (hc : n ≤ c ∧ c ≤ 9223372036854775807) (hn : n ≤ 9223372036854775807) :
    Calls Try.prog 20 #[.slice A n c] w fun e w' => DecP (dec bs) w e w' := by
  have X0 := Blk.new w 25 nulCells
  have B0 := (Below.refl w.heap.size w).alloc (Nat.le_refl _) (.cells nulCells 25)
  have R0 := (hr.below B0 (Nat.le_refl _)).more (Nat.le_refl _) (show w.heap.size ≤ (w.alloc (.cells nulCells 25)).heap.size by simp)
  have HX0 := hide X0
  have HB0 := hide B0
  have HC := hide (ref_any hc hn 32 (Nat.le_refl _) (p := 0) R0 (Nat.zero_le _) (Nat.zero_le _))
  have HL : w.heap.size < (w.alloc (.cells nulCells 25)).heap.size := by simp
  unfold nulCells at HX0 HB0 HC HL
  clear X0 B0 R0 hr
  go_enter Try.func20, Try.ntmps20
  go_wp2_with fail
  refine HC.out.mono ?_
  generalize w.alloc (.cells #[.int .i64 0, .bool false, .int .i64 0, .string ⟨#[]⟩, .slice none 0 0, .slice none 0 0] 25) = W at HX0 HB0 HL ⊢
  clear HC
  intro e w5 he
  have hb5 := he.1
  have X5 := HX0.out.below hb5 HX0.out.lt
  have B5 := HB0.out.trans (hb5.mono HB0.out.size)
  have x0 : ∀ o, (w5.alloc o).cell? ⟨w.heap.size, 0, none⟩ = some (.int .i64 0) := fun o => blkR (X5.alloc o) rfl
  have x1 : ∀ o, (w5.alloc o).cell? ⟨w.heap.size, 1, none⟩ = some (.bool false) := fun o => blkR (X5.alloc o) rfl
  have x2 : ∀ o, (w5.alloc o).cell? ⟨w.heap.size, 2, none⟩ = some (.int .i64 0) := fun o => blkR (X5.alloc o) rfl
  have x3 : ∀ o, (w5.alloc o).cell? ⟨w.heap.size, 3, none⟩ = some (.string ⟨#[]⟩) := fun o => blkR (X5.alloc o) rfl
  have x4 : ∀ o, (w5.alloc o).cell? ⟨w.heap.size, 4, none⟩ = some (.slice none 0 0) := fun o => blkR (X5.alloc o) rfl
  have x5 : ∀ o, (w5.alloc o).cell? ⟨w.heap.size, 5, none⟩ = some (.slice none 0 0) := fun o => blkR (X5.alloc o) rfl
  have xf : ∀ o i, (w5.alloc o).frozen? ⟨w.heap.size, i, none⟩ = false := fun o i => (X5.alloc o).frozen i
  have hs5 := Nat.le_of_lt (Nat.lt_of_lt_of_le HL hb5.size)
  have HX5 := hide X5
  have HB5 := hide B5
  clear X5 B5 hb5
  cases hR : rd bs 32 0 0 with
  | error z =>
    rw [hR] at he
    obtain ⟨_, cs, a, q, rfl, hV⟩ := he
    obtain ⟨k2, bb2, m2, s2, AL2, nL2, cL2, AK2, nK2, cK2, rfl⟩ := hV.shape
    have hz : ¬ z = 0 := by rcases rd_err _ _ _ _ _ hR with h | h <;> omega
    have HF := hide (show dec bs = .error z from hR)
    have BE := fun o => (only6 (Only.refl (fun b => b = w.heap.size) (w5.alloc o)) (.inl rfl) (.int .i64 0) (.bool false) (.int .i64 0) (.string ⟨#[]⟩) (.slice none 0 0) (.slice none 0 0)).below (B := w.heap.size) (by intro b _ e; have e : b = w.heap.size := e; omega) (Nat.le_trans hs5 (by simp))
    have HXE := hide (fun o => set6 (HX5.out.alloc o) (.int .i64 0) (.bool false) (.int .i64 0) (.string ⟨#[]⟩) (.slice none 0 0) (.slice none 0 0))
    have HBE := hide (fun o => (HB5.out.alloc hs5 o).trans (BE o))
    clear hV hR BE
    go_wp2
    refine bodyPost_ret (results_cell3t rfl _ _ w.heap.size 25 _ _ rfl (HXE.out _) Try.underlying25 rfl (by kernel_rfl)) rfl ?_
    exact DecP_no HF.out (HBE.out _)
  | ok q3 =>
    obtain ⟨v, at2, q⟩ := q3
    rw [hR] at he
    obtain ⟨_, cs, rfl, hV⟩ := he
    obtain ⟨k2, bb2, m2, s2, AL2, nL2, cL2, AK2, nK2, cK2, rfl⟩ := hV.shape
    have HF := hide (show dec bs = .ok (v, at2, q) from hR)
    have OE := fun o => only6 (Only.refl (fun b => b = w.heap.size) (w5.alloc o)) (.inl rfl) (.int .i64 k2) (.bool bb2) (.int .i64 m2) (.string s2) (.slice AL2 nL2 cL2) (.slice AK2 nK2 cK2)
    have BE := fun o => (OE o).below (B := w.heap.size) (by intro b _ e; have e : b = w.heap.size := e; omega) (Nat.le_trans hs5 (by simp))
    have HXE := hide (fun o => set6 (HX5.out.alloc o) (.int .i64 k2) (.bool bb2) (.int .i64 m2) (.string s2) (.slice AL2 nL2 cL2) (.slice AK2 nK2 cK2))
    have HBE := hide (fun o => (HB5.out.alloc hs5 o).trans (BE o))
    have HVE := hide (fun o => (hV.alloc o).only (OE o) (fun b hb e => by have hb : W.heap.size ≤ b := hb; have e : b = w.heap.size := e; omega))
    clear hV hR BE OE
    go_wp2
    refine bodyPost_ret (results_cell3t rfl _ _ w.heap.size 25 _ _ rfl (HXE.out _) Try.underlying25 rfl (by kernel_rfl)) rfl ?_
    exact DecP_ok HF.out (HBE.out _) ((HVE.out _).mono (fun b hb _ => by have hb : W.heap.size ≤ b := hb; show w.heap.size ≤ b; omega)) rfl
end Go.Proofs.Ytaapbiiiepdopaa
