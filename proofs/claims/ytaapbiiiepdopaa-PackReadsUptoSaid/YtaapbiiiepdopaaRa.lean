/- wattleref04's rows: lists. -/
import Derived.Test.YtaapbiiiepdopaaTs
namespace Go.Proofs.Ytaapbiiiepdopaa
open Go.RowKit Mem
set_option linter.unusedVariables false

/-- what read does so deep -/
def RefC (A : Option Addr) (n c : Nat) (bs : List UInt8) (d : Nat) : Prop := ∀ {w : World} {at_ p : Nat}, Reads w 0 w.heap.size 1 A n (bs.map B8) → at_ ≤ n → p ≤ 4096 →
  Calls Try.prog 42 #[.slice A n c, .int .i64 (at_ : Int), .int .i64 (d : Int), .int .i64 (p : Int)] w fun e w' => RefP (rd bs d p at_) w e w'
def rowsR (bs : List UInt8) (f : Nat → Nat → Rd) (mm : Bool) (m p at_ : Nat) : Rd := match rows bs f mm m [] [] p at_ with
  | .error e => .error e
  | .ok (vs, ks, at', q) => .ok (.mk (if mm then 5 else 4) false 0 .empty vs ks, at', q)
set_option maxHeartbeats 3000000 in
set_option maxRecDepth 100000 in
theorem rows_l {w : World} {n c at_ p d m : Nat} {A : Option Addr} {bs : List UInt8} (hr : Reads w 0 w.heap.size 1 A n (bs.map B8)) (hat : at_ ≤ n) (hc : n ≤ c ∧ c ≤ 9223372036854775807) (hn : n ≤ 1048576) (hp : p ≤ 4096) (hd : d + 1 ≤ 32) (hm : m < 18446744073709551616) (ih : RefC A n c bs d) :
    Calls Try.prog 64 #[.slice A n c, .int .i64 (at_ : Int), .int .i64 ((d + 1 : Nat) : Int), .int .i64 (p : Int), .bool false, .int .u64 (m : Int)] w fun e w' => RefP (rowsR bs (rd bs d) false m p at_) w e w' := by
  have HRD := hide hr
  have hlen : bs.length = n := by simpa using hr.1
  clear hr
  have X0 : ∀ (w : World) (cs ds : Array Value), Blk ((w.alloc (.cells cs 25)).alloc (.cells ds 25)) w.heap.size 25 cs := fun w cs ds => (Blk.new w 25 cs).alloc _
  have Y0 : ∀ (w : World) (cs ds : Array Value), Blk ((w.alloc (.cells cs 25)).alloc (.cells ds 25)) (w.heap.size + 1) 25 ds := fun w cs ds => by simpa using Blk.new (w.alloc (.cells cs 25)) 25 ds
  have B0 : ∀ (w : World) (cs ds : Array Value), Below w.heap.size w ((w.alloc (.cells cs 25)).alloc (.cells ds 25)) := fun w cs ds => ((Below.refl w.heap.size w).alloc (Nat.le_refl _) _).alloc (by simp) _
  have T0 : TS w _ w.heap.size (w.heap.size + 1) 4 none 0 0 none 0 0 [] [] [] := ⟨Y0 w nulCells #[.int .i64 4, .bool false, .int .i64 0, .string ⟨#[]⟩, .slice none 0 0, .slice none 0 0], X0 w nulCells _, World.ownsRow_nil _ _ _ _, World.ownsRow_nil _ _ _ _, IsVs.nil, ⟨by simp [Value.ownBlock], by simp [Value.ownBlock], by simp [Value.ownBlock], by simp [Value.ownBlock], by simp [Value.ownBlock]⟩, B0 _ _ _, ⟨Nat.le_refl _, by omega, by omega⟩, rfl, rfl, (by intro x hx; cases hx)⟩
  have HT0 := hide T0
  unfold nulCells at HT0
  clear T0 X0 Y0 B0
  go_enter Try.func64, Try.ntmps64
  go_wp2_with fail
  go_loopg [1, 3, 17] m (fun gj av pv nv wr => ∃ (j at' p' : Nat) (AL : Option Addr) (nL cL : Nat) (AK : Option Addr) (nK cK : Nat) (vs : List V) (ks : List ByteArray) (xs : List Value), gj = m - j ∧ av = .int .i64 (at' : Nat) ∧ pv = .int .i64 (p' : Nat) ∧ nv = .int .u64 (j : Nat) ∧ j ≤ m ∧ at' ≤ n ∧ p' ≤ 4096 ∧ nL ≤ p' ∧ Hid (rows bs (rd bs d) false m [] [] p at_ = rows bs (rd bs d) false (m - j) vs ks p' at') ∧ Hid (TS w wr w.heap.size (w.heap.size + 1) 4 AL nL cL AK nK cK vs ks xs))
  case atStart => exact ⟨0, at_, p, none, 0, 0, none, 0, 0, [], [], [], rfl, rfl, rfl, rfl, Nat.zero_le _, hat, hp, Nat.zero_le _, rfl, HT0⟩
  case round =>
    obtain ⟨j, at', p', AL, nL, cL, AK, nK, cK, vs, ks, xs, rfl, rfl, rfl, rfl, hjm, hat', hp', hnL, hE, hL⟩ := hrel
    have XB := hL.out.x
    have YB := hL.out.y
    have y0 : wr.cell? ⟨w.heap.size, 0, none⟩ = some (.int .i64 0) := blkR XB rfl
    have y1 : wr.cell? ⟨w.heap.size, 1, none⟩ = some (.bool false) := blkR XB rfl
    have y2 : wr.cell? ⟨w.heap.size, 2, none⟩ = some (.int .i64 0) := blkR XB rfl
    have y3 : wr.cell? ⟨w.heap.size, 3, none⟩ = some (.string ⟨#[]⟩) := blkR XB rfl
    have y4 : wr.cell? ⟨w.heap.size, 4, none⟩ = some (.slice none 0 0) := blkR XB rfl
    have y5 : wr.cell? ⟨w.heap.size, 5, none⟩ = some (.slice none 0 0) := blkR XB rfl
    have yf : ∀ i, wr.frozen? ⟨w.heap.size, i, none⟩ = false := fun i => XB.frozen i
    rcases Nat.lt_or_ge j m with hlt | hge
    · have e1 : decide ((j : Int) < (m : Int)) = true := by simp; omega
      have hx1 : (j : Int) < (m : Int) := by omega
      obtain ⟨J, hJ⟩ : ∃ J, m - j = J + 1 := ⟨m - j - 1, by omega⟩
      have hk0 : rkeys false ks (bs.drop at') = .ok (ks, 0) := rfl
      have hcall := ih (w := wr) (p := p') ((HRD.out.below hL.out.be (Nat.le_refl _)).more (Nat.le_refl _) hL.out.be.size) hat' hp'
      have qd : IntKind.i64.wrap ((d : Int) + 1 - 1) = (d : Int) := by rw [show ((d : Int) + 1 - 1) = (d : Int) by omega]; exact IntWalk.i64_in _ (by omega)
      have qj : IntKind.u64.wrap ((j : Int) + 1) = (j : Int) + 1 := by rw [wr64]; omega
      cases hv : rd bs d p' at' with
      | error z =>
        rw [hv] at hcall
        have hfin : rowsR bs (rd bs d) false m p at_ = .error z := by unfold rowsR; rw [hE.out, hJ, rows_val hk0 hv]
        have hz : ¬ z = 0 := by rcases rd_err _ _ _ _ _ hv with h | h <;> omega
        have HR := hide hfin
        have HC := hide hcall
        clear hfin hE hcall hv hJ hk0 XB YB
        go_wp2_with fail
        refine HC.out.mono ?_
        rintro e w7 ⟨hb7, cs, a, q, rfl, hV7⟩
        obtain ⟨k7, b7, n7, s7, AL7, nL7, cL7, AK7, nK7, cK7, rfl⟩ := hV7.shape
        have L7 := hL.out.step hb7
        clear y0 y1 y2 y3 y4 y5 yf
        have L8 := fun o => L7.step ((Below.refl w7.heap.size w7).alloc (Nat.le_refl _) o)
        have y0 : ∀ o, (w7.alloc o).cell? ⟨w.heap.size, 0, none⟩ = some (.int .i64 0) := fun o => blkR (L8 o).x rfl
        have y1 : ∀ o, (w7.alloc o).cell? ⟨w.heap.size, 1, none⟩ = some (.bool false) := fun o => blkR (L8 o).x rfl
        have y2 : ∀ o, (w7.alloc o).cell? ⟨w.heap.size, 2, none⟩ = some (.int .i64 0) := fun o => blkR (L8 o).x rfl
        have y3 : ∀ o, (w7.alloc o).cell? ⟨w.heap.size, 3, none⟩ = some (.string ⟨#[]⟩) := fun o => blkR (L8 o).x rfl
        have y4 : ∀ o, (w7.alloc o).cell? ⟨w.heap.size, 4, none⟩ = some (.slice none 0 0) := fun o => blkR (L8 o).x rfl
        have y5 : ∀ o, (w7.alloc o).cell? ⟨w.heap.size, 5, none⟩ = some (.slice none 0 0) := fun o => blkR (L8 o).x rfl
        have yf : ∀ o i, (w7.alloc o).frozen? ⟨w.heap.size, i, none⟩ = false := fun o i => (L8 o).x.frozen i
        have XE := fun o => set6 (L8 o).x (.int .i64 0) (.bool false) (.int .i64 0) (.string ⟨#[]⟩) (.slice none 0 0) (.slice none 0 0)
        have OE := fun o => (only6 (Only.refl (fun b => b = w.heap.size) (w7.alloc o)) (.inl rfl) (.int .i64 0) (.bool false) (.int .i64 0) (.string ⟨#[]⟩) (.slice none 0 0) (.slice none 0 0))
        have BE := fun o => (L8 o).be.trans ((OE o).below (B := w.heap.size) (by intro b _ e; have e : b = w.heap.size := e; omega) (L8 o).be.size)
        have HXE := hide XE
        have HBE := hide BE
        clear L7 L8 hV7 hb7 HC XE OE BE
        go_wp2
        refine bodyPost_ret (results_cell4 rfl _ _ w.heap.size 25 _ _ rfl (HXE.out _) Try.underlying25 rfl (by kernel_rfl)) rfl ?_
        exact RefP_no HR.out (HBE.out _) (leaf (by decide) (by decide) (by decide))
      | ok q3 =>
        obtain ⟨v, at2, q⟩ := q3
        rw [hv] at hcall
        have hnext : rows bs (rd bs d) false (m - j) vs ks p' at' = rows bs (rd bs d) false (m - (j + 1)) (vs ++ [v]) ks q at2 := by rw [hJ, show m - (j + 1) = J by omega]; exact rows_next hk0 hv
        have hN := hE.out.trans hnext
        have hone := rd_one bs (by rw [hlen]; omega) d p' at' v at2 q hv
        have hge := may_ge _ _ _ _ hone.1
        have hat2 : at2 ≤ n := by
          have e := len_of hone.2.1
          have := hone.2.2.1
          rw [hlen] at e
          omega
        have HN := hide hN
        have HC := hide hcall
        clear hnext hN hone hE hcall hv hJ hk0 XB YB y0 y1 y2 y3 y4 y5 yf
        go_wp2_with fail
        refine HC.out.mono ?_
        rintro e w7 ⟨hb7, cs, rfl, hV7⟩
        obtain ⟨k2, bb2, m2, s2, AL2, nL2, cL2, AK2, nK2, cK2, rfl⟩ := hV7.shape
        have L7 := hL.out.step hb7
        have f4 : ∀ o, (w7.alloc o).cell? ⟨w.heap.size + 1, 4, none⟩ = some (.slice AL nL cL) := fun o => blkR (L7.step ((Below.refl w7.heap.size w7).alloc (Nat.le_refl _) o)).y rfl
        go_wp2_with (at_builtin; refine pause ?_)
        refine unpause ?_
        have L9 := (L7.step ((Below.refl w7.heap.size w7).alloc (Nat.le_refl _) (.cells #[.int .i64 k2, .bool bb2, .int .i64 m2, .string s2, .slice AL2 nL2 cL2, .slice AK2 nK2 cK2] 25))).step ((Below.refl _ _).alloc (Nat.le_refl _) (.cells #[.int .i64 k2, .bool bb2, .int .i64 m2, .string s2, .slice AL2 nL2 cL2, .slice AK2 nK2 cK2] 25))
        have RL := Reads.lit (w7.alloc (.cells #[.int .i64 k2, .bool bb2, .int .i64 m2, .string s2, .slice AL2 nL2 cL2, .slice AK2 nK2 cK2] 25)) #[.int .i64 k2, .bool bb2, .int .i64 m2, .string s2, .slice AL2 nL2 cL2, .slice AK2 nK2 cK2] 25 1 6 rfl
        rw [show (w7.alloc (.cells #[.int .i64 k2, .bool bb2, .int .i64 m2, .string s2, .slice AL2 nL2 cL2, .slice AK2 nK2 cK2] 25)).heap.size = w7.heap.size + 1 by simp] at RL
        refine wpList_app el22 (.tmp 111) (.tmp 113) L9.ol RL hV7.oneCell (N := nL + 1) rfl rfl (by unfold maxLen; omega) (by omega) L9.be.size rfl rfl rfl rfl ?_
        intro A9 c9 w9 ho9 hg9 hb9
        have hX := hL.out.x.lt
        have hY := hL.out.y.lt
        have hsz := hL.out.be.size
        have LV := L9.val ((hV7.alloc _).alloc _) ⟨hX, hY, hsz, fun b hb => own_lt hL.out.ol hb, fun b hb => own_lt hL.out.ok hb⟩ ho9 hg9 hb9
        have G9 := L9.y.grown hg9 (fun e => L9.lx.2.1 e.symm)
        have g9 : w9.cell? ⟨w.heap.size + 1, 4, none⟩ = some (.slice AL nL cL) := blkR G9 rfl
        have q9 : w9.frozen? ⟨w.heap.size + 1, 4, none⟩ = false := G9.frozen 4
        have HLV := hide LV
        clear RL LV L9 L7 hV7 hb7 ho9 hg9 hb9 G9 HC f4
        go_wp2_with fail
        go_roundg (m - (j + 1))
        case measure => omega
        case rel => exact ⟨j + 1, at2, q, A9, nL + 1, c9, AK, nK, cK, vs ++ [v], ks, _, rfl, rfl, rfl, by go_num, by omega, hat2, hge.2, by omega, HN, HLV⟩
    · have e1 : decide ((j : Int) < (m : Int)) = false := by simp; omega
      have e2 : ¬ j < m := by omega
      have e3 : ¬ (j : Int) < (m : Int) := by omega
      have hj0 : m - j = 0 := by omega
      have hfin : rowsR bs (rd bs d) false m p at_ = .ok (.mk 4 false 0 .empty vs ks, at', p') := by unfold rowsR; rw [hE.out, hj0, rows]; rfl
      have HR := hide hfin
      have f0 : wr.cell? ⟨w.heap.size + 1, 0, none⟩ = some (.int .i64 4) := blkR YB rfl
      have f1 : wr.cell? ⟨w.heap.size + 1, 1, none⟩ = some (.bool false) := blkR YB rfl
      have f2 : wr.cell? ⟨w.heap.size + 1, 2, none⟩ = some (.int .i64 0) := blkR YB rfl
      have f3 : wr.cell? ⟨w.heap.size + 1, 3, none⟩ = some (.string ⟨#[]⟩) := blkR YB rfl
      have f4 : wr.cell? ⟨w.heap.size + 1, 4, none⟩ = some (.slice AL nL cL) := blkR YB rfl
      have f5 : wr.cell? ⟨w.heap.size + 1, 5, none⟩ = some (.slice AK nK cK) := blkR YB rfl
      have XE := set6 XB (.int .i64 4) (.bool false) (.int .i64 0) (.string ⟨#[]⟩) (.slice AL nL cL) (.slice AK nK cK)
      have OE := only6 (Only.refl (fun b => b = w.heap.size) wr) (.inl rfl) (.int .i64 4) (.bool false) (.int .i64 0) (.string ⟨#[]⟩) (.slice AL nL cL) (.slice AK nK cK)
      have HLE := hide (hL.out.fin (by decide) OE)
      have HXE := hide XE
      clear hfin OE XB YB XE
      clear hE hjm hge hj0
      go_wp2
      refine bodyPost_ret (results_cell4 rfl _ _ w.heap.size 25 _ _ rfl HXE.out Try.underlying25 rfl (by kernel_rfl)) rfl ?_
      exact RefP_ok HR.out HLE.out.2 HLE.out.1 (by simp) (by simp)
end Go.Proofs.Ytaapbiiiepdopaa
