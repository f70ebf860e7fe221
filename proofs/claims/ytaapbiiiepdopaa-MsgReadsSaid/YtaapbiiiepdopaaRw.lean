/- A reader of bytes: a value without parts. -/
import Derived.Test.YtaapbiiiepdopaaRv
import Derived.Laws.DeepNot64
namespace Go.Proofs.Ytaapbiiiepdopaa
open Go.RowKit Mem
set_option linter.unusedVariables false

theorem w64 (z : Int) (h : -9223372036854775808 ≤ z ∧ z ≤ 9223372036854775807) : wrap64 z = z := by unfold wrap64; omega
theorem xor0 (a : Nat) (ha : a < 9223372036854775808) : bits .xor .i64 (a : Int) 0 = (a : Int) := by
  show IntKind.i64.wrap ((BitVec.ofInt 64 (a : Int) ^^^ BitVec.ofInt 64 0).toNat : Int) = _
  have h1 : BitVec.ofInt 64 0 = 0#64 := by decide
  rw [h1, BitVec.xor_zero, ofInt_u64 a (by omega)]
  simp [IntKind.wrap, IntKind.bits, IntKind.signed]
  omega
theorem unzig {m : Nat} (h : m < 18446744073709551616) : bits .xor .i64 ((m : Int) / 2) (wrap64 (-wrap64 (bits .and .u64 (m : Int) 1))) = uz m := by
  have h1 : bits .and .u64 (m : Int) 1 = ((m % 2 : Nat) : Int) := by
    have := u64_and_nat m 1 h (by decide)
    rw [show ((1 : Nat) : Int) = 1 from rfl] at this
    rw [this, Nat.and_one_is_mod]
  rw [h1, w64 ((m % 2 : Nat) : Int) (by omega), w64 (-((m % 2 : Nat) : Int)) (by omega)]
  unfold uz
  by_cases hm : m % 2 = 1
  · rw [if_pos hm, hm, show (-((1 : Nat) : Int)) = -1 from rfl, show bits .xor .i64 ((m : Int) / 2) (-1) = bits .xor .i64 (-1) ((m : Int) / 2) by simp only [bits, BitVec.xor_comm], show ((m : Int) / 2) = ((m / 2 : Nat) : Int) by omega, i64_not _ (by omega)]
    omega
  · rw [if_neg hm, show m % 2 = 0 by omega, show (-((0 : Nat) : Int)) = 0 from rfl, show ((m : Int) / 2) = ((m / 2 : Nat) : Int) by omega]
    exact xor0 (m / 2) (by omega)

set_option maxHeartbeats 600000 in
set_option maxRecDepth 100000 in
theorem val_t0 {w : World} {g n c at_ p d : Nat} {A : Option Addr} {bs : List UInt8} (h : RS w g A n c bs at_ p) (hp : p + 1 ≤ 4096) (hd : d + 1 ≤ 32) (hx : bs[at_]? = some 0) :
    Calls Try.prog 41 #[.pointer (some ⟨g, 0, none⟩), .int .i64 ((d + 1 : Nat) : Int)] w fun e w' => ValP (rd bs (d + 1) p at_) g A n c bs w e w' := by
  have hr : rd bs (d + 1) p at_ = rdT bs (rd bs d) 0 (p + 1) (at_ + 1) := by
    rw [rd, hx]
    dsimp only
    rw [if_neg (by rw [show (0 : UInt8).toNat = 0 from rfl]; omega)]
    rfl
  have hr2 : rd bs (d + 1) p at_ = .ok (.mk 0 false 0 .empty [] [], at_ + 1, p + 1) := by rw [hr]; rfl
  have HR := hide hr2
  clear hr hr2
  have e2 : decide ((0 : Int) < ((d + 1 : Nat) : Int)) = true := decide_eq_true (by omega)
  have e2' : decide ((0 : Int) < (d : Int) + 1) = true := decide_eq_true (by omega)
  have e3 : decide ((p : Int) + 1 ≤ 4096) = true := decide_eq_true (by omega)
  have H := hide h
  have hlt := h.blk.lt
  have H0 := h.grow ((Below.refl w.heap.size w).alloc (Nat.le_refl _) (.cells #[.int .i64 0, .bool false, .int .i64 0, .string ⟨#[]⟩, .slice none 0 0, .slice none 0 0] 25))
  have T0 : Rt g w (w.alloc (.cells #[.int .i64 0, .bool false, .int .i64 0, .string ⟨#[]⟩, .slice none 0 0, .slice none 0 0] 25)) := (Rt.refl g w).alloc _
  have X0 := Blk.new w 25 #[.int .i64 0, .bool false, .int .i64 0, .string ⟨#[]⟩, .slice none 0 0, .slice none 0 0]
  clear h
  go_enter Try.func41, Try.ntmps41
  go_wp2_with fail
  generalize w.alloc (.cells #[.int .i64 0, .bool false, .int .i64 0, .string ⟨#[]⟩, .slice none 0 0, .slice none 0 0] 25) = W0 at H0 T0 X0 ⊢
  generalize hX : w.heap.size = X at X0 ⊢
  have hXg : X ≠ g := by omega
  have HX := hide hX
  clear hX
  refine (next_ok H0 hx).mono ?_
  rintro e w1 ⟨he, hR1, hT1⟩
  rw [show (((0 : UInt8).toNat : Nat) : Int) = 0 by decide] at he
  subst he
  have X1 := X0.only hT1 hXg
  have T1 := T0.trans hT1
  have f2 : w1.cell? ⟨g, 2, none⟩ = some (.int .i64 (p : Int)) := blkR hR1.blk rfl
  have p2 : w1.frozen? ⟨g, 2, none⟩ = false := hR1.blk.frozen 2
  clear H0 T0 X0 hT1
  go_wp2_with fail
  have hB := hR1.blk.set_ 2 (.int .i64 ((p : Int) + 1))
  have hO : Only (fun k => k = g) w1 (w1.setCell ⟨g, 2, none⟩ (.int .i64 ((p : Int) + 1))) := (Only.refl (fun k => k = g) w1).setCell (p := ⟨g, 2, none⟩) (.inl rfl) _
  have hR2 : RS (w1.setCell ⟨g, 2, none⟩ (.int .i64 ((p : Int) + 1))) g A n c bs (at_ + 1) (p + 1) := ⟨by simpa using hB, hR1.rd.only hO (fun k _ hk => by omega) (Nat.le_of_lt hR1.blk.lt), hR1.le, hR1.nc, hR1.cm⟩
  have X2 := X1.only hO hXg
  have T2 : Rt g w _ := T1.trans hO
  generalize w1.setCell ⟨g, 2, none⟩ (.int .i64 ((p : Int) + 1)) = W at hR2 X2 T2 ⊢
  clear hR1 X1 T1 hB hO f2 p2
  refine (must_ok _ _ _).mono ?_
  rintro e w5 ⟨rfl, rfl⟩
  have y0 : w5.cell? ⟨X, 0, none⟩ = some (.int .i64 0) := blkR X2 rfl
  have y1 : w5.cell? ⟨X, 1, none⟩ = some (.bool false) := blkR X2 rfl
  have y2 : w5.cell? ⟨X, 2, none⟩ = some (.int .i64 0) := blkR X2 rfl
  have y3 : w5.cell? ⟨X, 3, none⟩ = some (.string ⟨#[]⟩) := blkR X2 rfl
  have y4 : w5.cell? ⟨X, 4, none⟩ = some (.slice none 0 0) := blkR X2 rfl
  have y5 : w5.cell? ⟨X, 5, none⟩ = some (.slice none 0 0) := blkR X2 rfl
  have yf : ∀ i, w5.frozen? ⟨X, i, none⟩ = false := fun i => X2.frozen i
  have XE := set6 X2 (.int .i64 0) (.bool false) (.int .i64 0) (.string ⟨#[]⟩) (.slice none 0 0) (.slice none 0 0)
  have OE := only6 (Only.refl (fun k => w.heap.size ≤ k) w5) (.inl (by rw [HX.out]; exact Nat.le_refl _)) (.int .i64 0) (.bool false) (.int .i64 0) (.string ⟨#[]⟩) (.slice none 0 0) (.slice none 0 0)
  go_wp2
  refine bodyPost_ret (results_cell1 rfl _ _ X 25 _ _ rfl XE Try.underlying25 rfl (by kernel_rfl)) rfl ?_
  exact ValP_ok HR.out (leaf (by decide) (by decide) (by decide)) (hR2.only OE (fun b hb => by have := HX.out; omega)) (rt_wk T2 OE)
set_option maxHeartbeats 600000 in
set_option maxRecDepth 100000 in
theorem val_t1 {w : World} {g n c at_ p d : Nat} {A : Option Addr} {bs : List UInt8} (h : RS w g A n c bs at_ p) (hp : p + 1 ≤ 4096) (hd : d + 1 ≤ 32) (hx : bs[at_]? = some 1) :
    Calls Try.prog 41 #[.pointer (some ⟨g, 0, none⟩), .int .i64 ((d + 1 : Nat) : Int)] w fun e w' => ValP (rd bs (d + 1) p at_) g A n c bs w e w' := by
  have hr : rd bs (d + 1) p at_ = rdT bs (rd bs d) 1 (p + 1) (at_ + 1) := by
    rw [rd, hx]
    dsimp only
    rw [if_neg (by rw [show (1 : UInt8).toNat = 1 from rfl]; omega)]
    rfl
  have hr2 : rd bs (d + 1) p at_ = .ok (.mk 1 false 0 .empty [] [], at_ + 1, p + 1) := by rw [hr]; rfl
  have HR := hide hr2
  clear hr hr2
  have e2 : decide ((0 : Int) < ((d + 1 : Nat) : Int)) = true := decide_eq_true (by omega)
  have e2' : decide ((0 : Int) < (d : Int) + 1) = true := decide_eq_true (by omega)
  have e3 : decide ((p : Int) + 1 ≤ 4096) = true := decide_eq_true (by omega)
  have H := hide h
  have hlt := h.blk.lt
  have H0 := h.grow ((Below.refl w.heap.size w).alloc (Nat.le_refl _) (.cells #[.int .i64 0, .bool false, .int .i64 0, .string ⟨#[]⟩, .slice none 0 0, .slice none 0 0] 25))
  have T0 : Rt g w (w.alloc (.cells #[.int .i64 0, .bool false, .int .i64 0, .string ⟨#[]⟩, .slice none 0 0, .slice none 0 0] 25)) := (Rt.refl g w).alloc _
  have X0 := Blk.new w 25 #[.int .i64 0, .bool false, .int .i64 0, .string ⟨#[]⟩, .slice none 0 0, .slice none 0 0]
  clear h
  go_enter Try.func41, Try.ntmps41
  go_wp2_with fail
  generalize w.alloc (.cells #[.int .i64 0, .bool false, .int .i64 0, .string ⟨#[]⟩, .slice none 0 0, .slice none 0 0] 25) = W0 at H0 T0 X0 ⊢
  generalize hX : w.heap.size = X at X0 ⊢
  have hXg : X ≠ g := by omega
  have HX := hide hX
  clear hX
  refine (next_ok H0 hx).mono ?_
  rintro e w1 ⟨he, hR1, hT1⟩
  rw [show (((1 : UInt8).toNat : Nat) : Int) = 1 by decide] at he
  subst he
  have X1 := X0.only hT1 hXg
  have T1 := T0.trans hT1
  have f2 : w1.cell? ⟨g, 2, none⟩ = some (.int .i64 (p : Int)) := blkR hR1.blk rfl
  have p2 : w1.frozen? ⟨g, 2, none⟩ = false := hR1.blk.frozen 2
  clear H0 T0 X0 hT1
  go_wp2_with fail
  have hB := hR1.blk.set_ 2 (.int .i64 ((p : Int) + 1))
  have hO : Only (fun k => k = g) w1 (w1.setCell ⟨g, 2, none⟩ (.int .i64 ((p : Int) + 1))) := (Only.refl (fun k => k = g) w1).setCell (p := ⟨g, 2, none⟩) (.inl rfl) _
  have hR2 : RS (w1.setCell ⟨g, 2, none⟩ (.int .i64 ((p : Int) + 1))) g A n c bs (at_ + 1) (p + 1) := ⟨by simpa using hB, hR1.rd.only hO (fun k _ hk => by omega) (Nat.le_of_lt hR1.blk.lt), hR1.le, hR1.nc, hR1.cm⟩
  have X2 := X1.only hO hXg
  have T2 : Rt g w _ := T1.trans hO
  generalize w1.setCell ⟨g, 2, none⟩ (.int .i64 ((p : Int) + 1)) = W at hR2 X2 T2 ⊢
  clear hR1 X1 T1 hB hO f2 p2
  refine (must_ok _ _ _).mono ?_
  rintro e w5 ⟨rfl, rfl⟩
  have y0 : w5.cell? ⟨X, 0, none⟩ = some (.int .i64 0) := blkR X2 rfl
  have y1 : w5.cell? ⟨X, 1, none⟩ = some (.bool false) := blkR X2 rfl
  have y2 : w5.cell? ⟨X, 2, none⟩ = some (.int .i64 0) := blkR X2 rfl
  have y3 : w5.cell? ⟨X, 3, none⟩ = some (.string ⟨#[]⟩) := blkR X2 rfl
  have y4 : w5.cell? ⟨X, 4, none⟩ = some (.slice none 0 0) := blkR X2 rfl
  have y5 : w5.cell? ⟨X, 5, none⟩ = some (.slice none 0 0) := blkR X2 rfl
  have yf : ∀ i, w5.frozen? ⟨X, i, none⟩ = false := fun i => X2.frozen i
  have XE := set6 X2 (.int .i64 1) (.bool false) (.int .i64 0) (.string ⟨#[]⟩) (.slice none 0 0) (.slice none 0 0)
  have OE := only6 (Only.refl (fun k => w.heap.size ≤ k) w5) (.inl (by rw [HX.out]; exact Nat.le_refl _)) (.int .i64 1) (.bool false) (.int .i64 0) (.string ⟨#[]⟩) (.slice none 0 0) (.slice none 0 0)
  go_wp2
  refine bodyPost_ret (results_cell1 rfl _ _ X 25 _ _ rfl XE Try.underlying25 rfl (by kernel_rfl)) rfl ?_
  exact ValP_ok HR.out (leaf (by decide) (by decide) (by decide)) (hR2.only OE (fun b hb => by have := HX.out; omega)) (rt_wk T2 OE)
set_option maxHeartbeats 600000 in
set_option maxRecDepth 100000 in
theorem val_t2 {w : World} {g n c at_ p d : Nat} {A : Option Addr} {bs : List UInt8} (h : RS w g A n c bs at_ p) (hp : p + 1 ≤ 4096) (hd : d + 1 ≤ 32) (hx : bs[at_]? = some 2) :
    Calls Try.prog 41 #[.pointer (some ⟨g, 0, none⟩), .int .i64 ((d + 1 : Nat) : Int)] w fun e w' => ValP (rd bs (d + 1) p at_) g A n c bs w e w' := by
  have hr : rd bs (d + 1) p at_ = rdT bs (rd bs d) 2 (p + 1) (at_ + 1) := by
    rw [rd, hx]
    dsimp only
    rw [if_neg (by rw [show (2 : UInt8).toNat = 2 from rfl]; omega)]
    rfl
  have hr2 : rd bs (d + 1) p at_ = .ok (.mk 1 true 0 .empty [] [], at_ + 1, p + 1) := by rw [hr]; rfl
  have HR := hide hr2
  clear hr hr2
  have e2 : decide ((0 : Int) < ((d + 1 : Nat) : Int)) = true := decide_eq_true (by omega)
  have e2' : decide ((0 : Int) < (d : Int) + 1) = true := decide_eq_true (by omega)
  have e3 : decide ((p : Int) + 1 ≤ 4096) = true := decide_eq_true (by omega)
  have H := hide h
  have hlt := h.blk.lt
  have H0 := h.grow ((Below.refl w.heap.size w).alloc (Nat.le_refl _) (.cells #[.int .i64 0, .bool false, .int .i64 0, .string ⟨#[]⟩, .slice none 0 0, .slice none 0 0] 25))
  have T0 : Rt g w (w.alloc (.cells #[.int .i64 0, .bool false, .int .i64 0, .string ⟨#[]⟩, .slice none 0 0, .slice none 0 0] 25)) := (Rt.refl g w).alloc _
  have X0 := Blk.new w 25 #[.int .i64 0, .bool false, .int .i64 0, .string ⟨#[]⟩, .slice none 0 0, .slice none 0 0]
  clear h
  go_enter Try.func41, Try.ntmps41
  go_wp2_with fail
  generalize w.alloc (.cells #[.int .i64 0, .bool false, .int .i64 0, .string ⟨#[]⟩, .slice none 0 0, .slice none 0 0] 25) = W0 at H0 T0 X0 ⊢
  generalize hX : w.heap.size = X at X0 ⊢
  have hXg : X ≠ g := by omega
  have HX := hide hX
  clear hX
  refine (next_ok H0 hx).mono ?_
  rintro e w1 ⟨he, hR1, hT1⟩
  rw [show (((2 : UInt8).toNat : Nat) : Int) = 2 by decide] at he
  subst he
  have X1 := X0.only hT1 hXg
  have T1 := T0.trans hT1
  have f2 : w1.cell? ⟨g, 2, none⟩ = some (.int .i64 (p : Int)) := blkR hR1.blk rfl
  have p2 : w1.frozen? ⟨g, 2, none⟩ = false := hR1.blk.frozen 2
  clear H0 T0 X0 hT1
  go_wp2_with fail
  have hB := hR1.blk.set_ 2 (.int .i64 ((p : Int) + 1))
  have hO : Only (fun k => k = g) w1 (w1.setCell ⟨g, 2, none⟩ (.int .i64 ((p : Int) + 1))) := (Only.refl (fun k => k = g) w1).setCell (p := ⟨g, 2, none⟩) (.inl rfl) _
  have hR2 : RS (w1.setCell ⟨g, 2, none⟩ (.int .i64 ((p : Int) + 1))) g A n c bs (at_ + 1) (p + 1) := ⟨by simpa using hB, hR1.rd.only hO (fun k _ hk => by omega) (Nat.le_of_lt hR1.blk.lt), hR1.le, hR1.nc, hR1.cm⟩
  have X2 := X1.only hO hXg
  have T2 : Rt g w _ := T1.trans hO
  generalize w1.setCell ⟨g, 2, none⟩ (.int .i64 ((p : Int) + 1)) = W at hR2 X2 T2 ⊢
  clear hR1 X1 T1 hB hO f2 p2
  refine (must_ok _ _ _).mono ?_
  rintro e w5 ⟨rfl, rfl⟩
  have y0 : w5.cell? ⟨X, 0, none⟩ = some (.int .i64 0) := blkR X2 rfl
  have y1 : w5.cell? ⟨X, 1, none⟩ = some (.bool false) := blkR X2 rfl
  have y2 : w5.cell? ⟨X, 2, none⟩ = some (.int .i64 0) := blkR X2 rfl
  have y3 : w5.cell? ⟨X, 3, none⟩ = some (.string ⟨#[]⟩) := blkR X2 rfl
  have y4 : w5.cell? ⟨X, 4, none⟩ = some (.slice none 0 0) := blkR X2 rfl
  have y5 : w5.cell? ⟨X, 5, none⟩ = some (.slice none 0 0) := blkR X2 rfl
  have yf : ∀ i, w5.frozen? ⟨X, i, none⟩ = false := fun i => X2.frozen i
  have XE := set6 X2 (.int .i64 1) (.bool true) (.int .i64 0) (.string ⟨#[]⟩) (.slice none 0 0) (.slice none 0 0)
  have OE := only6 (Only.refl (fun k => w.heap.size ≤ k) w5) (.inl (by rw [HX.out]; exact Nat.le_refl _)) (.int .i64 1) (.bool true) (.int .i64 0) (.string ⟨#[]⟩) (.slice none 0 0) (.slice none 0 0)
  go_wp2
  refine bodyPost_ret (results_cell1 rfl _ _ X 25 _ _ rfl XE Try.underlying25 rfl (by kernel_rfl)) rfl ?_
  exact ValP_ok HR.out (leaf (by decide) (by decide) (by decide)) (hR2.only OE (fun b hb => by have := HX.out; omega)) (rt_wk T2 OE)
set_option maxHeartbeats 600000 in
set_option maxRecDepth 100000 in
theorem val_t3 {w : World} {g n c at_ p d : Nat} {A : Option Addr} {bs : List UInt8} (h : RS w g A n c bs at_ p) (hp : p + 1 ≤ 4096) (hd : d + 1 ≤ 32) (hx : bs[at_]? = some 3) :
    Calls Try.prog 41 #[.pointer (some ⟨g, 0, none⟩), .int .i64 ((d + 1 : Nat) : Int)] w fun e w' => ValP (rd bs (d + 1) p at_) g A n c bs w e w' := by
  have hr : rd bs (d + 1) p at_ = rdT bs (rd bs d) 3 (p + 1) (at_ + 1) := by
    rw [rd, hx]
    dsimp only
    rw [if_neg (by rw [show (3 : UInt8).toNat = 3 from rfl]; omega)]
    rfl
  have HQ := hide hr
  clear hr
  have e2 : decide ((0 : Int) < ((d + 1 : Nat) : Int)) = true := decide_eq_true (by omega)
  have e2' : decide ((0 : Int) < (d : Int) + 1) = true := decide_eq_true (by omega)
  have e3 : decide ((p : Int) + 1 ≤ 4096) = true := decide_eq_true (by omega)
  have H := hide h
  have hlt := h.blk.lt
  have H0 := h.grow ((Below.refl w.heap.size w).alloc (Nat.le_refl _) (.cells #[.int .i64 0, .bool false, .int .i64 0, .string ⟨#[]⟩, .slice none 0 0, .slice none 0 0] 25))
  have T0 : Rt g w (w.alloc (.cells #[.int .i64 0, .bool false, .int .i64 0, .string ⟨#[]⟩, .slice none 0 0, .slice none 0 0] 25)) := (Rt.refl g w).alloc _
  have X0 := Blk.new w 25 #[.int .i64 0, .bool false, .int .i64 0, .string ⟨#[]⟩, .slice none 0 0, .slice none 0 0]
  clear h
  go_enter Try.func41, Try.ntmps41
  go_wp2_with fail
  generalize w.alloc (.cells #[.int .i64 0, .bool false, .int .i64 0, .string ⟨#[]⟩, .slice none 0 0, .slice none 0 0] 25) = W0 at H0 T0 X0 ⊢
  generalize hX : w.heap.size = X at X0 ⊢
  have hXg : X ≠ g := by omega
  have HX := hide hX
  clear hX
  refine (next_ok H0 hx).mono ?_
  rintro e w1 ⟨he, hR1, hT1⟩
  rw [show (((3 : UInt8).toNat : Nat) : Int) = 3 by decide] at he
  subst he
  have X1 := X0.only hT1 hXg
  have T1 := T0.trans hT1
  have f2 : w1.cell? ⟨g, 2, none⟩ = some (.int .i64 (p : Int)) := blkR hR1.blk rfl
  have p2 : w1.frozen? ⟨g, 2, none⟩ = false := hR1.blk.frozen 2
  clear H0 T0 X0 hT1
  go_wp2_with fail
  have hB := hR1.blk.set_ 2 (.int .i64 ((p : Int) + 1))
  have hO : Only (fun k => k = g) w1 (w1.setCell ⟨g, 2, none⟩ (.int .i64 ((p : Int) + 1))) := (Only.refl (fun k => k = g) w1).setCell (p := ⟨g, 2, none⟩) (.inl rfl) _
  have hR2 : RS (w1.setCell ⟨g, 2, none⟩ (.int .i64 ((p : Int) + 1))) g A n c bs (at_ + 1) (p + 1) := ⟨by simpa using hB, hR1.rd.only hO (fun k _ hk => by omega) (Nat.le_of_lt hR1.blk.lt), hR1.le, hR1.nc, hR1.cm⟩
  have X2 := X1.only hO hXg
  have T2 : Rt g w _ := T1.trans hO
  generalize w1.setCell ⟨g, 2, none⟩ (.int .i64 ((p : Int) + 1)) = W at hR2 X2 T2 ⊢
  clear hR1 X1 T1 hB hO f2 p2
  refine (must_ok _ _ _).mono ?_
  rintro e w5 ⟨rfl, rfl⟩
  go_wp2_with fail
  refine (rnum_any hR2).mono ?_
  intro e w6 he
  cases hn : rn 0 (bs.drop (at_ + 1)) with
  | error z =>
    rw [hn] at he
    obtain ⟨rfl, ht⟩ := he
    exact ⟨rfl, ValP_no (by rw [HQ.out, rdT, if_neg (by decide), if_neg (by decide), hn]) (T2.trans ht)⟩
  | ok q =>
    obtain ⟨m, k⟩ := q
    rw [hn] at he
    obtain ⟨rfl, hR3, ht⟩ := he
    have hm64 := (rn_of hn).1
    have hfin : rd bs (d + 1) p at_ = .ok (.mk 2 false (uz m) .empty [] [], at_ + 1 + k, p + 1) := by rw [HQ.out, rdT, if_neg (by decide), if_neg (by decide), hn]; rfl
    have HR := hide hfin
    have X3 := X2.only ht hXg
    have T3 := T2.trans ht
    have hz := unzig hm64
    have hu := uz_in hm64
    clear hn hfin X2 hR2 ht T2
    have y0 : w6.cell? ⟨X, 0, none⟩ = some (.int .i64 0) := blkR X3 rfl
    have y1 : w6.cell? ⟨X, 1, none⟩ = some (.bool false) := blkR X3 rfl
    have y2 : w6.cell? ⟨X, 2, none⟩ = some (.int .i64 0) := blkR X3 rfl
    have y3 : w6.cell? ⟨X, 3, none⟩ = some (.string ⟨#[]⟩) := blkR X3 rfl
    have y4 : w6.cell? ⟨X, 4, none⟩ = some (.slice none 0 0) := blkR X3 rfl
    have y5 : w6.cell? ⟨X, 5, none⟩ = some (.slice none 0 0) := blkR X3 rfl
    have yf : ∀ i, w6.frozen? ⟨X, i, none⟩ = false := fun i => X3.frozen i
    have XE := set6 X3 (.int .i64 2) (.bool false) (.int .i64 (uz m)) (.string ⟨#[]⟩) (.slice none 0 0) (.slice none 0 0)
    have OE := only6 (Only.refl (fun k => w.heap.size ≤ k) w6) (.inl (by rw [HX.out]; exact Nat.le_refl _)) (.int .i64 2) (.bool false) (.int .i64 (uz m)) (.string ⟨#[]⟩) (.slice none 0 0) (.slice none 0 0)
    go_wp2
    refine bodyPost_ret (results_cell1 rfl _ _ X 25 _ _ rfl XE Try.underlying25 rfl (by kernel_rfl)) rfl ?_
    exact ValP_ok HR.out (leaf hu (by decide) (by decide)) (hR3.only OE (fun b hb => by have := HX.out; omega)) (rt_wk T3 OE)
set_option maxHeartbeats 600000 in
set_option maxRecDepth 100000 in
theorem val_t4 {w : World} {g n c at_ p d : Nat} {A : Option Addr} {bs : List UInt8} (h : RS w g A n c bs at_ p) (hp : p + 1 ≤ 4096) (hd : d + 1 ≤ 32) (hx : bs[at_]? = some 4) :
    Calls Try.prog 41 #[.pointer (some ⟨g, 0, none⟩), .int .i64 ((d + 1 : Nat) : Int)] w fun e w' => ValP (rd bs (d + 1) p at_) g A n c bs w e w' := by
  have hr : rd bs (d + 1) p at_ = rdT bs (rd bs d) 4 (p + 1) (at_ + 1) := by
    rw [rd, hx]
    dsimp only
    rw [if_neg (by rw [show (4 : UInt8).toNat = 4 from rfl]; omega)]
    rfl
  have HQ := hide hr
  clear hr
  have e2 : decide ((0 : Int) < ((d + 1 : Nat) : Int)) = true := decide_eq_true (by omega)
  have e2' : decide ((0 : Int) < (d : Int) + 1) = true := decide_eq_true (by omega)
  have e3 : decide ((p : Int) + 1 ≤ 4096) = true := decide_eq_true (by omega)
  have H := hide h
  have hlt := h.blk.lt
  have H0 := h.grow ((Below.refl w.heap.size w).alloc (Nat.le_refl _) (.cells #[.int .i64 0, .bool false, .int .i64 0, .string ⟨#[]⟩, .slice none 0 0, .slice none 0 0] 25))
  have T0 : Rt g w (w.alloc (.cells #[.int .i64 0, .bool false, .int .i64 0, .string ⟨#[]⟩, .slice none 0 0, .slice none 0 0] 25)) := (Rt.refl g w).alloc _
  have X0 := Blk.new w 25 #[.int .i64 0, .bool false, .int .i64 0, .string ⟨#[]⟩, .slice none 0 0, .slice none 0 0]
  clear h
  go_enter Try.func41, Try.ntmps41
  go_wp2_with fail
  generalize w.alloc (.cells #[.int .i64 0, .bool false, .int .i64 0, .string ⟨#[]⟩, .slice none 0 0, .slice none 0 0] 25) = W0 at H0 T0 X0 ⊢
  generalize hX : w.heap.size = X at X0 ⊢
  have hXg : X ≠ g := by omega
  have HX := hide hX
  clear hX
  refine (next_ok H0 hx).mono ?_
  rintro e w1 ⟨he, hR1, hT1⟩
  rw [show (((4 : UInt8).toNat : Nat) : Int) = 4 by decide] at he
  subst he
  have X1 := X0.only hT1 hXg
  have T1 := T0.trans hT1
  have f2 : w1.cell? ⟨g, 2, none⟩ = some (.int .i64 (p : Int)) := blkR hR1.blk rfl
  have p2 : w1.frozen? ⟨g, 2, none⟩ = false := hR1.blk.frozen 2
  clear H0 T0 X0 hT1
  go_wp2_with fail
  have hB := hR1.blk.set_ 2 (.int .i64 ((p : Int) + 1))
  have hO : Only (fun k => k = g) w1 (w1.setCell ⟨g, 2, none⟩ (.int .i64 ((p : Int) + 1))) := (Only.refl (fun k => k = g) w1).setCell (p := ⟨g, 2, none⟩) (.inl rfl) _
  have hR2 : RS (w1.setCell ⟨g, 2, none⟩ (.int .i64 ((p : Int) + 1))) g A n c bs (at_ + 1) (p + 1) := ⟨by simpa using hB, hR1.rd.only hO (fun k _ hk => by omega) (Nat.le_of_lt hR1.blk.lt), hR1.le, hR1.nc, hR1.cm⟩
  have X2 := X1.only hO hXg
  have T2 : Rt g w _ := T1.trans hO
  generalize w1.setCell ⟨g, 2, none⟩ (.int .i64 ((p : Int) + 1)) = W at hR2 X2 T2 ⊢
  clear hR1 X1 T1 hB hO f2 p2
  refine (must_ok _ _ _).mono ?_
  rintro e w5 ⟨rfl, rfl⟩
  go_wp2_with fail
  refine (rnum_any hR2).mono ?_
  intro e w6 he
  cases hn : rn 0 (bs.drop (at_ + 1)) with
  | error z =>
    rw [hn] at he
    obtain ⟨rfl, ht⟩ := he
    exact ⟨rfl, ValP_no (by rw [HQ.out, rdT, if_neg (by decide), if_neg (by decide), hn]) (T2.trans ht)⟩
  | ok q =>
    obtain ⟨m, k⟩ := q
    rw [hn] at he
    obtain ⟨rfl, hR3, ht⟩ := he
    have hm64 := (rn_of hn).1
    have X3 := X2.only ht hXg
    have T3 := T2.trans ht
    have hl := H.out.len
    by_cases hb : bs.length - (at_ + 1 + k) < m
    · have hfin : rd bs (d + 1) p at_ = .error 22 := by rw [HQ.out, rdT, if_neg (by decide), if_neg (by decide), hn]; dsimp only; rw [if_neg (by decide), if_pos rfl, if_pos hb]
      have HR := hide hfin
      have hb' : n - (at_ + 1 + k) < m := by omega
      clear hn hfin X2 hR2 ht T2 hl hb
      go_wp2_with fail
      refine (text_no hR3 hb' hm64).mono ?_
      rintro e w7 ⟨he, ht4⟩
      have he' : e = .panicked [{ v := .iface 28 (.int .i64 22), recovered := false }] := he
      subst he'
      exact ⟨rfl, ValP_no HR.out (T3.trans ht4)⟩
    · have hfin : rd bs (d + 1) p at_ = .ok (.mk 3 false 0 (ofL ((bs.drop (at_ + 1 + k)).take m)) [] [], at_ + 1 + k + m, p + 1) := by rw [HQ.out, rdT, if_neg (by decide), if_neg (by decide), hn]; dsimp only; rw [if_neg (by decide), if_pos rfl, if_neg hb]
      have HR := hide hfin
      have hb' : m ≤ n - (at_ + 1 + k) := by omega
      have hcm := H.out.cm
      have hnc := H.out.nc
      have hsz : (ofL ((bs.drop (at_ + 1 + k)).take m)).size ≤ 9223372036854775807 := by rw [size_ofL, List.length_take]; omega
      clear hn hfin X2 hR2 ht T2 hl hb
      go_wp2_with fail
      refine (text_ok hR3 hb').mono ?_
      rintro e w7 ⟨rfl, hR4, ht4⟩
      have X4 := X3.only ht4 hXg
      have T4 := T3.trans ht4
      generalize ofL ((bs.drop (at_ + 1 + k)).take m) = ss at HR hsz ⊢
      clear X3 hR3 ht4 T3
      have y0 : w7.cell? ⟨X, 0, none⟩ = some (.int .i64 0) := blkR X4 rfl
      have y1 : w7.cell? ⟨X, 1, none⟩ = some (.bool false) := blkR X4 rfl
      have y2 : w7.cell? ⟨X, 2, none⟩ = some (.int .i64 0) := blkR X4 rfl
      have y3 : w7.cell? ⟨X, 3, none⟩ = some (.string ⟨#[]⟩) := blkR X4 rfl
      have y4 : w7.cell? ⟨X, 4, none⟩ = some (.slice none 0 0) := blkR X4 rfl
      have y5 : w7.cell? ⟨X, 5, none⟩ = some (.slice none 0 0) := blkR X4 rfl
      have yf : ∀ i, w7.frozen? ⟨X, i, none⟩ = false := fun i => X4.frozen i
      have XE := set6 X4 (.int .i64 3) (.bool false) (.int .i64 0) (.string ss) (.slice none 0 0) (.slice none 0 0)
      have OE := only6 (Only.refl (fun k => w.heap.size ≤ k) w7) (.inl (by rw [HX.out]; exact Nat.le_refl _)) (.int .i64 3) (.bool false) (.int .i64 0) (.string ss) (.slice none 0 0) (.slice none 0 0)
      go_wp2
      refine bodyPost_ret (results_cell1 rfl _ _ X 25 _ _ rfl XE Try.underlying25 rfl (by kernel_rfl)) rfl ?_
      exact ValP_ok HR.out (leaf (by decide) (by decide) hsz) (hR4.only OE (fun b hb => by have := HX.out; omega)) (rt_wk T4 OE)
set_option maxHeartbeats 600000 in
set_option maxRecDepth 100000 in
theorem val_t7 {w : World} {g n c at_ p d : Nat} {A : Option Addr} {bs : List UInt8} (h : RS w g A n c bs at_ p) (hp : p + 1 ≤ 4096) (hd : d + 1 ≤ 32) (hx : bs[at_]? = some 7) :
    Calls Try.prog 41 #[.pointer (some ⟨g, 0, none⟩), .int .i64 ((d + 1 : Nat) : Int)] w fun e w' => ValP (rd bs (d + 1) p at_) g A n c bs w e w' := by
  have hr : rd bs (d + 1) p at_ = rdT bs (rd bs d) 7 (p + 1) (at_ + 1) := by
    rw [rd, hx]
    dsimp only
    rw [if_neg (by rw [show (7 : UInt8).toNat = 7 from rfl]; omega)]
    rfl
  have HQ := hide hr
  clear hr
  have e2 : decide ((0 : Int) < ((d + 1 : Nat) : Int)) = true := decide_eq_true (by omega)
  have e2' : decide ((0 : Int) < (d : Int) + 1) = true := decide_eq_true (by omega)
  have e3 : decide ((p : Int) + 1 ≤ 4096) = true := decide_eq_true (by omega)
  have H := hide h
  have hlt := h.blk.lt
  have H0 := h.grow ((Below.refl w.heap.size w).alloc (Nat.le_refl _) (.cells #[.int .i64 0, .bool false, .int .i64 0, .string ⟨#[]⟩, .slice none 0 0, .slice none 0 0] 25))
  have T0 : Rt g w (w.alloc (.cells #[.int .i64 0, .bool false, .int .i64 0, .string ⟨#[]⟩, .slice none 0 0, .slice none 0 0] 25)) := (Rt.refl g w).alloc _
  have X0 := Blk.new w 25 #[.int .i64 0, .bool false, .int .i64 0, .string ⟨#[]⟩, .slice none 0 0, .slice none 0 0]
  clear h
  go_enter Try.func41, Try.ntmps41
  go_wp2_with fail
  generalize w.alloc (.cells #[.int .i64 0, .bool false, .int .i64 0, .string ⟨#[]⟩, .slice none 0 0, .slice none 0 0] 25) = W0 at H0 T0 X0 ⊢
  generalize hX : w.heap.size = X at X0 ⊢
  have hXg : X ≠ g := by omega
  have HX := hide hX
  clear hX
  refine (next_ok H0 hx).mono ?_
  rintro e w1 ⟨he, hR1, hT1⟩
  rw [show (((7 : UInt8).toNat : Nat) : Int) = 7 by decide] at he
  subst he
  have X1 := X0.only hT1 hXg
  have T1 := T0.trans hT1
  have f2 : w1.cell? ⟨g, 2, none⟩ = some (.int .i64 (p : Int)) := blkR hR1.blk rfl
  have p2 : w1.frozen? ⟨g, 2, none⟩ = false := hR1.blk.frozen 2
  clear H0 T0 X0 hT1
  go_wp2_with fail
  have hB := hR1.blk.set_ 2 (.int .i64 ((p : Int) + 1))
  have hO : Only (fun k => k = g) w1 (w1.setCell ⟨g, 2, none⟩ (.int .i64 ((p : Int) + 1))) := (Only.refl (fun k => k = g) w1).setCell (p := ⟨g, 2, none⟩) (.inl rfl) _
  have hR2 : RS (w1.setCell ⟨g, 2, none⟩ (.int .i64 ((p : Int) + 1))) g A n c bs (at_ + 1) (p + 1) := ⟨by simpa using hB, hR1.rd.only hO (fun k _ hk => by omega) (Nat.le_of_lt hR1.blk.lt), hR1.le, hR1.nc, hR1.cm⟩
  have X2 := X1.only hO hXg
  have T2 : Rt g w _ := T1.trans hO
  generalize w1.setCell ⟨g, 2, none⟩ (.int .i64 ((p : Int) + 1)) = W at hR2 X2 T2 ⊢
  clear hR1 X1 T1 hB hO f2 p2
  refine (must_ok _ _ _).mono ?_
  rintro e w5 ⟨rfl, rfl⟩
  go_wp2_with fail
  refine (rnum_any hR2).mono ?_
  intro e w6 he
  cases hn : rn 0 (bs.drop (at_ + 1)) with
  | error z =>
    rw [hn] at he
    obtain ⟨rfl, ht⟩ := he
    exact ⟨rfl, ValP_no (by rw [HQ.out, rdT, if_neg (by decide), if_neg (by decide), hn]) (T2.trans ht)⟩
  | ok q =>
    obtain ⟨m, k⟩ := q
    rw [hn] at he
    obtain ⟨rfl, hR3, ht⟩ := he
    have hm64 := (rn_of hn).1
    have X3 := X2.only ht hXg
    have T3 := T2.trans ht
    by_cases h1 : m < 1
    · have hfin : rd bs (d + 1) p at_ = .error 1 := by rw [HQ.out, rdT, if_neg (by decide), if_neg (by decide), hn]; dsimp only; rw [if_neg (by decide), if_neg (by decide), if_pos (by decide), if_pos (.inl h1)]
      have e5 : decide ((1 : Int) ≤ (m : Int)) = false := decide_eq_false (by omega)
      have HR := hide hfin
      clear hn hfin X2 hR2 ht T2
      go_wp2_with fail
      refine (must_no _ _ _).mono ?_
      rintro e w7 ⟨rfl, rfl⟩
      exact ⟨rfl, ValP_no HR.out T3⟩
    · have e5 : decide ((1 : Int) ≤ (m : Int)) = true := decide_eq_true (by omega)
      by_cases h2 : 9223372036854775808 ≤ m
      · have hfin : rd bs (d + 1) p at_ = .error 1 := by rw [HQ.out, rdT, if_neg (by decide), if_neg (by decide), hn]; dsimp only; rw [if_neg (by decide), if_neg (by decide), if_pos (by decide), if_pos (.inr h2)]
        have e6 : decide ((m : Int) < 9223372036854775808) = false := decide_eq_false (by omega)
        have HR := hide hfin
        clear hn hfin X2 hR2 ht T2
        go_wp2_with fail
        refine (must_no _ _ _).mono ?_
        rintro e w7 ⟨rfl, rfl⟩
        exact ⟨rfl, ValP_no HR.out T3⟩
      · have hfin : rd bs (d + 1) p at_ = .ok (.mk 6 false (m : Int) .empty [] [], at_ + 1 + k, p + 1) := by rw [HQ.out, rdT, if_neg (by decide), if_neg (by decide), hn]; dsimp only; rw [if_neg (by decide), if_neg (by decide), if_pos (by decide), if_neg (by omega)]; rfl
        have HR := hide hfin
        have e6 : decide ((m : Int) < 9223372036854775808) = true := decide_eq_true (by omega)
        have hmb : -9223372036854775808 ≤ (m : Int) ∧ (m : Int) ≤ 9223372036854775807 := by omega
        clear hn hfin X2 hR2 ht T2
        go_wp2_with fail
        refine (must_ok _ _ _).mono ?_
        rintro e w7 ⟨rfl, rfl⟩
        have y0 : w7.cell? ⟨X, 0, none⟩ = some (.int .i64 0) := blkR X3 rfl
        have y1 : w7.cell? ⟨X, 1, none⟩ = some (.bool false) := blkR X3 rfl
        have y2 : w7.cell? ⟨X, 2, none⟩ = some (.int .i64 0) := blkR X3 rfl
        have y3 : w7.cell? ⟨X, 3, none⟩ = some (.string ⟨#[]⟩) := blkR X3 rfl
        have y4 : w7.cell? ⟨X, 4, none⟩ = some (.slice none 0 0) := blkR X3 rfl
        have y5 : w7.cell? ⟨X, 5, none⟩ = some (.slice none 0 0) := blkR X3 rfl
        have yf : ∀ i, w7.frozen? ⟨X, i, none⟩ = false := fun i => X3.frozen i
        have XE := set6 X3 (.int .i64 6) (.bool false) (.int .i64 (m : Int)) (.string ⟨#[]⟩) (.slice none 0 0) (.slice none 0 0)
        have OE := only6 (Only.refl (fun k => w.heap.size ≤ k) w7) (.inl (by rw [HX.out]; exact Nat.le_refl _)) (.int .i64 6) (.bool false) (.int .i64 (m : Int)) (.string ⟨#[]⟩) (.slice none 0 0) (.slice none 0 0)
        go_wp2
        refine bodyPost_ret (results_cell1 rfl _ _ X 25 _ _ rfl XE Try.underlying25 rfl (by kernel_rfl)) rfl ?_
        exact ValP_ok HR.out (leaf hmb (by decide) (by decide)) (hR3.only OE (fun b hb => by have := HX.out; omega)) (rt_wk T3 OE)
set_option maxHeartbeats 600000 in
set_option maxRecDepth 100000 in
theorem val_t8 {w : World} {g n c at_ p d : Nat} {A : Option Addr} {bs : List UInt8} (h : RS w g A n c bs at_ p) (hp : p + 1 ≤ 4096) (hd : d + 1 ≤ 32) (hx : bs[at_]? = some 8) :
    Calls Try.prog 41 #[.pointer (some ⟨g, 0, none⟩), .int .i64 ((d + 1 : Nat) : Int)] w fun e w' => ValP (rd bs (d + 1) p at_) g A n c bs w e w' := by
  have hr : rd bs (d + 1) p at_ = rdT bs (rd bs d) 8 (p + 1) (at_ + 1) := by
    rw [rd, hx]
    dsimp only
    rw [if_neg (by rw [show (8 : UInt8).toNat = 8 from rfl]; omega)]
    rfl
  have HQ := hide hr
  clear hr
  have e2 : decide ((0 : Int) < ((d + 1 : Nat) : Int)) = true := decide_eq_true (by omega)
  have e2' : decide ((0 : Int) < (d : Int) + 1) = true := decide_eq_true (by omega)
  have e3 : decide ((p : Int) + 1 ≤ 4096) = true := decide_eq_true (by omega)
  have H := hide h
  have hlt := h.blk.lt
  have H0 := h.grow ((Below.refl w.heap.size w).alloc (Nat.le_refl _) (.cells #[.int .i64 0, .bool false, .int .i64 0, .string ⟨#[]⟩, .slice none 0 0, .slice none 0 0] 25))
  have T0 : Rt g w (w.alloc (.cells #[.int .i64 0, .bool false, .int .i64 0, .string ⟨#[]⟩, .slice none 0 0, .slice none 0 0] 25)) := (Rt.refl g w).alloc _
  have X0 := Blk.new w 25 #[.int .i64 0, .bool false, .int .i64 0, .string ⟨#[]⟩, .slice none 0 0, .slice none 0 0]
  clear h
  go_enter Try.func41, Try.ntmps41
  go_wp2_with fail
  generalize w.alloc (.cells #[.int .i64 0, .bool false, .int .i64 0, .string ⟨#[]⟩, .slice none 0 0, .slice none 0 0] 25) = W0 at H0 T0 X0 ⊢
  generalize hX : w.heap.size = X at X0 ⊢
  have hXg : X ≠ g := by omega
  have HX := hide hX
  clear hX
  refine (next_ok H0 hx).mono ?_
  rintro e w1 ⟨he, hR1, hT1⟩
  rw [show (((8 : UInt8).toNat : Nat) : Int) = 8 by decide] at he
  subst he
  have X1 := X0.only hT1 hXg
  have T1 := T0.trans hT1
  have f2 : w1.cell? ⟨g, 2, none⟩ = some (.int .i64 (p : Int)) := blkR hR1.blk rfl
  have p2 : w1.frozen? ⟨g, 2, none⟩ = false := hR1.blk.frozen 2
  clear H0 T0 X0 hT1
  go_wp2_with fail
  have hB := hR1.blk.set_ 2 (.int .i64 ((p : Int) + 1))
  have hO : Only (fun k => k = g) w1 (w1.setCell ⟨g, 2, none⟩ (.int .i64 ((p : Int) + 1))) := (Only.refl (fun k => k = g) w1).setCell (p := ⟨g, 2, none⟩) (.inl rfl) _
  have hR2 : RS (w1.setCell ⟨g, 2, none⟩ (.int .i64 ((p : Int) + 1))) g A n c bs (at_ + 1) (p + 1) := ⟨by simpa using hB, hR1.rd.only hO (fun k _ hk => by omega) (Nat.le_of_lt hR1.blk.lt), hR1.le, hR1.nc, hR1.cm⟩
  have X2 := X1.only hO hXg
  have T2 : Rt g w _ := T1.trans hO
  generalize w1.setCell ⟨g, 2, none⟩ (.int .i64 ((p : Int) + 1)) = W at hR2 X2 T2 ⊢
  clear hR1 X1 T1 hB hO f2 p2
  refine (must_ok _ _ _).mono ?_
  rintro e w5 ⟨rfl, rfl⟩
  go_wp2_with fail
  refine (rnum_any hR2).mono ?_
  intro e w6 he
  cases hn : rn 0 (bs.drop (at_ + 1)) with
  | error z =>
    rw [hn] at he
    obtain ⟨rfl, ht⟩ := he
    exact ⟨rfl, ValP_no (by rw [HQ.out, rdT, if_neg (by decide), if_neg (by decide), hn]) (T2.trans ht)⟩
  | ok q =>
    obtain ⟨m, k⟩ := q
    rw [hn] at he
    obtain ⟨rfl, hR3, ht⟩ := he
    have hm64 := (rn_of hn).1
    have X3 := X2.only ht hXg
    have T3 := T2.trans ht
    by_cases h1 : m < 1
    · have hfin : rd bs (d + 1) p at_ = .error 1 := by rw [HQ.out, rdT, if_neg (by decide), if_neg (by decide), hn]; dsimp only; rw [if_neg (by decide), if_neg (by decide), if_pos (by decide), if_pos (.inl h1)]
      have e5 : decide ((1 : Int) ≤ (m : Int)) = false := decide_eq_false (by omega)
      have HR := hide hfin
      clear hn hfin X2 hR2 ht T2
      go_wp2_with fail
      refine (must_no _ _ _).mono ?_
      rintro e w7 ⟨rfl, rfl⟩
      exact ⟨rfl, ValP_no HR.out T3⟩
    · have e5 : decide ((1 : Int) ≤ (m : Int)) = true := decide_eq_true (by omega)
      by_cases h2 : 9223372036854775808 ≤ m
      · have hfin : rd bs (d + 1) p at_ = .error 1 := by rw [HQ.out, rdT, if_neg (by decide), if_neg (by decide), hn]; dsimp only; rw [if_neg (by decide), if_neg (by decide), if_pos (by decide), if_pos (.inr h2)]
        have e6 : decide ((m : Int) < 9223372036854775808) = false := decide_eq_false (by omega)
        have HR := hide hfin
        clear hn hfin X2 hR2 ht T2
        go_wp2_with fail
        refine (must_no _ _ _).mono ?_
        rintro e w7 ⟨rfl, rfl⟩
        exact ⟨rfl, ValP_no HR.out T3⟩
      · have hfin : rd bs (d + 1) p at_ = .ok (.mk 7 false (m : Int) .empty [] [], at_ + 1 + k, p + 1) := by rw [HQ.out, rdT, if_neg (by decide), if_neg (by decide), hn]; dsimp only; rw [if_neg (by decide), if_neg (by decide), if_pos (by decide), if_neg (by omega)]; rfl
        have HR := hide hfin
        have e6 : decide ((m : Int) < 9223372036854775808) = true := decide_eq_true (by omega)
        have hmb : -9223372036854775808 ≤ (m : Int) ∧ (m : Int) ≤ 9223372036854775807 := by omega
        clear hn hfin X2 hR2 ht T2
        go_wp2_with fail
        refine (must_ok _ _ _).mono ?_
        rintro e w7 ⟨rfl, rfl⟩
        have y0 : w7.cell? ⟨X, 0, none⟩ = some (.int .i64 0) := blkR X3 rfl
        have y1 : w7.cell? ⟨X, 1, none⟩ = some (.bool false) := blkR X3 rfl
        have y2 : w7.cell? ⟨X, 2, none⟩ = some (.int .i64 0) := blkR X3 rfl
        have y3 : w7.cell? ⟨X, 3, none⟩ = some (.string ⟨#[]⟩) := blkR X3 rfl
        have y4 : w7.cell? ⟨X, 4, none⟩ = some (.slice none 0 0) := blkR X3 rfl
        have y5 : w7.cell? ⟨X, 5, none⟩ = some (.slice none 0 0) := blkR X3 rfl
        have yf : ∀ i, w7.frozen? ⟨X, i, none⟩ = false := fun i => X3.frozen i
        have XE := set6 X3 (.int .i64 7) (.bool false) (.int .i64 (m : Int)) (.string ⟨#[]⟩) (.slice none 0 0) (.slice none 0 0)
        have OE := only6 (Only.refl (fun k => w.heap.size ≤ k) w7) (.inl (by rw [HX.out]; exact Nat.le_refl _)) (.int .i64 7) (.bool false) (.int .i64 (m : Int)) (.string ⟨#[]⟩) (.slice none 0 0) (.slice none 0 0)
        go_wp2
        refine bodyPost_ret (results_cell1 rfl _ _ X 25 _ _ rfl XE Try.underlying25 rfl (by kernel_rfl)) rfl ?_
        exact ValP_ok HR.out (leaf hmb (by decide) (by decide)) (hR3.only OE (fun b hb => by have := HX.out; omega)) (rt_wk T3 OE)
end Go.Proofs.Ytaapbiiiepdopaa
