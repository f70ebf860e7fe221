/- A reader of bytes: a value without parts, a fault at its head. -/
import Derived.Test.YtaapbiiiepdopaaRk
import Derived.Laws.ResultCell
namespace Go.Proofs.Ytaapbiiiepdopaa
open Go.RowKit Mem
set_option linter.unusedVariables false

theorem results_cell1 {P : Program} {fn : Func} {p : Tmp} {ty : TypeId} (h : fn.results = #[.cell p ty]) (tmps : Array Value) (w : World) (g : Nat) (t : TypeId) (cs : Array Value) (d : TypeDesc)
    (hp : tmps.getD p undef = .pointer (some ⟨g, 0, none⟩)) (hg : Blk w g t cs)
    (hu : P.underlying ty = some d) (hd : (match d with | .struct _ | .array _ _ => true | _ => false) = true) (hi : (P.info? ty).map (·.size) = some cs.size) :
    (results fn tmps).run P w = .ok (.agg cs) w := by
  have e : (results fn tmps).run P w = ((asAddr (tmps.getD p undef)).run P w).andThen fun a w₁ => (loadVar ty a).run P w₁ := by
    simp only [results, h]
    simp [Sem.run_bind, Result.andThen]
  rw [e, hp]
  simp [asAddr, run_loadVar_row w g t ty cs (0, 0) d hg hu hd hi, Result.andThen]
def ValP (R : Rd) (g : Nat) (A : Option Addr) (n c : Nat) (bs : List UInt8) (w : World) (e : Ending) (w' : World) : Prop := match R with
  | .ok (v, at', q) => ∃ cs, e = .returned (.agg cs) ∧ IsV w' (fun b => w.heap.size ≤ b) v cs ∧ RS w' g A n c bs at' q ∧ Rt g w w'
  | .error z => e = Pan z ∧ Rt g w w'
theorem ValP_ok {R : Rd} {g : Nat} {A : Option Addr} {n c : Nat} {bs : List UInt8} {w w' : World} {v : V} {at' q : Nat} {cs : Array Value} (h : R = .ok (v, at', q)) (hv : IsV w' (fun b => w.heap.size ≤ b) v cs) (hr : RS w' g A n c bs at' q) (ht : Rt g w w') : ValP R g A n c bs w (.returned (.agg cs)) w' := by rw [h]; exact ⟨cs, rfl, hv, hr, ht⟩
theorem ValP_no {R : Rd} {g : Nat} {A : Option Addr} {n c : Nat} {bs : List UInt8} {w w' : World} {z : Int} (h : R = .error z) (ht : Rt g w w') : ValP R g A n c bs w (.panicked [{ v := .iface 28 (.int .i64 z), recovered := false }]) w' := by rw [h]; exact ⟨rfl, ht⟩
theorem ValP_of {R : Rd} {g : Nat} {A : Option Addr} {n c : Nat} {bs : List UInt8} {w w' : World} {z : Int} {e : Ending} (h : R = .error z) (he : e = Pan z) (ht : Rt g w w') : ValP R g A n c bs w e w' := by rw [h]; exact ⟨he, ht⟩
theorem leaf {w : World} {S : Nat → Prop} {k n : Int} {b : Bool} {s : ByteArray} (h1 : -9223372036854775808 ≤ n ∧ n ≤ 9223372036854775807) (h2 : -9223372036854775808 ≤ k ∧ k ≤ 9223372036854775807) (h3 : s.size ≤ 9223372036854775807) :
    IsV w S (.mk k b n s [] []) #[.int .i64 k, .bool b, .int .i64 n, .string s, .slice none 0 0, .slice none 0 0] := by
  rw [IsV]
  refine ⟨none, 0, none, 0, [], rfl, ⟨Nat.le_refl _, by decide, Nat.le_refl _, by decide⟩, ⟨h1.1, h1.2, h2.1, h2.2, h3, fun x hx => by cases hx⟩, RdS.nil, IsVs.nil, RdS.nil⟩
/-- six cells laid one by one -/
theorem set6 {w : World} {X : Nat} {a0 a1 a2 a3 a4 a5 : Value} (h : Blk w X 25 #[a0, a1, a2, a3, a4, a5]) (b0 b1 b2 b3 b4 b5 : Value) :
    Blk ((((((w.setCell ⟨X, 0, none⟩ b0).setCell ⟨X, 1, none⟩ b1).setCell ⟨X, 2, none⟩ b2).setCell ⟨X, 3, none⟩ b3).setCell ⟨X, 4, none⟩ b4).setCell ⟨X, 5, none⟩ b5) X 25 #[b0, b1, b2, b3, b4, b5] := by
  have := (((((h.set_ 0 b0).set_ 1 b1).set_ 2 b2).set_ 3 b3).set_ 4 b4).set_ 5 b5
  simpa using this
theorem only6 {S : Nat → Prop} {w w' : World} {X : Nat} (h : Only S w w') (hX : S X ∨ w.heap.size ≤ X) (b0 b1 b2 b3 b4 b5 : Value) :
    Only S w ((((((w'.setCell ⟨X, 0, none⟩ b0).setCell ⟨X, 1, none⟩ b1).setCell ⟨X, 2, none⟩ b2).setCell ⟨X, 3, none⟩ b3).setCell ⟨X, 4, none⟩ b4).setCell ⟨X, 5, none⟩ b5) :=
  (((((h.setCell (p := ⟨X, 0, none⟩) hX b0).setCell (p := ⟨X, 1, none⟩) hX b1).setCell (p := ⟨X, 2, none⟩) hX b2).setCell (p := ⟨X, 3, none⟩) hX b3).setCell (p := ⟨X, 4, none⟩) hX b4).setCell (p := ⟨X, 5, none⟩) hX b5
theorem RS.only {S : Nat → Prop} {w w' : World} {g n c at_ p : Nat} {A : Option Addr} {bs : List UInt8} (h : RS w g A n c bs at_ p) (ho : Only S w w') (hS : ∀ b, b ≤ g → ¬ S b) : RS w' g A n c bs at_ p :=
  ⟨h.blk.only ho (hS g (Nat.le_refl _)), h.rd.only ho (fun k _ hk => hS k (Nat.le_of_lt hk)) (Nat.le_of_lt h.blk.lt), h.le, h.nc, h.cm⟩
theorem rt_wk {S : Nat → Prop} {w0 w w' : World} (h0 : Only S w0 w) (h : Only (fun k => w0.heap.size ≤ k) w w') : Only S w0 w' :=
  ⟨h.os.trans h0.os, h.tape.trans h0.tape, h.output.trans h0.output, Nat.le_trans h0.size h.size, fun k hk hn => (h.block k (Nat.lt_of_lt_of_le hk h0.size) (by omega)).trans (h0.block k hk hn)⟩
set_option maxHeartbeats 600000 in
set_option maxRecDepth 100000 in
theorem val_none {w : World} {g n c at_ p d : Nat} {A : Option Addr} {bs : List UInt8} {x : UInt8} (h : RS w g A n c bs at_ p) (hp : p ≤ 4096) (hx : bs[at_]? = none) :
    Calls Try.prog 41 #[.pointer (some ⟨g, 0, none⟩), .int .i64 (d : Int)] w fun e w' => ValP (rd bs d p at_) g A n c bs w e w' := by
  have hr : rd bs d p at_ = .error 22 := by cases d <;> rw [rd, hx]
  have HR := hide hr
  clear hr
  have H := hide h
  have hlt := h.blk.lt
  have H0 := h.grow ((Below.refl w.heap.size w).alloc (Nat.le_refl _) (.cells #[.int .i64 0, .bool false, .int .i64 0, .string ⟨#[]⟩, .slice none 0 0, .slice none 0 0] 25))
  have T0 : Rt g w (w.alloc (.cells #[.int .i64 0, .bool false, .int .i64 0, .string ⟨#[]⟩, .slice none 0 0, .slice none 0 0] 25)) := (Rt.refl g w).alloc _
  have X0 := Blk.new w 25 #[.int .i64 0, .bool false, .int .i64 0, .string ⟨#[]⟩, .slice none 0 0, .slice none 0 0]
  clear h
  go_enter Try.func41, Try.ntmps41
  go_wp2_with fail
  generalize w.alloc (.cells #[.int .i64 0, .bool false, .int .i64 0, .string ⟨#[]⟩, .slice none 0 0, .slice none 0 0] 25) = W0 at H0 T0 X0 ⊢
  generalize hX : w.heap.size = X at X0 ⊢
  have hXg : X ≠ g := by omega
  have HX := hide hX
  clear hX
  refine (next_no H0 hx).mono ?_
  rintro e w1 ⟨he, hT1⟩
  have he' : e = .panicked [{ v := .iface 28 (.int .i64 22), recovered := false }] := he
  subst he'
  exact ⟨rfl, ValP_no HR.out (T0.trans hT1)⟩
set_option maxHeartbeats 600000 in
set_option maxRecDepth 100000 in
theorem val_bad {w : World} {g n c at_ p d : Nat} {A : Option Addr} {bs : List UInt8} {x : UInt8} (h : RS w g A n c bs at_ p) (hp : p ≤ 4096) (hd : d ≤ 32) (hx : bs[at_]? = some x) (hb : 8 < x.toNat ∨ d = 0 ∨ 4096 < p + 1) :
    Calls Try.prog 41 #[.pointer (some ⟨g, 0, none⟩), .int .i64 (d : Int)] w fun e w' => ValP (rd bs d p at_) g A n c bs w e w' := by
  have hr : rd bs d p at_ = .error 1 := by
    cases d with
    | zero => rw [rd, hx]
    | succ d => rw [rd, hx]; dsimp only; rw [if_pos (by omega)]
  have HR := hide hr
  have hx256 : x.toNat < 256 := x.toNat_lt
  by_cases b1 : 8 < x.toNat
  · have e1 : decide ((x.toNat : Int) ≤ 8) = false := by simp; omega
    clear hr hb b1
    have H := hide h
    have hlt := h.blk.lt
    have H0 := h.grow ((Below.refl w.heap.size w).alloc (Nat.le_refl _) (.cells #[.int .i64 0, .bool false, .int .i64 0, .string ⟨#[]⟩, .slice none 0 0, .slice none 0 0] 25))
    have T0 : Rt g w (w.alloc (.cells #[.int .i64 0, .bool false, .int .i64 0, .string ⟨#[]⟩, .slice none 0 0, .slice none 0 0] 25)) := (Rt.refl g w).alloc _
    have X0 := Blk.new w 25 #[.int .i64 0, .bool false, .int .i64 0, .string ⟨#[]⟩, .slice none 0 0, .slice none 0 0]
    clear h
    go_enter Try.func41, Try.ntmps41
    go_wp2_with fail
    generalize w.alloc (.cells #[.int .i64 0, .bool false, .int .i64 0, .string ⟨#[]⟩, .slice none 0 0, .slice none 0 0] 25) = W0 at H0 T0 X0 ⊢
    generalize hX : w.heap.size = X at X0 ⊢
    have hXg : X ≠ g := by omega
    have HX := hide hX
    clear hX
    refine (next_ok H0 hx).mono ?_
    rintro e w1 ⟨rfl, hR1, hT1⟩
    have X1 := X0.only hT1 hXg
    have T1 := T0.trans hT1
    have f2 : w1.cell? ⟨g, 2, none⟩ = some (.int .i64 (p : Int)) := blkR hR1.blk rfl
    have p2 : w1.frozen? ⟨g, 2, none⟩ = false := hR1.blk.frozen 2
    clear H0 T0 X0 hT1
    go_wp2_with fail
    have hB := hR1.blk.set_ 2 (.int .i64 ((p : Int) + 1))
    have hO : Only (fun k => k = g) w1 (w1.setCell ⟨g, 2, none⟩ (.int .i64 ((p : Int) + 1))) := (Only.refl (fun k => k = g) w1).setCell (p := ⟨g, 2, none⟩) (.inl rfl) _
    have hR2 : RS (w1.setCell ⟨g, 2, none⟩ (.int .i64 ((p : Int) + 1))) g A n c bs (at_ + 1) (p + 1) := ⟨by simpa using hB, hR1.rd.only hO (fun k _ hk => by omega) (Nat.le_of_lt hR1.blk.lt), hR1.le, hR1.nc, hR1.cm⟩
    have X2 := X1.only hO hXg
    have T2 : Rt g w _ := T1.trans hO
    generalize w1.setCell ⟨g, 2, none⟩ (.int .i64 ((p : Int) + 1)) = W at hR2 X2 T2 ⊢
    clear hR1 X1 T1 hB hO f2 p2
    refine (must_no _ _ _).mono ?_
    rintro e w5 ⟨rfl, rfl⟩
    exact ⟨rfl, ValP_no HR.out T2⟩
  · have e1 : decide ((x.toNat : Int) ≤ 8) = true := by simp; omega
    by_cases b2 : d = 0
    · subst b2
      clear hr hb b1
      have H := hide h
      have hlt := h.blk.lt
      have H0 := h.grow ((Below.refl w.heap.size w).alloc (Nat.le_refl _) (.cells #[.int .i64 0, .bool false, .int .i64 0, .string ⟨#[]⟩, .slice none 0 0, .slice none 0 0] 25))
      have T0 : Rt g w (w.alloc (.cells #[.int .i64 0, .bool false, .int .i64 0, .string ⟨#[]⟩, .slice none 0 0, .slice none 0 0] 25)) := (Rt.refl g w).alloc _
      have X0 := Blk.new w 25 #[.int .i64 0, .bool false, .int .i64 0, .string ⟨#[]⟩, .slice none 0 0, .slice none 0 0]
      clear h
      go_enter Try.func41, Try.ntmps41
      go_wp2_with fail
      generalize w.alloc (.cells #[.int .i64 0, .bool false, .int .i64 0, .string ⟨#[]⟩, .slice none 0 0, .slice none 0 0] 25) = W0 at H0 T0 X0 ⊢
      generalize hX : w.heap.size = X at X0 ⊢
      have hXg : X ≠ g := by omega
      have HX := hide hX
      clear hX
      refine (next_ok H0 hx).mono ?_
      rintro e w1 ⟨rfl, hR1, hT1⟩
      have X1 := X0.only hT1 hXg
      have T1 := T0.trans hT1
      have f2 : w1.cell? ⟨g, 2, none⟩ = some (.int .i64 (p : Int)) := blkR hR1.blk rfl
      have p2 : w1.frozen? ⟨g, 2, none⟩ = false := hR1.blk.frozen 2
      clear H0 T0 X0 hT1
      go_wp2_with fail
      have hB := hR1.blk.set_ 2 (.int .i64 ((p : Int) + 1))
      have hO : Only (fun k => k = g) w1 (w1.setCell ⟨g, 2, none⟩ (.int .i64 ((p : Int) + 1))) := (Only.refl (fun k => k = g) w1).setCell (p := ⟨g, 2, none⟩) (.inl rfl) _
      have hR2 : RS (w1.setCell ⟨g, 2, none⟩ (.int .i64 ((p : Int) + 1))) g A n c bs (at_ + 1) (p + 1) := ⟨by simpa using hB, hR1.rd.only hO (fun k _ hk => by omega) (Nat.le_of_lt hR1.blk.lt), hR1.le, hR1.nc, hR1.cm⟩
      have X2 := X1.only hO hXg
      have T2 : Rt g w _ := T1.trans hO
      generalize w1.setCell ⟨g, 2, none⟩ (.int .i64 ((p : Int) + 1)) = W at hR2 X2 T2 ⊢
      clear hR1 X1 T1 hB hO f2 p2
      refine (must_no _ _ _).mono ?_
      rintro e w5 ⟨rfl, rfl⟩
      exact ⟨rfl, ValP_no HR.out T2⟩
    · have e2 : decide ((0 : Int) < (d : Int)) = true := by simp; omega
      have e2n : decide (0 < d) = true := by simp; omega
      have hdp : 0 < d := by omega
      have e3 : decide ((p : Int) + 1 ≤ 4096) = false := by simp; omega
      clear hr hb b1 b2
      have H := hide h
      have hlt := h.blk.lt
      have H0 := h.grow ((Below.refl w.heap.size w).alloc (Nat.le_refl _) (.cells #[.int .i64 0, .bool false, .int .i64 0, .string ⟨#[]⟩, .slice none 0 0, .slice none 0 0] 25))
      have T0 : Rt g w (w.alloc (.cells #[.int .i64 0, .bool false, .int .i64 0, .string ⟨#[]⟩, .slice none 0 0, .slice none 0 0] 25)) := (Rt.refl g w).alloc _
      have X0 := Blk.new w 25 #[.int .i64 0, .bool false, .int .i64 0, .string ⟨#[]⟩, .slice none 0 0, .slice none 0 0]
      clear h
      go_enter Try.func41, Try.ntmps41
      go_wp2_with fail
      generalize w.alloc (.cells #[.int .i64 0, .bool false, .int .i64 0, .string ⟨#[]⟩, .slice none 0 0, .slice none 0 0] 25) = W0 at H0 T0 X0 ⊢
      generalize hX : w.heap.size = X at X0 ⊢
      have hXg : X ≠ g := by omega
      have HX := hide hX
      clear hX
      refine (next_ok H0 hx).mono ?_
      rintro e w1 ⟨rfl, hR1, hT1⟩
      have X1 := X0.only hT1 hXg
      have T1 := T0.trans hT1
      have f2 : w1.cell? ⟨g, 2, none⟩ = some (.int .i64 (p : Int)) := blkR hR1.blk rfl
      have p2 : w1.frozen? ⟨g, 2, none⟩ = false := hR1.blk.frozen 2
      clear H0 T0 X0 hT1
      go_wp2_with fail
      have hB := hR1.blk.set_ 2 (.int .i64 ((p : Int) + 1))
      have hO : Only (fun k => k = g) w1 (w1.setCell ⟨g, 2, none⟩ (.int .i64 ((p : Int) + 1))) := (Only.refl (fun k => k = g) w1).setCell (p := ⟨g, 2, none⟩) (.inl rfl) _
      have hR2 : RS (w1.setCell ⟨g, 2, none⟩ (.int .i64 ((p : Int) + 1))) g A n c bs (at_ + 1) (p + 1) := ⟨by simpa using hB, hR1.rd.only hO (fun k _ hk => by omega) (Nat.le_of_lt hR1.blk.lt), hR1.le, hR1.nc, hR1.cm⟩
      have X2 := X1.only hO hXg
      have T2 : Rt g w _ := T1.trans hO
      generalize w1.setCell ⟨g, 2, none⟩ (.int .i64 ((p : Int) + 1)) = W at hR2 X2 T2 ⊢
      clear hR1 X1 T1 hB hO f2 p2
      refine (must_no _ _ _).mono ?_
      rintro e w5 ⟨rfl, rfl⟩
      exact ⟨rfl, ValP_no HR.out T2⟩
end Go.Proofs.Ytaapbiiiepdopaa
