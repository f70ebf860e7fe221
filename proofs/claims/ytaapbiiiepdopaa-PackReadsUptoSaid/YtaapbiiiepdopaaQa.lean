/- wattleref04's reading of a value: leaves. -/
import Derived.Test.YtaapbiiiepdopaaRy
import Derived.Test.YtaapbiiiepdopaaL6
namespace Go.Proofs.Ytaapbiiiepdopaa
open Go.RowKit Mem
set_option linter.unusedVariables false

/-- what read answers -/
def RefP (R : Rd) (w : World) (e : Ending) (w' : World) : Prop := Below w.heap.size w w' ∧ match R with
  | .ok (v, at', q) => ∃ cs, e = .returned (.tuple #[.agg cs, .int .i64 (at' : Int), .int .i64 (q : Int), .int .i64 0]) ∧ IsV w' (fun b => w.heap.size ≤ b) v cs
  | .error z => ∃ cs a q, e = .returned (.tuple #[.agg cs, .int .i64 a, .int .i64 q, .int .i64 z]) ∧ IsV w' (fun b => w.heap.size ≤ b) nul cs
theorem RefP_ok {R : Rd} {w w' : World} {v : V} {at' q : Nat} {cs : Array Value} {a b : Int} (h : R = .ok (v, at', q)) (hb : Below w.heap.size w w') (hv : IsV w' (fun b => w.heap.size ≤ b) v cs) (ha : a = (at' : Int)) (hq : b = (q : Int)) :
    RefP R w (.returned (.tuple #[.agg cs, .int .i64 a, .int .i64 b, .int .i64 0])) w' := by subst ha; subst hq; rw [h]; exact ⟨hb, cs, rfl, hv⟩
theorem RefP_no {R : Rd} {w w' : World} {cs : Array Value} {a b z : Int} (h : R = .error z) (hb : Below w.heap.size w w') (hv : IsV w' (fun b => w.heap.size ≤ b) nul cs) :
    RefP R w (.returned (.tuple #[.agg cs, .int .i64 a, .int .i64 b, .int .i64 z])) w' := by rw [h]; exact ⟨hb, cs, a, b, rfl, hv⟩
theorem results_cell4 {P : Program} {fn : Func} {p q r u : Tmp} {ty : TypeId} (h : fn.results = #[.cell p ty, .tmp q, .tmp r, .tmp u]) (tmps : Array Value) (w : World) (g : Nat) (t : TypeId) (cs : Array Value) (d : TypeDesc)
    (hp : tmps.getD p undef = .pointer (some ⟨g, 0, none⟩)) (hg : Blk w g t cs)
    (hu : P.underlying ty = some d) (hd : (match d with | .struct _ | .array _ _ => true | _ => false) = true) (hi : (P.info? ty).map (·.size) = some cs.size) :
    (results fn tmps).run P w = .ok (.tuple #[.agg cs, tmps.getD q undef, tmps.getD r undef, tmps.getD u undef]) w := by
  have e : (results fn tmps).run P w = ((asAddr (tmps.getD p undef)).run P w).andThen fun a w₁ => ((loadVar ty a).run P w₁).andThen fun u1 w₂ => .ok (.tuple #[u1, tmps.getD q undef, tmps.getD r undef, tmps.getD u undef]) w₂ := by
    simp only [results, h]
    simp [Sem.run_bind, Result.andThen]
  rw [e, hp]
  simp [asAddr, run_loadVar_row w g t ty cs (0, 0) d hg hu hd hi, Result.andThen]

section
variable {w : World} {n c at_ p d : Nat} {A : Option Addr} {bs : List UInt8}
set_option maxHeartbeats 1000000 in
set_option maxRecDepth 100000 in
theorem ref_none (hr : Reads w 0 w.heap.size 1 A n (bs.map B8)) (hat : at_ ≤ n) (hc : n ≤ c ∧ c ≤ 9223372036854775807) (hn : n ≤ 1048576) (hp : p ≤ 4096) (hx : bs[at_]? = none) :
    Calls Try.prog 42 #[.slice A n c, .int .i64 (at_ : Int), .int .i64 (d : Int), .int .i64 (p : Int)] w fun e w' => RefP (rd bs d p at_) w e w' := by
  have hR : rd bs d p at_ = .error 22 := by cases d <;> rw [rd, hx]
  have hlen : bs.length = n := by simpa using hr.1
  have X0 : ∀ (w : World) (cs ds : Array Value), Blk ((w.alloc (.cells cs 25)).alloc (.cells ds 25)) w.heap.size 25 cs := fun w cs ds => (Blk.new w 25 cs).alloc _
  have B0 : ∀ (w : World) (cs ds : Array Value), Below w.heap.size w ((w.alloc (.cells cs 25)).alloc (.cells ds 25)) := fun w cs ds => ((Below.refl w.heap.size w).alloc (Nat.le_refl _) _).alloc (by simp) _
  have hge : n ≤ at_ := by rw [← hlen]; exact List.getElem?_eq_none_iff.1 hx
  have e1 : decide ((n : Int) ≤ (at_ : Int)) = true := by simp; omega
  have HR := hide hR
  clear hr hx hR
  go_enter Try.func42, Try.ntmps42
  go_wp2_with fail
  refine bodyPost_ret (results_cell4 rfl _ _ w.heap.size 25 #[.int .i64 0, .bool false, .int .i64 0, .string ⟨#[]⟩, .slice none 0 0, .slice none 0 0] _ rfl (X0 _ _ _) Try.underlying25 rfl (by kernel_rfl)) rfl ?_
  exact RefP_no HR.out (B0 _ _ _) (leaf (by decide) (by decide) (by decide))
set_option maxHeartbeats 1000000 in
set_option maxRecDepth 100000 in
theorem ref_bad (hr : Reads w 0 w.heap.size 1 A n (bs.map B8)) (hat : at_ ≤ n) (hc : n ≤ c ∧ c ≤ 9223372036854775807) (hn : n ≤ 1048576) (hp : p ≤ 4096) (hd : d ≤ 32) {x : UInt8} (hx : bs[at_]? = some x) (hb : 8 < x.toNat ∨ d = 0 ∨ 4096 < p + 1) :
    Calls Try.prog 42 #[.slice A n c, .int .i64 (at_ : Int), .int .i64 (d : Int), .int .i64 (p : Int)] w fun e w' => RefP (rd bs d p at_) w e w' := by
  have hR : rd bs d p at_ = .error 1 := by
    cases d with
    | zero => rw [rd, hx]
    | succ d => rw [rd, hx]; dsimp only; rw [if_pos (by omega)]
  have hlen : bs.length = n := by simpa using hr.1
  have X0 : ∀ (w : World) (cs ds : Array Value), Blk ((w.alloc (.cells cs 25)).alloc (.cells ds 25)) w.heap.size 25 cs := fun w cs ds => (Blk.new w 25 cs).alloc _
  have B0 : ∀ (w : World) (cs ds : Array Value), Below w.heap.size w ((w.alloc (.cells cs 25)).alloc (.cells ds 25)) := fun w cs ds => ((Below.refl w.heap.size w).alloc (Nat.le_refl _) _).alloc (by simp) _
  have hlt : at_ < n := by rw [← hlen]; exact (List.getElem?_eq_some_iff.1 hx).1
  have e1 : decide ((n : Int) ≤ (at_ : Int)) = false := by simp; omega
  have e2 : ¬ n ≤ at_ := by omega
  have e3 : (at_ : Int) < (n : Int) := by omega
  have q1 : IntKind.i64.wrap ((at_ : Int) + 1) = (at_ : Int) + 1 := IntWalk.i64_in _ (by omega)
  have q2 : IntKind.i64.wrap ((p : Int) + 1) = (p : Int) + 1 := IntWalk.i64_in _ (by omega)
  obtain ⟨b0, o0, rfl, _, hb0, hb0', hcell⟩ := hr.plain (by omega) (by decide)
  have c0 : ∀ o o', ((w.alloc o).alloc o').cell? ⟨b0, o0 + at_, none⟩ = some (.int .u8 ((x.toNat : Nat) : Int)) := fun o o' => by
    rw [World.cell?_alloc_lt _ _ _ (show b0 < _ by simp; omega), World.cell?_alloc_lt _ _ _ (show b0 < _ from hb0'), hcell at_ (by omega), List.getElem?_map, hx]
    rfl
  have HR := hide hR
  have hx256 : x.toNat < 256 := x.toNat_lt
  clear hx hR hcell hr
  have hcase : 8 < x.toNat ∨ (¬ 8 < x.toNat ∧ d = 0) ∨ (¬ 8 < x.toNat ∧ 0 < d ∧ 4096 < p + 1) := by omega
  rcases hcase with h1 | ⟨h1, h2⟩ | ⟨h1, h2, h3⟩
  · have g1 : decide ((8 : Int) < ((x.toNat : Nat) : Int)) = true := by simp; omega
    go_enter Try.func42, Try.ntmps42
    go_wp2_with fail
    refine bodyPost_ret (results_cell4 rfl _ _ w.heap.size 25 #[.int .i64 0, .bool false, .int .i64 0, .string ⟨#[]⟩, .slice none 0 0, .slice none 0 0] _ rfl (X0 _ _ _) Try.underlying25 rfl (by kernel_rfl)) rfl ?_
    exact RefP_no HR.out (B0 _ _ _) (leaf (by decide) (by decide) (by decide))
  · have g1 : decide ((8 : Int) < ((x.toNat : Nat) : Int)) = false := by simp; omega
    subst h2
    go_enter Try.func42, Try.ntmps42
    go_wp2_with fail
    refine bodyPost_ret (results_cell4 rfl _ _ w.heap.size 25 #[.int .i64 0, .bool false, .int .i64 0, .string ⟨#[]⟩, .slice none 0 0, .slice none 0 0] _ rfl (X0 _ _ _) Try.underlying25 rfl (by kernel_rfl)) rfl ?_
    exact RefP_no HR.out (B0 _ _ _) (leaf (by decide) (by decide) (by decide))
  · have g1 : decide ((8 : Int) < ((x.toNat : Nat) : Int)) = false := by simp; omega
    have g2 : decide ((d : Int) < 1) = false := by simp; omega
    have g3 : decide ((4096 : Int) < (p : Int) + 1) = true := by simp; omega
    go_enter Try.func42, Try.ntmps42
    go_wp2_with fail
    refine bodyPost_ret (results_cell4 rfl _ _ w.heap.size 25 #[.int .i64 0, .bool false, .int .i64 0, .string ⟨#[]⟩, .slice none 0 0, .slice none 0 0] _ rfl (X0 _ _ _) Try.underlying25 rfl (by kernel_rfl)) rfl ?_
    exact RefP_no HR.out (B0 _ _ _) (leaf (by decide) (by decide) (by decide))
set_option maxHeartbeats 1000000 in
set_option maxRecDepth 100000 in
theorem ref_t0 (hr : Reads w 0 w.heap.size 1 A n (bs.map B8)) (hat : at_ ≤ n) (hc : n ≤ c ∧ c ≤ 9223372036854775807) (hn : n ≤ 1048576) (hp : p ≤ 4096) (hd : d + 1 ≤ 32) (hp1 : p + 1 ≤ 4096) (hx : bs[at_]? = some 0) :
    Calls Try.prog 42 #[.slice A n c, .int .i64 (at_ : Int), .int .i64 ((d + 1 : Nat) : Int), .int .i64 (p : Int)] w fun e w' => RefP (rd bs (d + 1) p at_) w e w' := by
  have hR : rd bs (d + 1) p at_ = .ok (nul, at_ + 1, p + 1) := by
    rw [rd, hx]
    dsimp only
    rw [if_neg (by rw [show (0 : UInt8).toNat = 0 from rfl]; omega)]
    rfl
  have hlen : bs.length = n := by simpa using hr.1
  have X0 : ∀ (w : World) (cs ds : Array Value), Blk ((w.alloc (.cells cs 25)).alloc (.cells ds 25)) w.heap.size 25 cs := fun w cs ds => (Blk.new w 25 cs).alloc _
  have B0 : ∀ (w : World) (cs ds : Array Value), Below w.heap.size w ((w.alloc (.cells cs 25)).alloc (.cells ds 25)) := fun w cs ds => ((Below.refl w.heap.size w).alloc (Nat.le_refl _) _).alloc (by simp) _
  have hlt : at_ < n := by rw [← hlen]; exact (List.getElem?_eq_some_iff.1 hx).1
  have e1 : decide ((n : Int) ≤ (at_ : Int)) = false := by simp; omega
  have e2 : ¬ n ≤ at_ := by omega
  have e3 : (at_ : Int) < (n : Int) := by omega
  have q1 : IntKind.i64.wrap ((at_ : Int) + 1) = (at_ : Int) + 1 := IntWalk.i64_in _ (by omega)
  have q2 : IntKind.i64.wrap ((p : Int) + 1) = (p : Int) + 1 := IntWalk.i64_in _ (by omega)
  obtain ⟨b0, o0, rfl, _, hb0, hb0', hcell⟩ := hr.plain (by omega) (by decide)
  have c0 : ∀ o o', ((w.alloc o).alloc o').cell? ⟨b0, o0 + at_, none⟩ = some (.int .u8 0) := fun o o' => by
    rw [World.cell?_alloc_lt _ _ _ (show b0 < _ by simp; omega), World.cell?_alloc_lt _ _ _ (show b0 < _ from hb0'), hcell at_ (by omega), List.getElem?_map, hx]
    rfl
  have g2 : decide (((d + 1 : Nat) : Int) < 1) = false := by simp; omega
  have g2' : decide ((d : Int) + 1 < 1) = false := by simp; omega
  have g3 : decide ((4096 : Int) < (p : Int) + 1) = false := by simp; omega
  have HR := hide hR
  clear hx hR hcell hr
  go_enter Try.func42, Try.ntmps42
  go_wp2_with fail
  refine bodyPost_ret (results_cell4 rfl _ _ w.heap.size 25 #[.int .i64 0, .bool false, .int .i64 0, .string ⟨#[]⟩, .slice none 0 0, .slice none 0 0] _ rfl (X0 _ _ _) Try.underlying25 rfl (by kernel_rfl)) rfl ?_
  exact RefP_ok HR.out (B0 _ _ _) (leaf (by decide) (by decide) (by decide)) (by simp) (by simp)
set_option maxHeartbeats 1000000 in
set_option maxRecDepth 100000 in
theorem ref_t1 (hr : Reads w 0 w.heap.size 1 A n (bs.map B8)) (hat : at_ ≤ n) (hc : n ≤ c ∧ c ≤ 9223372036854775807) (hn : n ≤ 1048576) (hp : p ≤ 4096) (hd : d + 1 ≤ 32) (hp1 : p + 1 ≤ 4096) (hx : bs[at_]? = some 1) :
    Calls Try.prog 42 #[.slice A n c, .int .i64 (at_ : Int), .int .i64 ((d + 1 : Nat) : Int), .int .i64 (p : Int)] w fun e w' => RefP (rd bs (d + 1) p at_) w e w' := by
  have hR : rd bs (d + 1) p at_ = .ok (.mk 1 false 0 .empty [] [], at_ + 1, p + 1) := by
    rw [rd, hx]
    dsimp only
    rw [if_neg (by rw [show (1 : UInt8).toNat = 1 from rfl]; omega)]
    rfl
  have hlen : bs.length = n := by simpa using hr.1
  have X0 : ∀ (w : World) (cs ds : Array Value), Blk ((w.alloc (.cells cs 25)).alloc (.cells ds 25)) w.heap.size 25 cs := fun w cs ds => (Blk.new w 25 cs).alloc _
  have B0 : ∀ (w : World) (cs ds : Array Value), Below w.heap.size w ((w.alloc (.cells cs 25)).alloc (.cells ds 25)) := fun w cs ds => ((Below.refl w.heap.size w).alloc (Nat.le_refl _) _).alloc (by simp) _
  have hlt : at_ < n := by rw [← hlen]; exact (List.getElem?_eq_some_iff.1 hx).1
  have e1 : decide ((n : Int) ≤ (at_ : Int)) = false := by simp; omega
  have e2 : ¬ n ≤ at_ := by omega
  have e3 : (at_ : Int) < (n : Int) := by omega
  have q1 : IntKind.i64.wrap ((at_ : Int) + 1) = (at_ : Int) + 1 := IntWalk.i64_in _ (by omega)
  have q2 : IntKind.i64.wrap ((p : Int) + 1) = (p : Int) + 1 := IntWalk.i64_in _ (by omega)
  obtain ⟨b0, o0, rfl, _, hb0, hb0', hcell⟩ := hr.plain (by omega) (by decide)
  have c0 : ∀ o o', ((w.alloc o).alloc o').cell? ⟨b0, o0 + at_, none⟩ = some (.int .u8 1) := fun o o' => by
    rw [World.cell?_alloc_lt _ _ _ (show b0 < _ by simp; omega), World.cell?_alloc_lt _ _ _ (show b0 < _ from hb0'), hcell at_ (by omega), List.getElem?_map, hx]
    rfl
  have g2 : decide (((d + 1 : Nat) : Int) < 1) = false := by simp; omega
  have g2' : decide ((d : Int) + 1 < 1) = false := by simp; omega
  have g3 : decide ((4096 : Int) < (p : Int) + 1) = false := by simp; omega
  have HR := hide hR
  clear hx hR hcell hr
  go_enter Try.func42, Try.ntmps42
  go_wp2_with fail
  refine bodyPost_ret (results_cell4 rfl _ _ w.heap.size 25 #[.int .i64 1, .bool false, .int .i64 0, .string ⟨#[]⟩, .slice none 0 0, .slice none 0 0] _ rfl (X0 _ _ _) Try.underlying25 rfl (by kernel_rfl)) rfl ?_
  exact RefP_ok HR.out (B0 _ _ _) (leaf (by decide) (by decide) (by decide)) (by simp) (by simp)
set_option maxHeartbeats 1000000 in
set_option maxRecDepth 100000 in
theorem ref_t2 (hr : Reads w 0 w.heap.size 1 A n (bs.map B8)) (hat : at_ ≤ n) (hc : n ≤ c ∧ c ≤ 9223372036854775807) (hn : n ≤ 1048576) (hp : p ≤ 4096) (hd : d + 1 ≤ 32) (hp1 : p + 1 ≤ 4096) (hx : bs[at_]? = some 2) :
    Calls Try.prog 42 #[.slice A n c, .int .i64 (at_ : Int), .int .i64 ((d + 1 : Nat) : Int), .int .i64 (p : Int)] w fun e w' => RefP (rd bs (d + 1) p at_) w e w' := by
  have hR : rd bs (d + 1) p at_ = .ok (.mk 1 true 0 .empty [] [], at_ + 1, p + 1) := by
    rw [rd, hx]
    dsimp only
    rw [if_neg (by rw [show (2 : UInt8).toNat = 2 from rfl]; omega)]
    rfl
  have hlen : bs.length = n := by simpa using hr.1
  have X0 : ∀ (w : World) (cs ds : Array Value), Blk ((w.alloc (.cells cs 25)).alloc (.cells ds 25)) w.heap.size 25 cs := fun w cs ds => (Blk.new w 25 cs).alloc _
  have B0 : ∀ (w : World) (cs ds : Array Value), Below w.heap.size w ((w.alloc (.cells cs 25)).alloc (.cells ds 25)) := fun w cs ds => ((Below.refl w.heap.size w).alloc (Nat.le_refl _) _).alloc (by simp) _
  have hlt : at_ < n := by rw [← hlen]; exact (List.getElem?_eq_some_iff.1 hx).1
  have e1 : decide ((n : Int) ≤ (at_ : Int)) = false := by simp; omega
  have e2 : ¬ n ≤ at_ := by omega
  have e3 : (at_ : Int) < (n : Int) := by omega
  have q1 : IntKind.i64.wrap ((at_ : Int) + 1) = (at_ : Int) + 1 := IntWalk.i64_in _ (by omega)
  have q2 : IntKind.i64.wrap ((p : Int) + 1) = (p : Int) + 1 := IntWalk.i64_in _ (by omega)
  obtain ⟨b0, o0, rfl, _, hb0, hb0', hcell⟩ := hr.plain (by omega) (by decide)
  have c0 : ∀ o o', ((w.alloc o).alloc o').cell? ⟨b0, o0 + at_, none⟩ = some (.int .u8 2) := fun o o' => by
    rw [World.cell?_alloc_lt _ _ _ (show b0 < _ by simp; omega), World.cell?_alloc_lt _ _ _ (show b0 < _ from hb0'), hcell at_ (by omega), List.getElem?_map, hx]
    rfl
  have g2 : decide (((d + 1 : Nat) : Int) < 1) = false := by simp; omega
  have g2' : decide ((d : Int) + 1 < 1) = false := by simp; omega
  have g3 : decide ((4096 : Int) < (p : Int) + 1) = false := by simp; omega
  have HR := hide hR
  clear hx hR hcell hr
  go_enter Try.func42, Try.ntmps42
  go_wp2_with fail
  refine bodyPost_ret (results_cell4 rfl _ _ w.heap.size 25 #[.int .i64 1, .bool true, .int .i64 0, .string ⟨#[]⟩, .slice none 0 0, .slice none 0 0] _ rfl (X0 _ _ _) Try.underlying25 rfl (by kernel_rfl)) rfl ?_
  exact RefP_ok HR.out (B0 _ _ _) (leaf (by decide) (by decide) (by decide)) (by simp) (by simp)
end
end Go.Proofs.Ytaapbiiiepdopaa
