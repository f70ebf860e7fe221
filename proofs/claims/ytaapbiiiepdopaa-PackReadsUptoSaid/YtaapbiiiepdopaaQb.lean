/- wattleref04's reading of a value: numbers, texts. -/
import Derived.Test.YtaapbiiiepdopaaQa
namespace Go.Proofs.Ytaapbiiiepdopaa
open Go.RowKit Mem
set_option linter.unusedVariables false
section
variable {w : World} {n c at_ p d : Nat} {A : Option Addr} {bs : List UInt8}
set_option maxHeartbeats 1000000 in
set_option maxRecDepth 100000 in
theorem ref_t3 (hr : Reads w 0 w.heap.size 1 A n (bs.map B8)) (hat : at_ ≤ n) (hc : n ≤ c ∧ c ≤ 9223372036854775807) (hn : n ≤ 1048576) (hp : p ≤ 4096) (hd : d + 1 ≤ 32) (hp1 : p + 1 ≤ 4096) (hx : bs[at_]? = some 3) :
    Calls Try.prog 42 #[.slice A n c, .int .i64 (at_ : Int), .int .i64 ((d + 1 : Nat) : Int), .int .i64 (p : Int)] w fun e w' => RefP (rd bs (d + 1) p at_) w e w' := by
  have hr0 : rd bs (d + 1) p at_ = rdT bs (rd bs d) 3 (p + 1) (at_ + 1) := by
    rw [rd, hx]
    dsimp only
    rw [if_neg (by rw [show (3 : UInt8).toNat = 3 from rfl]; omega)]
    rfl
  have HQ := hide hr0
  have hlen : bs.length = n := by simpa using hr.1
  have X0 : ∀ (w : World) (cs ds : Array Value), Blk ((w.alloc (.cells cs 25)).alloc (.cells ds 25)) w.heap.size 25 cs := fun w cs ds => (Blk.new w 25 cs).alloc _
  have B0 : ∀ (w : World) (cs ds : Array Value), Below w.heap.size w ((w.alloc (.cells cs 25)).alloc (.cells ds 25)) := fun w cs ds => ((Below.refl w.heap.size w).alloc (Nat.le_refl _) _).alloc (by simp) _
  have hlt : at_ < n := by rw [← hlen]; exact (List.getElem?_eq_some_iff.1 hx).1
  have e1 : decide ((n : Int) ≤ (at_ : Int)) = false := by simp; omega
  have e2 : ¬ n ≤ at_ := by omega
  have e3 : (at_ : Int) < (n : Int) := by omega
  have q1 : IntKind.i64.wrap ((at_ : Int) + 1) = (at_ : Int) + 1 := IntWalk.i64_in _ (by omega)
  have q2 : IntKind.i64.wrap ((p : Int) + 1) = (p : Int) + 1 := IntWalk.i64_in _ (by omega)
  obtain ⟨b0, o0, rfl, _, hb0, hb0', hcell⟩ := hr.plain (by omega) (by decide)
  have c0 : ∀ o o', ((w.alloc o).alloc o').cell? ⟨b0, o0 + at_, none⟩ = some (.int .u8 3) := fun o o' => by
    rw [World.cell?_alloc_lt _ _ _ (show b0 < _ by simp; omega), World.cell?_alloc_lt _ _ _ (show b0 < _ from hb0'), hcell at_ (by omega), List.getElem?_map, hx]
    rfl
  have g2 : decide (((d + 1 : Nat) : Int) < 1) = false := by simp; omega
  have g2' : decide ((d : Int) + 1 < 1) = false := by simp; omega
  have g3 : decide ((4096 : Int) < (p : Int) + 1) = false := by simp; omega
  have hnum : ∀ (cs ds : Array Value), Calls Try.prog 62 #[.slice (some ⟨b0, o0, none⟩) n c, .int .i64 ((at_ + 1 : Nat) : Int)] ((w.alloc (.cells cs 25)).alloc (.cells ds 25)) fun e w' => RnP (rn 0 (bs.drop (at_ + 1))) (at_ + 1) e ∧ (w.alloc (.cells cs 25)).alloc (.cells ds 25) = w' :=
    fun cs ds => rdnum_any (hr.below (B0 w cs ds) (Nat.le_refl _)) (by omega) hc hn
  have HN := hide hnum
  have HRD := hide hr
  clear hnum
  go_enter Try.func42, Try.ntmps42
  go_wp2_with fail
  refine (HN.out _ _).mono ?_
  rintro e w5 ⟨he, rfl⟩
  cases hn0 : rn 0 (bs.drop (at_ + 1)) with
  | error z =>
    rw [hn0] at he
    have he' : e = .returned (.tuple #[.int .u64 0, .int .i64 0, .int .i64 z]) := he
    subst he'
    have hz : ¬ z = 0 := by rcases rn_err _ _ _ hn0 with h | h <;> omega
    have hfin : rd bs (d + 1) p at_ = .error z := by rw [HQ.out, rdT, if_neg (by decide), if_neg (by decide), hn0]
    have HR := hide hfin
    clear he hn0 hfin hx hcell hr
    go_wp2_with fail
    refine bodyPost_ret (results_cell4 rfl _ _ w.heap.size 25 #[.int .i64 0, .bool false, .int .i64 0, .string ⟨#[]⟩, .slice none 0 0, .slice none 0 0] _ rfl (X0 _ _ _) Try.underlying25 rfl (by kernel_rfl)) rfl ?_
    exact RefP_no HR.out (B0 _ _ _) (leaf (by decide) (by decide) (by decide))
  | ok q =>
    obtain ⟨m, k⟩ := q
    rw [hn0] at he
    have he' : e = .returned (.tuple #[.int .u64 (m : Int), .int .i64 ((at_ + 1 + k : Nat) : Int), .int .i64 0]) := he
    subst he'
    have hm64 := (rn_of hn0).1
    have hfin : rd bs (d + 1) p at_ = .ok (.mk 2 false (uz m) .empty [] [], at_ + 1 + k, p + 1) := by rw [HQ.out, rdT, if_neg (by decide), if_neg (by decide), hn0]; rfl
    have w1 : IntKind.i64.wrap ((m : Int) / 2) = (m : Int) / 2 := IntWalk.i64_in _ (by omega)
    have w2 : IntKind.i64.wrap (-((m : Int) / 2)) = -((m : Int) / 2) := IntWalk.i64_in _ (by omega)
    have w3 : IntKind.i64.wrap (-((m : Int) / 2) - 1) = -((m : Int) / 2) - 1 := IntWalk.i64_in _ (by omega)
    by_cases ho : m % 2 = 1
    · have hu : uz m = -((m : Int) / 2) - 1 := by unfold uz; rw [if_pos ho]; omega
      rw [hu] at hfin
      have HR := hide hfin
      have s1 : ((m : Int) % 2 == 1) = true := by simp; omega
      clear he hn0 hfin hx hcell hr hu
      go_wp2_with fail
      refine bodyPost_ret (results_cell4 rfl _ _ w.heap.size 25 #[.int .i64 2, .bool false, .int .i64 (-((m : Int) / 2) - 1), .string ⟨#[]⟩, .slice none 0 0, .slice none 0 0] _ rfl (X0 _ _ _) Try.underlying25 rfl (by kernel_rfl)) rfl ?_
      exact RefP_ok HR.out (B0 _ _ _) (leaf ⟨by omega, by omega⟩ (by decide) (by decide)) (by simp) (by simp)
    · have hu : uz m = (m : Int) / 2 := by unfold uz; rw [if_neg ho]; omega
      rw [hu] at hfin
      have HR := hide hfin
      have s1 : ((m : Int) % 2 == 1) = false := by simp; omega
      clear he hn0 hfin hx hcell hr hu
      go_wp2_with fail
      refine bodyPost_ret (results_cell4 rfl _ _ w.heap.size 25 #[.int .i64 2, .bool false, .int .i64 ((m : Int) / 2), .string ⟨#[]⟩, .slice none 0 0, .slice none 0 0] _ rfl (X0 _ _ _) Try.underlying25 rfl (by kernel_rfl)) rfl ?_
      exact RefP_ok HR.out (B0 _ _ _) (leaf ⟨by omega, by omega⟩ (by decide) (by decide)) (by simp) (by simp)
set_option maxHeartbeats 1000000 in
set_option maxRecDepth 100000 in
theorem ref_t7 (hr : Reads w 0 w.heap.size 1 A n (bs.map B8)) (hat : at_ ≤ n) (hc : n ≤ c ∧ c ≤ 9223372036854775807) (hn : n ≤ 1048576) (hp : p ≤ 4096) (hd : d + 1 ≤ 32) (hp1 : p + 1 ≤ 4096) (hx : bs[at_]? = some 7) :
    Calls Try.prog 42 #[.slice A n c, .int .i64 (at_ : Int), .int .i64 ((d + 1 : Nat) : Int), .int .i64 (p : Int)] w fun e w' => RefP (rd bs (d + 1) p at_) w e w' := by
  have hr0 : rd bs (d + 1) p at_ = rdT bs (rd bs d) 7 (p + 1) (at_ + 1) := by
    rw [rd, hx]
    dsimp only
    rw [if_neg (by rw [show (7 : UInt8).toNat = 7 from rfl]; omega)]
    rfl
  have HQ := hide hr0
  have hlen : bs.length = n := by simpa using hr.1
  have X0 : ∀ (w : World) (cs ds : Array Value), Blk ((w.alloc (.cells cs 25)).alloc (.cells ds 25)) w.heap.size 25 cs := fun w cs ds => (Blk.new w 25 cs).alloc _
  have B0 : ∀ (w : World) (cs ds : Array Value), Below w.heap.size w ((w.alloc (.cells cs 25)).alloc (.cells ds 25)) := fun w cs ds => ((Below.refl w.heap.size w).alloc (Nat.le_refl _) _).alloc (by simp) _
  have hlt : at_ < n := by rw [← hlen]; exact (List.getElem?_eq_some_iff.1 hx).1
  have e1 : decide ((n : Int) ≤ (at_ : Int)) = false := by simp; omega
  have e2 : ¬ n ≤ at_ := by omega
  have e3 : (at_ : Int) < (n : Int) := by omega
  have q1 : IntKind.i64.wrap ((at_ : Int) + 1) = (at_ : Int) + 1 := IntWalk.i64_in _ (by omega)
  have q2 : IntKind.i64.wrap ((p : Int) + 1) = (p : Int) + 1 := IntWalk.i64_in _ (by omega)
  obtain ⟨b0, o0, rfl, _, hb0, hb0', hcell⟩ := hr.plain (by omega) (by decide)
  have c0 : ∀ o o', ((w.alloc o).alloc o').cell? ⟨b0, o0 + at_, none⟩ = some (.int .u8 7) := fun o o' => by
    rw [World.cell?_alloc_lt _ _ _ (show b0 < _ by simp; omega), World.cell?_alloc_lt _ _ _ (show b0 < _ from hb0'), hcell at_ (by omega), List.getElem?_map, hx]
    rfl
  have g2 : decide (((d + 1 : Nat) : Int) < 1) = false := by simp; omega
  have g2' : decide ((d : Int) + 1 < 1) = false := by simp; omega
  have g3 : decide ((4096 : Int) < (p : Int) + 1) = false := by simp; omega
  have hnum : ∀ (cs ds : Array Value), Calls Try.prog 62 #[.slice (some ⟨b0, o0, none⟩) n c, .int .i64 ((at_ + 1 : Nat) : Int)] ((w.alloc (.cells cs 25)).alloc (.cells ds 25)) fun e w' => RnP (rn 0 (bs.drop (at_ + 1))) (at_ + 1) e ∧ (w.alloc (.cells cs 25)).alloc (.cells ds 25) = w' :=
    fun cs ds => rdnum_any (hr.below (B0 w cs ds) (Nat.le_refl _)) (by omega) hc hn
  have HN := hide hnum
  have HRD := hide hr
  clear hnum
  go_enter Try.func42, Try.ntmps42
  go_wp2_with fail
  refine (HN.out _ _).mono ?_
  rintro e w5 ⟨he, rfl⟩
  cases hn0 : rn 0 (bs.drop (at_ + 1)) with
  | error z =>
    rw [hn0] at he
    have he' : e = .returned (.tuple #[.int .u64 0, .int .i64 0, .int .i64 z]) := he
    subst he'
    have hz : ¬ z = 0 := by rcases rn_err _ _ _ hn0 with h | h <;> omega
    have hfin : rd bs (d + 1) p at_ = .error z := by rw [HQ.out, rdT, if_neg (by decide), if_neg (by decide), hn0]
    have HR := hide hfin
    clear he hn0 hfin hx hcell hr
    go_wp2_with fail
    refine bodyPost_ret (results_cell4 rfl _ _ w.heap.size 25 #[.int .i64 0, .bool false, .int .i64 0, .string ⟨#[]⟩, .slice none 0 0, .slice none 0 0] _ rfl (X0 _ _ _) Try.underlying25 rfl (by kernel_rfl)) rfl ?_
    exact RefP_no HR.out (B0 _ _ _) (leaf (by decide) (by decide) (by decide))
  | ok q =>
    obtain ⟨m, k⟩ := q
    rw [hn0] at he
    have he' : e = .returned (.tuple #[.int .u64 (m : Int), .int .i64 ((at_ + 1 + k : Nat) : Int), .int .i64 0]) := he
    subst he'
    have hm64 := (rn_of hn0).1
    by_cases hb : m < 1 ∨ 9223372036854775808 ≤ m
    · have hfin : rd bs (d + 1) p at_ = .error 1 := by rw [HQ.out, rdT, if_neg (by decide), if_neg (by decide), hn0]; dsimp only; rw [if_neg (by decide), if_neg (by decide), if_pos (by decide), if_pos hb]
      have HR := hide hfin
      clear he hn0 hfin hx hcell hr
      have hcase : m < 1 ∨ (¬ m < 1 ∧ 9223372036854775808 ≤ m) := by omega
      rcases hcase with h1 | ⟨h1, h2⟩
      · have s1 : decide ((m : Int) < 1) = true := by simp; omega
        go_wp2_with fail
        refine bodyPost_ret (results_cell4 rfl _ _ w.heap.size 25 #[.int .i64 0, .bool false, .int .i64 0, .string ⟨#[]⟩, .slice none 0 0, .slice none 0 0] _ rfl (X0 _ _ _) Try.underlying25 rfl (by kernel_rfl)) rfl ?_
        exact RefP_no HR.out (B0 _ _ _) (leaf (by decide) (by decide) (by decide))
      · have s1 : decide ((m : Int) < 1) = false := by simp; omega
        have s2 : decide ((9223372036854775808 : Int) ≤ (m : Int)) = true := by simp; omega
        go_wp2_with fail
        refine bodyPost_ret (results_cell4 rfl _ _ w.heap.size 25 #[.int .i64 0, .bool false, .int .i64 0, .string ⟨#[]⟩, .slice none 0 0, .slice none 0 0] _ rfl (X0 _ _ _) Try.underlying25 rfl (by kernel_rfl)) rfl ?_
        exact RefP_no HR.out (B0 _ _ _) (leaf (by decide) (by decide) (by decide))
    · have hfin : rd bs (d + 1) p at_ = .ok (.mk 6 false (m : Int) .empty [] [], at_ + 1 + k, p + 1) := by rw [HQ.out, rdT, if_neg (by decide), if_neg (by decide), hn0]; dsimp only; rw [if_neg (by decide), if_neg (by decide), if_pos (by decide), if_neg hb]; rfl
      have HR := hide hfin
      have s1 : decide ((m : Int) < 1) = false := by simp; omega
      have s2 : decide ((9223372036854775808 : Int) ≤ (m : Int)) = false := by simp; omega
      have w1 : IntKind.i64.wrap (m : Int) = (m : Int) := IntWalk.i64_in _ (by omega)
      clear he hn0 hfin hx hcell hr
      go_wp2_with fail
      refine bodyPost_ret (results_cell4 rfl _ _ w.heap.size 25 #[.int .i64 6, .bool false, .int .i64 (m : Int), .string ⟨#[]⟩, .slice none 0 0, .slice none 0 0] _ rfl (X0 _ _ _) Try.underlying25 rfl (by kernel_rfl)) rfl ?_
      exact RefP_ok HR.out (B0 _ _ _) (leaf ⟨by omega, by omega⟩ (by decide) (by decide)) (by simp) (by simp)
set_option maxHeartbeats 1000000 in
set_option maxRecDepth 100000 in
theorem ref_t8 (hr : Reads w 0 w.heap.size 1 A n (bs.map B8)) (hat : at_ ≤ n) (hc : n ≤ c ∧ c ≤ 9223372036854775807) (hn : n ≤ 1048576) (hp : p ≤ 4096) (hd : d + 1 ≤ 32) (hp1 : p + 1 ≤ 4096) (hx : bs[at_]? = some 8) :
    Calls Try.prog 42 #[.slice A n c, .int .i64 (at_ : Int), .int .i64 ((d + 1 : Nat) : Int), .int .i64 (p : Int)] w fun e w' => RefP (rd bs (d + 1) p at_) w e w' := by
  have hr0 : rd bs (d + 1) p at_ = rdT bs (rd bs d) 8 (p + 1) (at_ + 1) := by
    rw [rd, hx]
    dsimp only
    rw [if_neg (by rw [show (8 : UInt8).toNat = 8 from rfl]; omega)]
    rfl
  have HQ := hide hr0
  have hlen : bs.length = n := by simpa using hr.1
  have X0 : ∀ (w : World) (cs ds : Array Value), Blk ((w.alloc (.cells cs 25)).alloc (.cells ds 25)) w.heap.size 25 cs := fun w cs ds => (Blk.new w 25 cs).alloc _
  have B0 : ∀ (w : World) (cs ds : Array Value), Below w.heap.size w ((w.alloc (.cells cs 25)).alloc (.cells ds 25)) := fun w cs ds => ((Below.refl w.heap.size w).alloc (Nat.le_refl _) _).alloc (by simp) _
  have hlt : at_ < n := by rw [← hlen]; exact (List.getElem?_eq_some_iff.1 hx).1
  have e1 : decide ((n : Int) ≤ (at_ : Int)) = false := by simp; omega
  have e2 : ¬ n ≤ at_ := by omega
  have e3 : (at_ : Int) < (n : Int) := by omega
  have q1 : IntKind.i64.wrap ((at_ : Int) + 1) = (at_ : Int) + 1 := IntWalk.i64_in _ (by omega)
  have q2 : IntKind.i64.wrap ((p : Int) + 1) = (p : Int) + 1 := IntWalk.i64_in _ (by omega)
  obtain ⟨b0, o0, rfl, _, hb0, hb0', hcell⟩ := hr.plain (by omega) (by decide)
  have c0 : ∀ o o', ((w.alloc o).alloc o').cell? ⟨b0, o0 + at_, none⟩ = some (.int .u8 8) := fun o o' => by
    rw [World.cell?_alloc_lt _ _ _ (show b0 < _ by simp; omega), World.cell?_alloc_lt _ _ _ (show b0 < _ from hb0'), hcell at_ (by omega), List.getElem?_map, hx]
    rfl
  have g2 : decide (((d + 1 : Nat) : Int) < 1) = false := by simp; omega
  have g2' : decide ((d : Int) + 1 < 1) = false := by simp; omega
  have g3 : decide ((4096 : Int) < (p : Int) + 1) = false := by simp; omega
  have hnum : ∀ (cs ds : Array Value), Calls Try.prog 62 #[.slice (some ⟨b0, o0, none⟩) n c, .int .i64 ((at_ + 1 : Nat) : Int)] ((w.alloc (.cells cs 25)).alloc (.cells ds 25)) fun e w' => RnP (rn 0 (bs.drop (at_ + 1))) (at_ + 1) e ∧ (w.alloc (.cells cs 25)).alloc (.cells ds 25) = w' :=
    fun cs ds => rdnum_any (hr.below (B0 w cs ds) (Nat.le_refl _)) (by omega) hc hn
  have HN := hide hnum
  have HRD := hide hr
  clear hnum
  go_enter Try.func42, Try.ntmps42
  go_wp2_with fail
  refine (HN.out _ _).mono ?_
  rintro e w5 ⟨he, rfl⟩
  cases hn0 : rn 0 (bs.drop (at_ + 1)) with
  | error z =>
    rw [hn0] at he
    have he' : e = .returned (.tuple #[.int .u64 0, .int .i64 0, .int .i64 z]) := he
    subst he'
    have hz : ¬ z = 0 := by rcases rn_err _ _ _ hn0 with h | h <;> omega
    have hfin : rd bs (d + 1) p at_ = .error z := by rw [HQ.out, rdT, if_neg (by decide), if_neg (by decide), hn0]
    have HR := hide hfin
    clear he hn0 hfin hx hcell hr
    go_wp2_with fail
    refine bodyPost_ret (results_cell4 rfl _ _ w.heap.size 25 #[.int .i64 0, .bool false, .int .i64 0, .string ⟨#[]⟩, .slice none 0 0, .slice none 0 0] _ rfl (X0 _ _ _) Try.underlying25 rfl (by kernel_rfl)) rfl ?_
    exact RefP_no HR.out (B0 _ _ _) (leaf (by decide) (by decide) (by decide))
  | ok q =>
    obtain ⟨m, k⟩ := q
    rw [hn0] at he
    have he' : e = .returned (.tuple #[.int .u64 (m : Int), .int .i64 ((at_ + 1 + k : Nat) : Int), .int .i64 0]) := he
    subst he'
    have hm64 := (rn_of hn0).1
    by_cases hb : m < 1 ∨ 9223372036854775808 ≤ m
    · have hfin : rd bs (d + 1) p at_ = .error 1 := by rw [HQ.out, rdT, if_neg (by decide), if_neg (by decide), hn0]; dsimp only; rw [if_neg (by decide), if_neg (by decide), if_pos (by decide), if_pos hb]
      have HR := hide hfin
      clear he hn0 hfin hx hcell hr
      have hcase : m < 1 ∨ (¬ m < 1 ∧ 9223372036854775808 ≤ m) := by omega
      rcases hcase with h1 | ⟨h1, h2⟩
      · have s1 : decide ((m : Int) < 1) = true := by simp; omega
        go_wp2_with fail
        refine bodyPost_ret (results_cell4 rfl _ _ w.heap.size 25 #[.int .i64 0, .bool false, .int .i64 0, .string ⟨#[]⟩, .slice none 0 0, .slice none 0 0] _ rfl (X0 _ _ _) Try.underlying25 rfl (by kernel_rfl)) rfl ?_
        exact RefP_no HR.out (B0 _ _ _) (leaf (by decide) (by decide) (by decide))
      · have s1 : decide ((m : Int) < 1) = false := by simp; omega
        have s2 : decide ((9223372036854775808 : Int) ≤ (m : Int)) = true := by simp; omega
        go_wp2_with fail
        refine bodyPost_ret (results_cell4 rfl _ _ w.heap.size 25 #[.int .i64 0, .bool false, .int .i64 0, .string ⟨#[]⟩, .slice none 0 0, .slice none 0 0] _ rfl (X0 _ _ _) Try.underlying25 rfl (by kernel_rfl)) rfl ?_
        exact RefP_no HR.out (B0 _ _ _) (leaf (by decide) (by decide) (by decide))
    · have hfin : rd bs (d + 1) p at_ = .ok (.mk 7 false (m : Int) .empty [] [], at_ + 1 + k, p + 1) := by rw [HQ.out, rdT, if_neg (by decide), if_neg (by decide), hn0]; dsimp only; rw [if_neg (by decide), if_neg (by decide), if_pos (by decide), if_neg hb]; rfl
      have HR := hide hfin
      have s1 : decide ((m : Int) < 1) = false := by simp; omega
      have s2 : decide ((9223372036854775808 : Int) ≤ (m : Int)) = false := by simp; omega
      have w1 : IntKind.i64.wrap (m : Int) = (m : Int) := IntWalk.i64_in _ (by omega)
      clear he hn0 hfin hx hcell hr
      go_wp2_with fail
      refine bodyPost_ret (results_cell4 rfl _ _ w.heap.size 25 #[.int .i64 7, .bool false, .int .i64 (m : Int), .string ⟨#[]⟩, .slice none 0 0, .slice none 0 0] _ rfl (X0 _ _ _) Try.underlying25 rfl (by kernel_rfl)) rfl ?_
      exact RefP_ok HR.out (B0 _ _ _) (leaf ⟨by omega, by omega⟩ (by decide) (by decide)) (by simp) (by simp)
end
end Go.Proofs.Ytaapbiiiepdopaa
