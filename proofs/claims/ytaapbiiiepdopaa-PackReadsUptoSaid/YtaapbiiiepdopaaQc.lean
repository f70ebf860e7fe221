/- wattleref04's reading of a value: a text. -/
import Derived.Test.YtaapbiiiepdopaaQb
namespace Go.Proofs.Ytaapbiiiepdopaa
open Go.RowKit Mem
set_option linter.unusedVariables false
section
variable {w : World} {n c at_ p d : Nat} {A : Option Addr} {bs : List UInt8}
set_option maxHeartbeats 1000000 in
set_option maxRecDepth 100000 in
theorem ref_t4 (hr : Reads w 0 w.heap.size 1 A n (bs.map B8)) (hat : at_ ≤ n) (hc : n ≤ c ∧ c ≤ 9223372036854775807) (hn : n ≤ 1048576) (hp : p ≤ 4096) (hd : d + 1 ≤ 32) (hp1 : p + 1 ≤ 4096) (hx : bs[at_]? = some 4) :
    Calls Try.prog 42 #[.slice A n c, .int .i64 (at_ : Int), .int .i64 ((d + 1 : Nat) : Int), .int .i64 (p : Int)] w fun e w' => RefP (rd bs (d + 1) p at_) w e w' := by
  have hr0 : rd bs (d + 1) p at_ = rdT bs (rd bs d) 4 (p + 1) (at_ + 1) := by
    rw [rd, hx]
    dsimp only
    rw [if_neg (by rw [show (4 : UInt8).toNat = 4 from rfl]; omega)]
    rfl
  have HQ := hide hr0
  have hlen : bs.length = n := by simpa using hr.1
  have X0 : ∀ (w : World) (cs ds : Array Value), Blk ((w.alloc (.cells cs 25)).alloc (.cells ds 25)) w.heap.size 25 cs := fun w cs ds => (Blk.new w 25 cs).alloc _
  have B0 : ∀ (w : World) (cs ds : Array Value), Below w.heap.size w ((w.alloc (.cells cs 25)).alloc (.cells ds 25)) := fun w cs ds => ((Below.refl w.heap.size w).alloc (Nat.le_refl _) _).alloc (by simp) _
  have hlt : at_ < n := by rw [← hlen]; exact (List.getElem?_eq_some_iff.1 hx).1
  have e1 : decide ((n : Int) ≤ (at_ : Int)) = false := by simp; omega
  have e2 : ¬ n ≤ at_ := by omega
  have e3 : (at_ : Int) < (n : Int) := by omega
  have q1 : IntKind.i64.wrap ((at_ : Int) + 1) = (at_ : Int) + 1 := IntWalk.i64_in _ (by omega)
  have q2 : IntKind.i64.wrap ((p : Int) + 1) = (p : Int) + 1 := IntWalk.i64_in _ (by omega)
  obtain ⟨b0, o0, rfl, _, hb0, hb0', hcell⟩ := hr.plain (by omega) (by decide)
  have c0 : ∀ o o', ((w.alloc o).alloc o').cell? ⟨b0, o0 + at_, none⟩ = some (.int .u8 4) := fun o o' => by
    rw [World.cell?_alloc_lt _ _ _ (show b0 < _ by simp; omega), World.cell?_alloc_lt _ _ _ (show b0 < _ from hb0'), hcell at_ (by omega), List.getElem?_map, hx]
    rfl
  have g2 : decide (((d + 1 : Nat) : Int) < 1) = false := by simp; omega
  have g2' : decide ((d : Int) + 1 < 1) = false := by simp; omega
  have g3 : decide ((4096 : Int) < (p : Int) + 1) = false := by simp; omega
  have hnum : ∀ (cs ds : Array Value), Calls Try.prog 62 #[.slice (some ⟨b0, o0, none⟩) n c, .int .i64 ((at_ + 1 : Nat) : Int)] ((w.alloc (.cells cs 25)).alloc (.cells ds 25)) fun e w' => RnP (rn 0 (bs.drop (at_ + 1))) (at_ + 1) e ∧ (w.alloc (.cells cs 25)).alloc (.cells ds 25) = w' :=
    fun cs ds => rdnum_any (hr.below (B0 w cs ds) (Nat.le_refl _)) (by omega) hc hn
  have HN := hide hnum
  have HRD := hide hr
  clear hnum
  go_enter Try.func42, Try.ntmps42
  go_wp2_with fail
  refine (HN.out _ _).mono ?_
  rintro e w5 ⟨he, rfl⟩
  cases hn0 : rn 0 (bs.drop (at_ + 1)) with
  | error z =>
    rw [hn0] at he
    have he' : e = .returned (.tuple #[.int .u64 0, .int .i64 0, .int .i64 z]) := he
    subst he'
    have hz : ¬ z = 0 := by rcases rn_err _ _ _ hn0 with h | h <;> omega
    have hfin : rd bs (d + 1) p at_ = .error z := by rw [HQ.out, rdT, if_neg (by decide), if_neg (by decide), hn0]
    have HR := hide hfin
    clear he hn0 hfin hx hcell hr
    go_wp2_with fail
    refine bodyPost_ret (results_cell4 rfl _ _ w.heap.size 25 #[.int .i64 0, .bool false, .int .i64 0, .string ⟨#[]⟩, .slice none 0 0, .slice none 0 0] _ rfl (X0 _ _ _) Try.underlying25 rfl (by kernel_rfl)) rfl ?_
    exact RefP_no HR.out (B0 _ _ _) (leaf (by decide) (by decide) (by decide))
  | ok q =>
    obtain ⟨m, k⟩ := q
    rw [hn0] at he
    have he' : e = .returned (.tuple #[.int .u64 (m : Int), .int .i64 ((at_ + 1 + k : Nat) : Int), .int .i64 0]) := he
    subst he'
    have hm64 := (rn_of hn0).1
    have hkn := rn_len hn0
    rw [List.length_drop, hlen] at hkn
    have hRD := HRD.out.below (B0 w nulCells nulCells) (Nat.le_refl _)
    by_cases hb : bs.length - (at_ + 1 + k) < m
    · have hfin : rd bs (d + 1) p at_ = .error 22 := by rw [HQ.out, rdT, if_neg (by decide), if_neg (by decide), hn0]; dsimp only; rw [if_neg (by decide), if_pos (by decide), if_pos hb]
      have HR := hide hfin
      rw [hlen] at hb
      have htx : ∀ W, Calls Try.prog 63 #[.slice (some ⟨b0, o0, none⟩) n c, .int .i64 ((at_ + 1 + k : Nat) : Int), .int .u64 (m : Int)] W fun e w' => e = .returned (.tuple #[.string ⟨#[]⟩, .int .i64 0, .int .i64 22]) ∧ W = w' := fun W => rdtext_no (by omega) hn hb hm64
      have HT := hide htx
      clear he hn0 hfin hx hcell hr htx hRD
      go_wp2_with fail
      refine (HT.out _).mono ?_
      rintro e w6 ⟨rfl, rfl⟩
      go_wp2_with fail
      refine bodyPost_ret (results_cell4 rfl _ _ w.heap.size 25 #[.int .i64 0, .bool false, .int .i64 0, .string ⟨#[]⟩, .slice none 0 0, .slice none 0 0] _ rfl (X0 _ _ _) Try.underlying25 rfl (by kernel_rfl)) rfl ?_
      exact RefP_no HR.out (B0 _ _ _) (leaf (by decide) (by decide) (by decide))
    · have hfin : rd bs (d + 1) p at_ = .ok (.mk 3 false 0 (ofL ((bs.drop (at_ + 1 + k)).take m)) [] [], at_ + 1 + k + m, p + 1) := by rw [HQ.out, rdT, if_neg (by decide), if_neg (by decide), hn0]; dsimp only; rw [if_neg (by decide), if_pos (by decide), if_neg hb]
      have HR := hide hfin
      rw [hlen] at hb
      have hsz : (ofL ((bs.drop (at_ + 1 + k)).take m)).size ≤ 9223372036854775807 := by rw [size_ofL, List.length_take, List.length_drop, hlen]; omega
      have htx := rdtext_ok (at_ := at_ + 1 + k) (m := m) (c := c) hRD (by omega) hc.1 hn (by omega)
      unfold nulCells at htx
      have HT := hide htx
      clear he hn0 hfin hx hcell hr htx hRD
      go_wp2_with fail
      refine HT.out.mono ?_
      rintro e w6 ⟨rfl, rfl⟩
      go_wp2_with fail
      refine bodyPost_ret (results_cell4 rfl _ _ w.heap.size 25 #[.int .i64 3, .bool false, .int .i64 0, .string (ofL ((bs.drop (at_ + 1 + k)).take m)), .slice none 0 0, .slice none 0 0] _ rfl (X0 _ _ _) Try.underlying25 rfl (by kernel_rfl)) rfl ?_
      exact RefP_ok HR.out (B0 _ _ _) (leaf (by decide) (by decide) hsz) (by simp) (by simp)
end
end Go.Proofs.Ytaapbiiiepdopaa
