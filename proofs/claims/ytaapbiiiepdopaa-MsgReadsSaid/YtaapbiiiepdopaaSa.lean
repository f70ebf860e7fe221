/- Two lists of texts, two values: whether they are the same. -/
import Derived.Test.YtaapbiiiepdopaaMv
import Derived.Deep.LoopGhost
import Derived.BigGuardPart
import Derived.Deep.QuietTactic
import Derived.BigQuiet
import Derived.Deep.RegionHeld3
import Derived.WalkLawsBesides
namespace Go.Proofs.Ytaapbiiiepdopaa
open Go.RowKit Mem
set_option linter.unusedVariables false
theorem ret_bb {a b : Bool} (h : a = b) : Ending.returned (.bool a) = .returned (.bool b) := by rw [h]

set_option maxHeartbeats 1000000 in
theorem names_any {w : World} {S T : Nat → Prop} {A B : Option Addr} {c d : Nat} (a b : List ByteArray) (ha : RdS w S 1 A a.length (a.map .string)) (hb : RdS w T 1 B b.length (b.map .string)) (la : a.length ≤ 9223372036854775807) (lb : b.length ≤ 9223372036854775807) :
    Calls Try.prog 38 #[.slice A a.length c, .slice B b.length d] w fun e w' => e = .returned (.bool (decide (a = b))) ∧ ∃ n, w' = w.drewN n := by
  by_cases hl : a.length = b.length
  · have hle1 : a.length ≤ b.length := by omega
    have hle2 : b.length ≤ a.length := by omega
    have hlt : (((a.length : Int)) == ((b.length : Int))) = true := by simp [hl]
    have hln : (((a.length : Int)) != ((b.length : Int))) = false := by simp [hl]
    have HL := hide hl
    clear hl
    go_enter Try.func38, Try.ntmps38
    go_wp2
    go_loopg [5] a.length (fun g iv wr => ∃ (i m : Nat), g = a.length - i ∧ iv = .int .i64 (i : Nat) ∧ i ≤ a.length ∧ Hid (a.take i = b.take i) ∧ wr = w.drewN m)
    case atStart => exact ⟨0, 0, rfl, rfl, Nat.zero_le _, rfl, rfl⟩
    case round =>
      obtain ⟨i, m, rfl, rfl, hi, hE, rfl⟩ := hrel
      by_cases hlt : i < a.length
      · obtain ⟨bA, oA, rfl, _, hbA, hcA⟩ := ha.plain (by omega) (by omega)
        obtain ⟨bB, oB, rfl, _, hbB, hcB⟩ := hb.plain (by omega) (by omega)
        have hi2 : i < b.length := by omega
        have fA : w.cell? ⟨bA, oA + i, none⟩ = some (.string a[i]) := by rw [hcA i (by omega)]; simp [hlt]
        have fB : w.cell? ⟨bB, oB + i, none⟩ = some (.string b[i]) := by rw [hcB i (by omega)]; simp [hi2]
        have hx1 : (i : Int) < (a.length : Int) := by omega
        have hx2 : (i : Int) < (b.length : Int) := by omega
        have hT : ∀ x y : ByteArray, a[i] = x → b[i] = y → a.take (i + 1) = a.take i ++ [x] ∧ b.take (i + 1) = b.take i ++ [y] := by
          rintro x y rfl rfl
          exact ⟨List.take_succ_eq_append_getElem hlt, List.take_succ_eq_append_getElem hi2⟩
        generalize ha1 : a[i] = x at fA
        generalize hb1 : b[i] = y at fB
        obtain ⟨t1, t2⟩ := hT x y ha1 hb1
        have H1 := hide ha1
        have H2 := hide hb1
        have T1 := hide t1
        have T2 := hide t2
        clear hT ha1 hb1 t1 t2 hcA hcB
        by_cases hxy : x = y
        · subst hxy
          go_wp2_with fail
          go_quiet (fail)
          go_wp2_with fail
          go_roundg (a.length - (i + 1))
          case measure => omega
          case rel => exact ⟨i + 1, _, rfl, by go_num, by omega, hide (by rw [T1.out, T2.out, hE.out]), rfl⟩
        · have hq : (x.toList == y.toList) = false := by
            rw [beq_eq_false_iff_ne, ByteArray.toList_eq, ByteArray.toList_eq]
            intro e
            apply hxy
            rw [← ofL_str x, ← ofL_str y]
            exact congrArg ofL e
          have hne : ¬ a = b := by
            intro e
            apply hxy
            rw [← H1.out, ← H2.out]
            simp [e]
          have HXY := hide hxy
          clear hxy
          go_wp2_with fail
          go_quiet (fail)
          go_wp2
          go_ret
          exact ⟨ret_bb (by simp [hne]), _, World.drewN_drewN _ _ _⟩
      · have hil : a = b := by
          have := hE.out
          rw [List.take_of_length_le (by omega), List.take_of_length_le (by omega)] at this
          exact this
        have hd := hide hil
        clear hil
        go_wp2
        go_ret
        exact ⟨ret_bb (by simp [hd.out]), _, rfl⟩
  · have hne : ¬ a = b := by rintro rfl; exact hl rfl
    have hlt : (((a.length : Int)) == ((b.length : Int))) = false := by simp; omega
    have hln : (((a.length : Int)) != ((b.length : Int))) = true := by simp; omega
    have HL := hide hl
    clear hl
    go_enter Try.func38, Try.ntmps38
    go_wp2
    go_ret
    exact ⟨ret_bb (by simp [hne]), 0, rfl⟩


noncomputable def eqV (a b : V) : Bool := @decide (a = b) (Classical.propDecidable _)
noncomputable def eqVs (a b : List V) : Bool := @decide (a = b) (Classical.propDecidable _)
theorem eqV_iff {a b : V} : eqV a b = true ↔ a = b := by unfold eqV; simp
theorem eqVs_iff {a b : List V} : eqVs a b = true ↔ a = b := by unfold eqVs; simp
theorem strEq (s t : ByteArray) : (s.toList == t.toList) = decide (s = t) := by
  rw [Bool.eq_iff_iff, beq_iff_eq, decide_eq_true_eq, ByteArray.toList_eq, ByteArray.toList_eq]
  constructor
  · intro e
    rw [← ofL_str s, ← ofL_str t]
    exact congrArg ofL e
  · rintro rfl; rfl
theorem eqV_mk (k k' : Int) (b b' : Bool) (n n' : Int) (s s' : ByteArray) (l l' : List V) (ks ks' : List ByteArray) :
    eqV (.mk k b n s l ks) (.mk k' b' n' s' l' ks') = (decide (k = k') && decide (b = b') && decide (n = n') && decide (s = s') && decide (ks = ks') && eqVs l l') := by
  rw [Bool.eq_iff_iff, eqV_iff]
  simp only [Bool.and_eq_true, decide_eq_true_eq, eqVs_iff, and_assoc, V.mk.injEq]
  constructor
  · rintro ⟨h1, h2, h3, h4, h5, h6⟩
    exact ⟨h1, h2, h3, h4, h6, h5⟩
  · rintro ⟨h1, h2, h3, h4, h5, h6⟩
    exact ⟨h1, h2, h3, h4, h6, h5⟩
theorem IsV.grow {w w' : World} {S : Nat → Prop} {v : V} {cs : Array Value} (h : IsV w S v cs) (hb : Below w.heap.size w w') : IsV w' S v cs := h.keep (fun b _ h => hb.block b h) (fun _ h _ => h)
theorem IsVs.grow {w w' : World} {S : Nat → Prop} {l : List V} {xs : List Value} (h : IsVs w S l xs) (hb : Below w.heap.size w w') : IsVs w' S l xs := h.keep (fun b _ h => hb.block b h) (fun _ h _ => h)
theorem RdS.grow {w w' : World} {S : Nat → Prop} {size n : Nat} {A : Option Addr} {xs : List Value} (h : RdS w S size A n xs) (hb : Below w.heap.size w w') : RdS w' S size A n xs := h.keep (fun b _ h => hb.block b h) (fun _ h _ => h)

theorem RdS.drewN {w : World} {S : Nat → Prop} {size n : Nat} {A : Option Addr} {xs : List Value} (h : RdS w S size A n xs) (m : Nat) : RdS (w.drewN m) S size A n xs := h.keep (fun _ _ _ => rfl) (fun _ h _ => h)
def SameC (a : V) : Prop := ∀ {w : World} {S T : Nat → Prop} {b : V} {cs ds : Array Value}, IsV w S a cs → IsV w T b ds →
  Calls Try.prog 17 #[.agg cs, .agg ds] w fun e w' => e = .returned (.bool (eqV a b)) ∧ Below w.heap.size w w'

set_option maxHeartbeats 2000000 in
theorem list_any (a : List V) (ih : ∀ v ∈ a, SameC v) {w : World} {S T : Nat → Prop} {A B : Option Addr} {c d : Nat} (b : List V) {xs ys : List Value} (ha : RdS w S 6 A a.length xs) (ha' : IsVs w S a xs) (hb : RdS w T 6 B b.length ys) (hb' : IsVs w T b ys) (la : a.length ≤ 9223372036854775807) (lb : b.length ≤ 9223372036854775807) :
    Calls Try.prog 39 #[.slice A a.length c, .slice B b.length d] w fun e w' => e = .returned (.bool (eqVs a b)) ∧ Below w.heap.size w w' := by
  by_cases hl : a.length = b.length
  · have hle1 : a.length ≤ b.length := by omega
    have hle2 : b.length ≤ a.length := by omega
    have hlt : (((a.length : Int)) == ((b.length : Int))) = true := by simp [hl]
    have hln : (((a.length : Int)) != ((b.length : Int))) = false := by simp [hl]
    have HL := hide hl
    clear hl
    go_enter Try.func39, Try.ntmps39
    go_wp2
    go_loopg [5] a.length (fun g iv wr => ∃ (i : Nat), g = a.length - i ∧ iv = .int .i64 (i : Nat) ∧ i ≤ a.length ∧ Hid (a.take i = b.take i) ∧ Hid (Below w.heap.size w wr))
    case atStart => exact ⟨0, rfl, rfl, Nat.zero_le _, rfl, Below.refl _ _⟩
    case round =>
      obtain ⟨i, rfl, rfl, hi, hE, hB⟩ := hrel
      by_cases hlt : i < a.length
      · have hi2 : i < b.length := by omega
        have haW := ha.grow hB.out
        have hbW := hb.grow hB.out
        have ha'W := ha'.grow hB.out
        have hb'W := hb'.grow hB.out
        obtain ⟨bA, oA, cs, rfl, _, hbA, hVA, hcA⟩ := ha'W.get haW hlt
        obtain ⟨bB, oB, ds, rfl, _, hbB, hVB, hcB⟩ := hb'W.get hbW hi2
        clear haW hbW ha'W hb'W
        obtain ⟨k2, bb2, m2, s2, AL2, nL2, cL2, AK2, nK2, cK2, rfl⟩ := hVA.shape
        obtain ⟨k3, bb3, m3, s3, AL3, nL3, cL3, AK3, nK3, cK3, rfl⟩ := hVB.shape
        have g0 : wr.cell? ⟨bA, oA + i * 6, none⟩ = some (.int .i64 k2) := hcA 0 (by decide)
        have g1 : wr.cell? ⟨bA, oA + i * 6 + 1, none⟩ = some (.bool bb2) := hcA 1 (by decide)
        have g2 : wr.cell? ⟨bA, oA + i * 6 + 2, none⟩ = some (.int .i64 m2) := hcA 2 (by decide)
        have g3 : wr.cell? ⟨bA, oA + i * 6 + 3, none⟩ = some (.string s2) := hcA 3 (by decide)
        have g4 : wr.cell? ⟨bA, oA + i * 6 + 4, none⟩ = some (.slice AL2 nL2 cL2) := hcA 4 (by decide)
        have g5 : wr.cell? ⟨bA, oA + i * 6 + 5, none⟩ = some (.slice AK2 nK2 cK2) := hcA 5 (by decide)
        have h0 : wr.cell? ⟨bB, oB + i * 6, none⟩ = some (.int .i64 k3) := hcB 0 (by decide)
        have h1 : wr.cell? ⟨bB, oB + i * 6 + 1, none⟩ = some (.bool bb3) := hcB 1 (by decide)
        have h2 : wr.cell? ⟨bB, oB + i * 6 + 2, none⟩ = some (.int .i64 m3) := hcB 2 (by decide)
        have h3 : wr.cell? ⟨bB, oB + i * 6 + 3, none⟩ = some (.string s3) := hcB 3 (by decide)
        have h4 : wr.cell? ⟨bB, oB + i * 6 + 4, none⟩ = some (.slice AL3 nL3 cL3) := hcB 4 (by decide)
        have h5 : wr.cell? ⟨bB, oB + i * 6 + 5, none⟩ = some (.slice AK3 nK3 cK3) := hcB 5 (by decide)
        have hx1 : (i : Int) < (a.length : Int) := by omega
        have hx2 : (i : Int) < (b.length : Int) := by omega
        clear hcA hcB
        have hih := fun (W : World) (hA : IsV W S a[i] #[.int .i64 k2, .bool bb2, .int .i64 m2, .string s2, .slice AL2 nL2 cL2, .slice AK2 nK2 cK2]) (hB : IsV W T b[i] #[.int .i64 k3, .bool bb3, .int .i64 m3, .string s3, .slice AL3 nL3 cL3, .slice AK3 nK3 cK3]) => ih a[i] (List.getElem_mem hlt) hA hB
        have HIH := hide hih
        have HVA := hide hVA
        have HVB := hide hVB
        clear hih hVA hVB
        go_wp2_with fail
        have hcells : ∀ W : World, Below wr.heap.size wr W → (W.cell? ⟨bA, oA + i * 6, none⟩ = some (.int .i64 k2) ∧ W.cell? ⟨bA, oA + i * 6 + 1, none⟩ = some (.bool bb2) ∧ W.cell? ⟨bA, oA + i * 6 + 2, none⟩ = some (.int .i64 m2) ∧ W.cell? ⟨bA, oA + i * 6 + 3, none⟩ = some (.string s2) ∧ W.cell? ⟨bA, oA + i * 6 + 4, none⟩ = some (.slice AL2 nL2 cL2) ∧ W.cell? ⟨bA, oA + i * 6 + 5, none⟩ = some (.slice AK2 nK2 cK2)) ∧
            (W.cell? ⟨bB, oB + i * 6, none⟩ = some (.int .i64 k3) ∧ W.cell? ⟨bB, oB + i * 6 + 1, none⟩ = some (.bool bb3) ∧ W.cell? ⟨bB, oB + i * 6 + 2, none⟩ = some (.int .i64 m3) ∧ W.cell? ⟨bB, oB + i * 6 + 3, none⟩ = some (.string s3) ∧ W.cell? ⟨bB, oB + i * 6 + 4, none⟩ = some (.slice AL3 nL3 cL3) ∧ W.cell? ⟨bB, oB + i * 6 + 5, none⟩ = some (.slice AK3 nK3 cK3)) :=
          fun W hb => ⟨⟨(hb.cell (by exact hbA)).trans g0, (hb.cell (by exact hbA)).trans g1, (hb.cell (by exact hbA)).trans g2, (hb.cell (by exact hbA)).trans g3, (hb.cell (by exact hbA)).trans g4, (hb.cell (by exact hbA)).trans g5⟩,
            (hb.cell (by exact hbB)).trans h0, (hb.cell (by exact hbB)).trans h1, (hb.cell (by exact hbB)).trans h2, (hb.cell (by exact hbB)).trans h3, (hb.cell (by exact hbB)).trans h4, (hb.cell (by exact hbB)).trans h5⟩
        have hcells := hide hcells
        go_region_held3 (fun W => (W.cell? ⟨bA, oA + i * 6, none⟩ = some (.int .i64 k2) ∧ W.cell? ⟨bA, oA + i * 6 + 1, none⟩ = some (.bool bb2) ∧ W.cell? ⟨bA, oA + i * 6 + 2, none⟩ = some (.int .i64 m2) ∧ W.cell? ⟨bA, oA + i * 6 + 3, none⟩ = some (.string s2) ∧ W.cell? ⟨bA, oA + i * 6 + 4, none⟩ = some (.slice AL2 nL2 cL2) ∧ W.cell? ⟨bA, oA + i * 6 + 5, none⟩ = some (.slice AK2 nK2 cK2)) ∧
            (W.cell? ⟨bB, oB + i * 6, none⟩ = some (.int .i64 k3) ∧ W.cell? ⟨bB, oB + i * 6 + 1, none⟩ = some (.bool bb3) ∧ W.cell? ⟨bB, oB + i * 6 + 2, none⟩ = some (.int .i64 m3) ∧ W.cell? ⟨bB, oB + i * 6 + 3, none⟩ = some (.string s3) ∧ W.cell? ⟨bB, oB + i * 6 + 4, none⟩ = some (.slice AL3 nL3 cL3) ∧ W.cell? ⟨bB, oB + i * 6 + 5, none⟩ = some (.slice AK3 nK3 cK3)))
          (first | exact hcells.out _ (Below.refl _ _) | exact hcells.out _ (Below.drew (Below.refl _ _)) | exact hcells.out _ ((Below.drew (Below.refl _ _)).trans hb5)) (first
          | (go_at_call 17; refine (HIH.out _ (HVA.out.drewN 1) (HVB.out.drewN 1)).mono ?_; rintro e w5 ⟨rfl, hb5⟩))
        have hB5 := hide (hB.out.trans (((Below.drew (Below.refl wr.heap.size wr)).trans hb5).mono hB.out.size))
        have hT : ∀ x y : V, a[i] = x → b[i] = y → a.take (i + 1) = a.take i ++ [x] ∧ b.take (i + 1) = b.take i ++ [y] := by
          rintro x y rfl rfl
          exact ⟨List.take_succ_eq_append_getElem hlt, List.take_succ_eq_append_getElem hi2⟩
        obtain ⟨t1, t2⟩ := hT _ _ rfl rfl
        have hab : a = b → a[i] = b[i] := by rintro rfl; rfl
        have HA := hide (And.intro hT hab)
        clear hcells HVA HVB HIH g0 g1 g2 g3 g4 g5 h0 h1 h2 h3 h4 h5 hb5 hT t1 t2 hab
        generalize hq : eqV a[i] b[i] = q
        have HQ := hide hq
        clear hq
        cases q with
        | true =>
          go_wp2_with fail
          go_roundg (a.length - (i + 1))
          case measure => omega
          case rel => exact ⟨i + 1, rfl, by go_num, by omega, hide (by obtain ⟨t1, t2⟩ := HA.out.1 _ _ rfl rfl; rw [t1, t2, hE.out, eqV_iff.1 HQ.out]), hB5⟩
        | false =>
          go_wp2
          go_ret
          refine ⟨ret_bb ?_, hB5.out⟩
          cases h : eqVs a b with
          | false => rfl
          | true =>
            have := HA.out.2 (eqVs_iff.1 h)
            have h2 := HQ.out
            rw [this, eqV_iff.2 rfl] at h2
            cases h2
      · have hil : a = b := by
          have := hE.out
          rw [List.take_of_length_le (by omega), List.take_of_length_le (by omega)] at this
          exact this
        have hd := hide hil
        clear hil
        go_wp2
        go_ret
        exact ⟨ret_bb (eqVs_iff.2 hd.out).symm, hB.out⟩
  · have hne : ¬ a = b := by rintro rfl; exact hl rfl
    have hlt : (((a.length : Int)) == ((b.length : Int))) = false := by simp; omega
    have hln : (((a.length : Int)) != ((b.length : Int))) = true := by simp; omega
    have HL := hide hl
    clear hl
    have he : false = eqVs a b := by
      cases h : eqVs a b with
      | false => rfl
      | true => exact absurd (eqVs_iff.1 h) hne
    have HE := hide he
    clear he
    go_enter Try.func39, Try.ntmps39
    go_wp2
    go_ret
    exact ⟨ret_bb HE.out, Below.refl _ _⟩


theorem blkc' {w : World} {g t i : Nat} {cs : Array Value} {u : Value} (h : Blk w g t cs) (hi : cs[i]? = some u) : w.cell? ⟨g, i, none⟩ = some u := (h.cell i).trans hi
theorem Below.drewN' {B : Nat} {w w' : World} (h : Below B w w') (m : Nat) : Below B w (w'.drewN m) := ⟨h.os, h.tape, h.output, h.size, h.block⟩
theorem eqV_no {u v : V} (h : ¬ u = v) : false = eqV u v := by
  cases h' : eqV u v with
  | false => rfl
  | true => exact absurd (eqV_iff.1 h') h
theorem mk_ne {k k' : Int} {b b' : Bool} {n n' : Int} {s s' : ByteArray} {l l' : List V} {ks ks' : List ByteArray} (h : ¬ (k = k' ∧ b = b' ∧ n = n' ∧ s = s')) : ¬ V.mk k b n s l ks = V.mk k' b' n' s' l' ks' := by
  intro e
  rw [V.mk.injEq] at e
  exact h ⟨e.1, e.2.1, e.2.2.1, e.2.2.2.1⟩

set_option maxHeartbeats 4000000 in
theorem same_no {w : World} {k k' : Int} {b b' : Bool} {n n' : Int} {s s' : ByteArray} {AL AK AL' AK' : Option Addr} {nl cL nk cK nl' cL' nk' cK' : Nat} (h : ¬ (k = k' ∧ b = b' ∧ n = n' ∧ s = s')) :
    Calls Try.prog 17 #[.agg #[.int .i64 k, .bool b, .int .i64 n, .string s, .slice AL nl cL, .slice AK nk cK], .agg #[.int .i64 k', .bool b', .int .i64 n', .string s', .slice AL' nl' cL', .slice AK' nk' cK']] w fun e w' => e = .returned (.bool false) ∧ Below w.heap.size w w' := by
  by_cases h1 : k = k'
  · subst h1
    by_cases h2 : b = b'
    · subst h2
      by_cases h3 : n = n'
      · subst h3
        have h4 : (s.toList == s'.toList) = false := by rw [strEq]; simpa using h
        clear h
        go_enter Try.func17, Try.ntmps17
        go_wp2
        go_ret
        exact ⟨rfl, ((Below.refl _ w).alloc (Nat.le_refl _) _).alloc (by simp) _⟩
      · have h4 : (n == n') = false := by simp [h3]
        clear h h3
        go_enter Try.func17, Try.ntmps17
        go_wp2
        go_ret
        exact ⟨rfl, ((Below.refl _ w).alloc (Nat.le_refl _) _).alloc (by simp) _⟩
    · have h4 : (b == b') = false := by simp [h2]
      clear h h2
      go_enter Try.func17, Try.ntmps17
      go_wp2
      go_ret
      exact ⟨rfl, ((Below.refl _ w).alloc (Nat.le_refl _) _).alloc (by simp) _⟩
  · have h4 : (k == k') = false := by simp [h1]
    clear h h1
    go_enter Try.func17, Try.ntmps17
    go_wp2
    go_ret
    exact ⟨rfl, ((Below.refl _ w).alloc (Nat.le_refl _) _).alloc (by simp) _⟩

set_option maxHeartbeats 4000000 in
theorem same_any (v : V) : SameC v := by
  refine V.ind (P := SameC) ?_ v
  intro k b n s l ks ih w S T u cs ds hV hU
  obtain ⟨k', b', n', s', l', ks'⟩ := u
  rw [IsV] at hV hU
  obtain ⟨AL, cL, AK, cK, xs, rfl, ⟨hl1, hl2, hk1, hk2⟩, _, hR, hI, hK⟩ := hV
  obtain ⟨AL', cL', AK', cK', xs', rfl, ⟨hl1', hl2', hk1', hk2'⟩, _, hR', hI', hK'⟩ := hU
  by_cases hq : k = k' ∧ b = b' ∧ n = n' ∧ s = s'
  · obtain ⟨rfl, rfl, rfl, rfl⟩ := hq
    have hb0 : Below w.heap.size w ((w.alloc (.cells #[.int .i64 k, .bool b, .int .i64 n, .string s, .slice AL l.length cL, .slice AK ks.length cK] 25)).alloc (.cells #[.int .i64 k, .bool b, .int .i64 n, .string s, .slice AL' l'.length cL', .slice AK' ks'.length cK'] 25)) :=
      ((Below.refl _ w).alloc (Nat.le_refl _) _).alloc (by simp) _
    have hN := fun m => names_any (c := cK) (d := cK') ks ks' ((hK.grow hb0).drewN m) ((hK'.grow hb0).drewN m) (by omega) (by omega)
    have hL := fun m => list_any (c := cL) (d := cL') l ih l' ((hR.grow hb0).drewN m) ((hI.grow hb0).drewN m) ((hR'.grow hb0).drewN m) ((hI'.grow hb0).drewN m) (by omega) (by omega)
    have he : eqV (.mk k b n s l ks) (.mk k b n s l' ks') = (decide (ks = ks') && eqVs l l') := by rw [eqV_mk]; simp
    rw [he]
    have f4 : ∀ m, (((w.alloc (.cells #[.int .i64 k, .bool b, .int .i64 n, .string s, .slice AL l.length cL, .slice AK ks.length cK] 25)).alloc (.cells #[.int .i64 k, .bool b, .int .i64 n, .string s, .slice AL' l'.length cL', .slice AK' ks'.length cK'] 25)).drewN m).cell? ⟨w.heap.size, 4, none⟩ = some (.slice AL l.length cL) := fun m => blkc' (((Blk.new w 25 _).alloc _).drewN m) rfl
    have HN := hide hN
    have HL := hide hL
    have HB := hide hb0
    clear hN hL hR hI hK hR' hI' hK' hb0 he
    by_cases hks : ks = ks'
    · have hd : decide (ks = ks') = true := by simp [hks]
      have HK := hide hks
      clear hks
      rw [hd, Bool.true_and]
      go_enter Try.func17, Try.ntmps17
      go_wp2_with (first | (go_at_call 38; refine (HN.out 0).mono ?_; rintro e w5 ⟨rfl, m5, rfl⟩) | (go_at_call 39; refine (HL.out _).mono ?_; rintro e w6 ⟨rfl, hb6⟩))
      go_ret
      exact ⟨rfl, (Below.drewN' HB.out m5).trans (hb6.mono (by exact HB.out.size))⟩
    · have hd : decide (ks = ks') = false := by simp [hks]
      have HK := hide hks
      clear hks
      rw [hd, Bool.false_and]
      go_enter Try.func17, Try.ntmps17
      go_wp2_with (first | (go_at_call 38; refine (HN.out 0).mono ?_; rintro e w5 ⟨rfl, m5, rfl⟩))
      go_ret
      exact ⟨rfl, Below.drewN' HB.out _⟩
  · rw [← eqV_no (mk_ne hq)]
    exact same_no hq
end Go.Proofs.Ytaapbiiiepdopaa
