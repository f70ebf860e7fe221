/- Whether a map's keys may be: value.keys. -/
import Derived.Test.YtaapbiiiepdopaaMv
import Derived.Test.YtaapbiiiepdopaaSa
import Derived.Test.YtaapbiiiepdopaaBa
namespace Go.Proofs.Ytaapbiiiepdopaa
open Go.RowKit Mem
set_option linter.unusedVariables false

theorem less_total : ∀ (x y : List UInt8), (Op.bytesLess x y || x == y) = !Op.bytesLess y x
  | [], [] => by simp [Op.bytesLess]
  | _ :: _, [] => by simp [Op.bytesLess]
  | [], _ :: _ => by simp [Op.bytesLess]
  | a :: x, b :: y => by
    have ih := less_total x y
    rw [Op.bytesLess, Op.bytesLess]
    by_cases h : a = b
    · subst h
      simpa using ih
    · have h1 : (a == b) = false := by simp [h]
      have h2 : (b == a) = false := by simp; exact fun e => h e.symm
      have h3 : (a :: x == b :: y) = false := by simp [h]
      rw [h1, h2, h3]
      simp only [Bool.false_and, Bool.or_false]
      rw [Bool.eq_iff_iff]
      simp only [decide_eq_true_eq, Bool.not_eq_true', decide_eq_false_iff_not, UInt8.lt_iff_toNat_lt]
      have : a.toNat ≠ b.toNat := fun e => h (UInt8.toNat_inj.1 e)
      omega
theorem last_take {ks : List ByteArray} {i : Nat} (h0 : 0 < i) (h : i ≤ ks.length) : (ks.take i).getLast? = some (ks[i - 1]'(by omega)) := by
  rw [List.getLast?_eq_getElem?, List.length_take, show min i ks.length - 1 = i - 1 by omega, List.getElem?_take, if_pos (by omega), List.getElem?_eq_getElem (by omega)]
theorem ksOk_next {ks : List ByteArray} {i : Nat} (h : i < ks.length) (hp : ksOk none (ks.take i) = true) : ksOk none (ks.take (i + 1)) = (kOk ks[i] && behind (ks.take i).getLast? ks[i]) := by
  rw [List.take_succ_eq_append_getElem h, ksOk_app, hp, Bool.true_and, ksOk, ksOk, Bool.and_true]
  simp
theorem ksOk_bad {ks : List ByteArray} {i : Nat} (h : i ≤ ks.length) (hp : ksOk none (ks.take i) = false) : ksOk none ks = false := by
  conv => lhs; rw [← List.take_append_drop i ks]
  rw [ksOk_app, hp, Bool.false_and]
theorem not_empty {s : ByteArray} (h : s.size ≠ 0) : s.toList.isEmpty = false := by rw [isE]; simp [h]
theorem is_empty {s : ByteArray} (h : s.size = 0) : s.toList.isEmpty = true := by rw [isE]; simp [h]

set_option maxHeartbeats 4000000 in
theorem keys_any {w : World} {S : Nat → Prop} {A : Option Addr} {c : Nat} (ks : List ByteArray) (ha : RdS w S 1 A ks.length (ks.map .string)) (la : ks.length ≤ 9223372036854775807) (lk : ∀ x ∈ ks, x.size ≤ 9223372036854775807) :
    Calls Try.prog 70 #[.slice A ks.length c] w fun e w' => e = .returned (.bool (ksOk none ks)) ∧ w = w' := by
  go_enter Try.func70, Try.ntmps70
  go_wp2_with fail
  go_loopg [7] ks.length (fun g iv wr => ∃ (i : Nat), g = ks.length - i ∧ iv = .int .i64 (i : Nat) ∧ i ≤ ks.length ∧ Hid (ksOk none (ks.take i) = true) ∧ w = wr)
  case atStart => exact ⟨0, rfl, rfl, Nat.zero_le _, hide (by simp [ksOk]), rfl⟩
  case round =>
    obtain ⟨i, rfl, rfl, hi, hE, rfl⟩ := hrel
    by_cases hlt : i < ks.length
    · obtain ⟨bA, oA, rfl, _, hbA, hcA⟩ := ha.plain (by omega) (by omega)
      have fA : w.cell? ⟨bA, oA + i, none⟩ = some (.string ks[i]) := by rw [hcA i (by omega)]; simp [hlt]
      have hsz := lk ks[i] (List.getElem_mem hlt)
      have hnext := ksOk_next hlt hE.out
      have hfp : 0 < i → w.cell? ⟨bA, oA + (i - 1), none⟩ = some (.string (ks[i - 1]'(by omega))) := fun h => by rw [hcA (i - 1) (by omega)]; simp [show i - 1 < ks.length by omega]
      have hlast : 0 < i → (ks.take i).getLast? = some (ks[i - 1]'(by omega)) := fun h => last_take h (by omega)
      have hHE := hide (And.intro hE hlast)
      clear hcA lk hlast hE
      generalize ks[i] = k at fA hsz hnext
      have hK : Hid (ksOk none (ks.take (i + 1)) = (kOk k && behind (ks.take i).getLast? k)) := hnext
      clear hnext
      by_cases c1 : k.size = 0
      · have hb := ksOk_bad (ks := ks) (i := i + 1) (by omega) (by rw [hK.out]; simp [kOk, c1])
        have HBd := hide hb
        have e1 := is_empty c1
        have c1' := hide c1
        clear hb c1 hfp
        go_wp2
        go_ret
        exact ⟨ret_b HBd.out.symm, rfl⟩
      · have e1 := not_empty c1
        by_cases c2 : 64 < k.size
        · have hb := ksOk_bad (ks := ks) (i := i + 1) (by omega) (by rw [hK.out]; simp [kOk]; omega)
          have HBd := hide hb
          clear hb hfp
          go_wp2
          go_ret
          exact ⟨ret_b HBd.out.symm, rfl⟩
        · by_cases c3 : 0 < i
          · have fp := hfp c3
            obtain ⟨hE, hlast⟩ := hHE.out
            have hl := hlast c3
            clear hlast hHE hfp
            generalize ks[i - 1]'(by omega) = k0 at fp hl
            have hKn : ksOk none (ks.take (i + 1)) = less k0 k := by rw [hK.out, hl]; simp [kOk, behind]; omega
            have HKn := hide hKn
            clear hK hKn hl
            have hx1 : (i : Int) - 1 < (ks.length : Int) := by omega
            have hx2 : 0 ≤ (i : Int) - 1 := by omega
            have hx3 : ((i : Int) - 1).toNat = i - 1 := by omega
            by_cases c4 : less k0 k = true
            · have e4 : Op.bytesLess k0.toList k.toList = true := c4
              have H4 := hide c4
              clear c4
              go_wp2_with fail
              go_roundg (ks.length - (i + 1))
              case measure => omega
              case rel => exact ⟨i + 1, rfl, by go_num, by omega, hide (by rw [HKn.out, H4.out]), rfl⟩
            · have e4 : Op.bytesLess k0.toList k.toList = false := by simpa [less] using c4
              have hb := ksOk_bad (ks := ks) (i := i + 1) (by omega) (by rw [HKn.out]; simpa using c4)
              have HBd := hide hb
              clear hb c4
              go_wp2
              all_goals
                go_ret
                exact ⟨ret_b HBd.out.symm, rfl⟩
          · have hi0 : i = 0 := by omega
            subst hi0
            have hKn : ksOk none (ks.take (0 + 1)) = true := by rw [hK.out]; simp [kOk, behind]; omega
            have HKn := hide hKn
            have fA0 : w.cell? ⟨bA, oA, none⟩ = some (.string k) := fA
            clear hK hKn hfp
            go_wp2_with fail
            go_roundg (ks.length - 1)
            case measure => omega
            case rel => exact ⟨1, rfl, by go_num, by omega, hide HKn.out, rfl⟩
    · have hil : ksOk none ks = true := by
        have := hE.out
        rw [List.take_of_length_le (by omega)] at this
        exact this
      have hd := hide hil
      clear hil
      go_wp2
      go_ret
      exact ⟨ret_b hd.out.symm, rfl⟩
end Go.Proofs.Ytaapbiiiepdopaa
