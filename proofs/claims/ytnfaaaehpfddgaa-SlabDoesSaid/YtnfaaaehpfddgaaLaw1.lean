/- SlabRoom: a slab takes just as many things as it has room for. -/
import Derived.Test.YtnfaaaehpfddgaaWo
import Derived.Test.YtnfaaaehpfddgaaRd
import Derived.OpenShut
namespace Go.Proofs.Ytnfaaaehpfddgaa
open Go.RowKit Go.ChangeShapes Go.WideShapes Go.ChangeAt Mem
set_option linter.unusedVariables false

theorem el27 : Elem Try.prog 27 29 (.agg #[.int .i64 0, .int .i64 0]) 2 16 := ⟨Try.underlying27, by kernel_rfl, rfl, by decide⟩
/-- the first k numbers laid in -/
def filled : Nat → List S3
  | 0 => []
  | k + 1 => filled k ++ [(1, (k : Int), true)]
def handles : Nat → List Value
  | 0 => []
  | k + 1 => handles k ++ [Value.int .i64 (k : Int), .int .i64 1]
theorem filled_len (k : Nat) : (filled k).length = k := by
  induction k with
  | zero => rfl
  | succ k ih => simp [filled, ih]
theorem filled_lives (k : Nat) : lives (filled k) = k := by
  induction k with
  | zero => rfl
  | succ k ih => unfold lives at ih ⊢; rw [filled, List.countP_append, ih]; simp
theorem filled_at {k i : Nat} (h : i < k) : (filled k)[i]? = some (1, (i : Int), true) := by
  induction k with
  | zero => omega
  | succ k ih =>
    rw [filled]
    by_cases hi : i < k
    · rw [List.getElem?_append_left (by rw [filled_len]; exact hi)]
      exact ih hi
    · have : i = k := by omega
      subst this
      rw [List.getElem?_append_right (by rw [filled_len]; exact Nat.le_refl _), filled_len]
      simp
theorem handles_len (k : Nat) : (handles k).length = k * 2 := by
  induction k with
  | zero => rfl
  | succ k ih => simp [handles, ih]; omega
theorem handles_at {k i : Nat} (h : i < k) : (handles k)[i * 2]? = some (.int .i64 (i : Int)) ∧ (handles k)[i * 2 + 1]? = some (.int .i64 1) := by
  induction k with
  | zero => omega
  | succ k ih =>
    rw [handles]
    by_cases hi : i < k
    · rw [List.getElem?_append_left (by rw [handles_len]; omega), List.getElem?_append_left (by rw [handles_len]; omega)]
      exact ih hi
    · have : i = k := by omega
      subst this
      rw [List.getElem?_append_right (by rw [handles_len]; exact Nat.le_refl _), List.getElem?_append_right (by rw [handles_len]; omega), handles_len]
      simp
theorem filled_gen {k : Nat} : ∀ s ∈ filled k, s.1 = 1 ∧ s.2.2 = true := by
  induction k with
  | zero => intro s hs; cases hs
  | succ k ih =>
    intro s hs
    rw [filled] at hs
    rcases List.mem_append.1 hs with hs | hs
    · exact ih s hs
    · rcases List.mem_cons.1 hs with rfl | hs
      · exact ⟨rfl, rfl⟩
      · cases hs
theorem ff_all {sl : List S3} (h : lives sl = sl.length) : ff (sl ++ [(0, 0, false)]) = sl.length := by
  apply ff_eq
  · rw [isFree_app, if_pos rfl]; rfl
  · intro u hu
    rw [isFree_app] at hu
    by_cases h1 : u = sl.length
    · omega
    · rw [if_neg h1] at hu
      unfold isFree at hu
      split at hu
      · next s hs =>
        have : s.2.2 = true := by
          have := List.countP_eq_length.1 h s (List.mem_of_getElem? hs)
          simpa using this
        rw [this] at hu
        cases hu
      · cases hu
theorem gen_app (sl : List S3) : genOf (sl ++ [(0, 0, false)]) sl.length = 0 := by unfold genOf; simp
theorem set_app (sl : List S3) (a s : S3) : (sl ++ [a]).set sl.length s = sl ++ [s] := by
  induction sl with
  | nil => rfl
  | cons x r ih => simp
theorem put_full_spec {sl : List S3} (h : lives sl = sl.length) (x : Int) : grown sl = sl ++ [(0, 0, false)] ∧ ff (grown sl) = sl.length ∧ genOf (grown sl) (ff (grown sl)) = 0 ∧ putS sl x = sl ++ [(1, x, true)] := by
  have hg : grown sl = sl ++ [(0, 0, false)] := by unfold grown; rw [if_pos h]
  have hf : ff (grown sl) = sl.length := by rw [hg, ff_all h]
  have hn : genOf (grown sl) (ff (grown sl)) = 0 := by rw [hf, hg, gen_app]
  refine ⟨hg, hf, hn, ?_⟩
  unfold putS
  rw [hn, hf, hg, set_app]
/-- where all but slot k are taken -/
theorem put_hole {sl : List S3} {k z0 : Nat} {z1 : Int} (hs : sl[k]? = some (z0, z1, false)) (ho : ∀ u, u ≠ k → isFree sl u = false) (hl : lives sl < sl.length) (x : Int) : grown sl = sl ∧ ff (grown sl) = k ∧ genOf (grown sl) (ff (grown sl)) = z0 ∧ putS sl x = sl.set k (z0 + 1, x, true) := by
  have hg : grown sl = sl := by unfold grown; rw [if_neg (by omega)]
  have hf : ff (grown sl) = k := by
    rw [hg]
    apply ff_eq
    · simp [isFree, hs]
    · intro u hu
      by_cases h : u = k
      · omega
      · rw [ho u h] at hu; cases hu
  have hn : genOf (grown sl) (ff (grown sl)) = z0 := by rw [hf, hg]; unfold genOf; rw [hs]
  refine ⟨hg, hf, hn, ?_⟩
  unfold putS
  rw [hn, hf, hg]

/-- kinds that the statements turn, and the reference -/
def LT (o : Obj) : Prop := ∃ cs t fr, o = .cells cs t fr ∧ (t = 29 ∨ t = 4 ∨ t = 2 ∨ t = 53)
theorem LT_KT {o : Obj} (h : KT o) : ¬ LT o := by
  rintro ⟨cs, t, fr, rfl, ht⟩
  obtain ⟨_, _, _, e, ht'⟩ := h
  cases e
  rcases ht with rfl | rfl | rfl | rfl <;> rcases ht' with h | h | h <;> cases h
theorem sl_fr {T} {w w' : World} {B g : Nat} {most : Int} {sl : List S3} (h : Sl w B g most sl) (hf : Fr T w w') (hT : ∀ o, KT o → ¬ T o) : Sl w' B g most sl := by
  obtain ⟨V, v, fr, h⟩ := h
  exact ⟨V, v, fr, ⟨hf.block _ _ h.fre.blk (hT _ ⟨_, _, _, rfl, .inl rfl⟩), h.fre.fld, own_fr h.fre.own hf (fun cs fr => hT _ ⟨_, _, _, rfl, .inr (.inr rfl)⟩), h.fre.heap⟩, own_fr h.own hf (fun cs fr => hT _ ⟨_, _, _, rfl, .inr (.inl rfl)⟩), h.cnt, h.len, h.lo, Nat.le_trans h.sz hf.size⟩

theorem count300 (z : Int) : ∃ m : Nat, wrap64 (1 + wrap64 ((IntKind.u64.wrap z).tmod 300)) = (m : Int) ∧ 1 ≤ m ∧ m ≤ 300 := by
  have h0 : 0 ≤ IntKind.u64.wrap z := by
    have e : IntKind.u64.wrap z = z % 18446744073709551616 := by simp [IntKind.wrap, IntKind.bits, IntKind.signed]
    omega
  generalize IntKind.u64.wrap z = u at h0
  have h1 : u.tmod 300 = u % 300 := Int.tmod_eq_emod_of_nonneg h0
  rw [h1]
  have h2 : wrap64 (u % 300) = u % 300 := by unfold wrap64; omega
  rw [h2]
  refine ⟨(1 + u % 300).toNat, ?_, by omega, by omega⟩
  have h3 : wrap64 (1 + u % 300) = 1 + u % 300 := by unfold wrap64; omega
  rw [h3]
  omega

theorem rem_lt (z : Int) {k : Nat} (h1 : 1 ≤ k) (h2 : k ≤ 65536) : ∃ j : Nat, wrap64 ((IntKind.u64.wrap z).tmod (k : Int)) = (j : Int) ∧ j < k := by
  have h0 : 0 ≤ IntKind.u64.wrap z := by
    have e : IntKind.u64.wrap z = z % 18446744073709551616 := by simp [IntKind.wrap, IntKind.bits, IntKind.signed]
    omega
  generalize IntKind.u64.wrap z = u at h0
  rw [Int.tmod_eq_emod_of_nonneg h0]
  have h3 : 0 ≤ u % (k : Int) := Int.emod_nonneg _ (by omega)
  have h4 : u % (k : Int) < k := Int.emod_lt_of_pos _ (by omega)
  generalize u % (k : Int) = r at h3 h4
  refine ⟨r.toNat, ?_, by omega⟩
  unfold wrap64
  omega
theorem fnd_dead {sl : List S3} {k z0 : Nat} {z1 : Int} (hs : sl[k]? = some (z0, z1, false)) (h1 : 1 ≤ z0) : fnd sl k z0 = 24 := by
  unfold fnd
  rw [if_neg (by omega), Int.toNat_natCast, hs]
  simp
  omega

set_option maxRecDepth 100000 in
set_option maxHeartbeats 4000000 in
theorem room_any (z z' : Int) (w : World) : Calls Try.prog 3 #[.int .i64 z, .int .i64 z'] w fun e w' => e = .returned (.bool true) ∧ Below w.heap.size w w' := by
  obtain ⟨m, hm, hm1, hm3⟩ := count300 z
  go_enter Try.func3, Try.ntmps3
  go_wp2_with fail
  rw [hm]
  clear hm
  generalize wrap64 ((IntKind.u64.wrap z).tmod 300) = z1
  generalize (IntKind.u64.wrap z).tmod 300 = z2
  generalize IntKind.u64.wrap z = z3
  refine (new_any w m (by omega) (by omega)).mono ?_
  rintro e w1 ⟨rfl, h1, b1, s1⟩
  go_wp2_with fail
  go_loopw [8, 9] (fun ts i wr => ∃ k A c, k ≤ m ∧ ts = .slice A k c ∧ i = .int .i64 (k : Nat) ∧ Hid (wr.ownsRow w.heap.size 29 2 (.slice A k c) k (handles k)) ∧ Hid (Sl wr w.heap.size w.heap.size m (filled k)) ∧ Hid (Below w.heap.size w wr))
    (fun _ i _ => m - (intOf i).toNat)
  case atStart => exact ⟨0, none, 0, Nat.zero_le _, rfl, rfl, World.ownsRow_nil _ _ _ _, h1, b1⟩
  case round =>
    obtain ⟨k, A, c, hk, rfl, rfl, hT, hS, hB⟩ := hrel
    have hfl := filled_lives k
    have hfn := filled_len k
    by_cases hlt : k < m
    · obtain ⟨e1, e2, e3, e4⟩ := put_full_spec (hfl.trans hfn.symm) (k : Int)
      go_wp2_with fail
      have hp := put_ok (k : Int) hS.out (by omega) (by omega) (fun s hs => by rw [(filled_gen s hs).1]; decide)
      rw [e3, e2, e4, hfn] at hp
      refine hp.mono ?_
      rintro e w2 ⟨rfl, hS2, hF2, hB2⟩
      have hS2' : Sl w2 w.heap.size w.heap.size m (filled (k + 1)) := hS2
      have hT2 := own_fr hT.out hF2 KT29
      clear hp e1 e2 e3 e4 hS2 hfl hfn hS hT
      go_wp2_with (first | (at_builtin; refine pause ?_) | go_in)
      have hlit := Reads.lit (w2.alloc (.cells #[.int .i64 (k : Int), .int .i64 1] 29)) #[.int .i64 (k : Int), .int .i64 1] 29 1 2 rfl
      rw [show (w2.alloc (.cells #[.int .i64 (k : Int), .int .i64 1] 29)).heap.size = w2.heap.size + 1 by simp] at hlit
      have hsz := Nat.le_trans hB.out.size hB2.size
      refine unpause (wpList_app el27 (.tmp 59) (.tmp 61) ((hT2.alloc (.cells #[.int .i64 (k : Int), .int .i64 1] 29)).alloc (.cells #[.int .i64 (k : Int), .int .i64 1] 29)) hlit (by intro u hu; rcases List.mem_cons.1 hu with rfl | hu; rfl; rcases List.mem_cons.1 hu with rfl | hu; rfl; cases hu) (N := k + 1) (ys := handles (k + 1)) rfl rfl (by unfold maxLen; omega) (by omega) (by simp; omega) rfl rfl rfl rfl ?_)
      intro A3 c3 w3 hown3 hg3 hb3
      have F3 : Fr LT w2 w3 := fr_grown (((Fr.refl LT w2).alloc (.cells #[.int .i64 (k : Int), .int .i64 1] 29)).alloc (.cells #[.int .i64 (k : Int), .int .i64 1] 29)) ((hT2.alloc _).alloc _) hg3 (fun cs fr => ⟨_, _, _, rfl, .inl rfl⟩)
      have B3 : Below w.heap.size w2 w3 := below_grown (((Below.refl w.heap.size w2).alloc hsz (.cells #[.int .i64 (k : Int), .int .i64 1] 29)).alloc (by simp; omega) (.cells #[.int .i64 (k : Int), .int .i64 1] 29)) (by simp; omega) ((hT2.alloc _).alloc _) hg3
      have S3 := hide (sl_fr hS2' F3 (fun o => LT_KT))
      have HB3 := hide ((hB.out.trans hB2).trans B3)
      have HT3 := hide hown3
      clear hS2' hT2 hlit hown3 hg3 hb3 F3 B3 hB hB2 hF2
      go_wp2_with fail
      go_roundw
      case rel => exact ⟨k + 1, A3, c3, hlt, rfl, by go_num, HT3, S3, HB3⟩
      case measure => simp [intOf]; omega
    · have hkm : k = m := by omega
      subst hkm
      go_wp2_with fail
      refine (put_full 5 hS.out (by rw [hfl]; exact Int.le_refl _)).mono ?_
      rintro e w2 ⟨rfl, hS2, hF2, hB2⟩
      have hT2 := own_fr hT.out hF2 KT29
      have HB2 := hide (hB.out.trans hB2)
      obtain ⟨j, hj, hjk⟩ := rem_lt z' hm1 (by omega)
      obtain ⟨b, c', e1⟩ := own_slice hT2 hm1
      cases e1
      obtain ⟨y0, y1⟩ := handles_at hjk
      have hT3 := hT2.alloc (.cells #[.int .i64 0, .int .i64 0] 29)
      have g0 := own_at hT3 y0
      have g1 := own_at hT3 y1
      have hsz : w.heap.size ≤ w2.heap.size := HB2.out.size
      have HB3 := hide (HB2.out.alloc hsz (.cells #[.int .i64 0, .int .i64 0] 29))
      have S3 := hS2.alloc (.cells #[.int .i64 0, .int .i64 0] 29)
      have hat := filled_at hjk
      have hfn' : fnd (filled k) j 1 = 0 := fnd_at (z0 := 1) hat (Nat.le_refl _)
      have hfs : freeS (filled k) j 1 = (filled k).set j (1, 0, false) := by unfold freeS; rw [if_pos hfn', Int.toNat_natCast]; rfl
      clear hS hT hB hF2 hB2 HB2 hS2 hT2
      go_wp2_with fail
      rw [hj]
      clear hj
      generalize w2.heap.size = r2
      generalize w2.alloc (.cells #[.int .i64 0, .int .i64 0] 29) = w2' at hT3 g0 g1 HB3 S3 ⊢
      have hp := free_any (j : Int) 1 S3 (by rw [hfn]; omega)
      rw [hfn', hfs] at hp
      refine hp.mono ?_
      rintro e w4 ⟨rfl, hS4, hF4, hB4⟩
      have hT4 := own_fr hT3 hF4 KT29
      have g0 := own_at hT4 y0
      have g1 := own_at hT4 y1
      have hat2 : ((filled k).set j (1, 0, false))[j]? = some (1, 0, false) := by rw [List.getElem?_set_self (by rw [hfn]; exact hjk)]
      have hlv2 := lives_set (1, 0, false) hat
      have hln2 : ((filled k).set j (1, 0, false)).length = k := by rw [List.length_set, hfn]
      have hfd : fnd ((filled k).set j (1, 0, false)) j 1 = 24 := fnd_dead (z0 := 1) hat2 (Nat.le_refl _)
      have hfs2 : freeS ((filled k).set j (1, 0, false)) j 1 = (filled k).set j (1, 0, false) := by unfold freeS; rw [if_neg (by rw [hfd]; decide)]
      have hho : ∀ u, u ≠ j → isFree ((filled k).set j (1, 0, false)) u = false := by
        intro u hu
        rw [isFree_set _ (by rw [hfn]; exact hjk), if_neg hu]
        unfold isFree
        split
        · next s hs => rw [(filled_gen s (List.mem_of_getElem? hs)).2]; rfl
        · rfl
      simp only [if_true, Nat.add_zero, Bool.false_eq_true, if_false, hfl] at hlv2
      have HB4 := hide (HB3.out.trans hB4)
      clear hp hT3 HB3 S3 hF4 hB4
      go_wp2_with fail
      have hp := free_any (j : Int) 1 hS4 (by rw [hln2]; omega)
      rw [hfd, hfs2] at hp
      refine hp.mono ?_
      rintro e w5 ⟨rfl, hS5, hF5, hB5⟩
      have HB5 := hide (HB4.out.trans hB5)
      clear hp hT4 HB4 hS4 hF5 hB5 g0 g1
      go_wp2_with fail
      obtain ⟨e1, e2, e3, e4⟩ := put_hole hat2 hho (by rw [hln2]; omega) 6
      have hp := put_ok 6 hS5 (by omega) (by rw [hln2]; omega) (fun s hs => by
        rcases List.mem_or_eq_of_mem_set hs with hs | rfl
        · rw [(filled_gen s hs).1]; decide
        · decide)
      rw [e3, e2, e4] at hp
      refine hp.mono ?_
      rintro e w6 ⟨rfl, hS6, hF6, hB6⟩
      have hlv6 := lives_set (1 + 1, 6, true) hat2
      simp only [if_true, Nat.add_zero, Bool.false_eq_true, if_false] at hlv6
      have HB6 := hide (HB5.out.trans hB6)
      have hsz6 : w.heap.size ≤ w6.heap.size := HB6.out.size
      clear hp e1 e2 e3 e4 hS5 HB5 hF6 hB6
      go_wp2_with fail
      have R6 := Blk.new w6 29 #[.int .i64 (j : Int), .int .i64 2]
      have S6 := hS6.alloc (.cells #[.int .i64 (j : Int), .int .i64 2] 29)
      have HB7 := hide (HB6.out.alloc hsz6 (.cells #[.int .i64 (j : Int), .int .i64 2] 29))
      have hln6 : (((filled k).set j (1, 0, false)).set j (1 + 1, 6, true)).length = k := by rw [List.length_set, hln2]
      generalize w6.heap.size = r6 at R6 hsz6 ⊢
      generalize w6.alloc (.cells #[.int .i64 (j : Int), .int .i64 2] 29) = w7 at R6 S6 HB7 ⊢
      have hl7 : lives (((filled k).set j (1, 0, false)).set j (1 + 1, 6, true)) = k := by omega
      refine (put_full 7 S6 (by rw [hl7]; exact Int.le_refl _)).mono ?_
      rintro e w8 ⟨rfl, hS8, hF8, hB8⟩
      have R8 := (blk_fr R6 hF8 KT29).alloc (.cells #[.int .i64 0, .int .i64 0] 29)
      have hsz8 : w.heap.size ≤ w8.heap.size := Nat.le_trans HB7.out.size hF8.size
      have HB9 := hide ((HB7.out.trans hB8).alloc hsz8 (.cells #[.int .i64 0, .int .i64 0] 29))
      have S9 := hS8.alloc (.cells #[.int .i64 0, .int .i64 0] 29)
      have d0 : (w8.alloc (.cells #[.int .i64 0, .int .i64 0] 29)).cell? ⟨r6, 0, none⟩ = some (.int .i64 (j : Int)) := by rw [R8.cell]; rfl
      have d1 : (w8.alloc (.cells #[.int .i64 0, .int .i64 0] 29)).cell? ⟨r6, 1, none⟩ = some (.int .i64 2) := by rw [R8.cell]; rfl
      have hlive := live_any S9
      have hslots := slots_any S9
      rw [hl7] at hlive
      rw [hln6] at hslots
      clear R6 S6 HB7 hS8 hF8 hB8 R8 hat hfs hfs2 hfd hfn' hho hat2 hlv2 hln2 hlv6 hS6 HB6 y0 y1 S9 hln6 hl7
      go_wp2_with fail
      refine hlive.mono ?_
      rintro e w9 ⟨rfl, rfl⟩
      go_wp2_with fail
      refine hslots.mono ?_
      rintro e w9 ⟨rfl, rfl⟩
      clear hlive hslots
      go_wp2_with fail
      refine (works_any _).mono ?_
      rintro e w9 ⟨rfl, hb9⟩
      go_wp2
      go_ret
      exact ⟨rfl, HB9.out.trans (hb9.mono HB9.out.size)⟩

theorem slabRoom_walk (H : Type) (enc : TypeId × Value → H) (W : World) (base : Nat) (v0 : Value) (d0 : DataW H) (p0 : List MemPlace) (v1 : Value) (d1 : DataW H) (p1 : List MemPlace)
    (x0 : Value.okWide Try.prog W .any base 3 v0) (h0 : DataW.Trod enc Try.prog W 0 (fun _ => true) true 3 v0 d0 p0) (x1 : Value.okWide Try.prog W .any base 3 v1) (h1 : DataW.Trod enc Try.prog W 0 (fun _ => true) true 3 v1 d1 p1) :
    Calls Try.prog 3 #[v0, v1] W fun e W' => e = .returned (.bool true) ∧ Below W.heap.size W W' := by
  obtain ⟨z, rfl, _⟩ := open_int Try.underlying3 x0 h0
  obtain ⟨z', rfl, _⟩ := open_int Try.underlying3 x1 h1
  exact room_any z z' W
end Go.Proofs.Ytnfaaaehpfddgaa
