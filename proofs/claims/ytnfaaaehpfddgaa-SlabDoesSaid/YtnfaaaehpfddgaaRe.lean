/- The reference's slab: its state, New, Count. -/
import Derived.Test.YtnfaaaehpfddgaaPy
namespace Go.Proofs.Ytnfaaaehpfddgaa
open Go.RowKit Mem
set_option linter.unusedVariables false

def gnC (rl : List S3) : List Value := rl.map fun s => Value.int .i64 (s.1 : Int)
def vaC (rl : List S3) : List Value := rl.map fun s => Value.int .i64 s.2.1
def liC (rl : List S3) : List Value := rl.map fun s => Value.bool s.2.2
theorem gnC_at {rl : List S3} {k : Nat} {s : S3} (h : rl[k]? = some s) : (gnC rl)[k]? = some (.int .i64 (s.1 : Int)) := by unfold gnC; rw [List.getElem?_map, h]; rfl
theorem vaC_at {rl : List S3} {k : Nat} {s : S3} (h : rl[k]? = some s) : (vaC rl)[k]? = some (.int .i64 s.2.1) := by unfold vaC; rw [List.getElem?_map, h]; rfl
theorem liC_at {rl : List S3} {k : Nat} {s : S3} (h : rl[k]? = some s) : (liC rl)[k]? = some (.bool s.2.2) := by unfold liC; rw [List.getElem?_map, h]; rfl

/-- the reference at block r -/
structure RsV (w : World) (B r : Nat) (most : Int) (n : Nat) (vG vV vL : Value) (xG xV xL : List Value) : Prop where
  blk : Blk w r 53 #[.int .i64 most, vG, vV, vL]
  oG : w.ownsRow B 2 1 vG n xG
  oV : w.ownsRow B 2 1 vV n xV
  oL : w.ownsRow B 4 1 vL n xL
  sep : ∀ k, vG.ownBlock = some k → ¬ vV.ownBlock = some k
  lo : B ≤ r
  sz : B ≤ w.heap.size
def Rs (w : World) (B r : Nat) (most : Int) (rl : List S3) : Prop := ∃ vG vV vL, RsV w B r most rl.length vG vV vL (gnC rl) (vaC rl) (liC rl)

def RT (o : Obj) : Prop := ∃ cs t fr, o = .cells cs t fr ∧ (t = 53 ∨ t = 2 ∨ t = 4)
theorem RT_KT {o : Obj} (h : KT o) : ¬ RT o := by
  rintro ⟨cs, t, fr, rfl, ht⟩
  obtain ⟨_, _, _, e, ht'⟩ := h
  cases e
  rcases ht with rfl | rfl | rfl <;> rcases ht' with h | h | h <;> cases h
theorem KT_RT {o : Obj} (h : RT o) : ¬ KT o := fun hk => RT_KT hk h
theorem RT29 (cs : Array Value) (fr : Nat × Nat) : ¬ RT (.cells cs 29 fr) := by
  rintro ⟨_, _, _, e, ht⟩
  cases e
  rcases ht with h | h | h <;> cases h
theorem RT38 (cs : Array Value) (fr : Nat × Nat) : ¬ RT (.cells cs 38 fr) := by
  rintro ⟨_, _, _, e, ht⟩
  cases e
  rcases ht with h | h | h <;> cases h
def RLeft (w : World) (B r : Nat) (most : Int) (rl : List S3) (w' : World) : Prop := Rs w' B r most rl ∧ Fr RT w w' ∧ Below B w w'

section
variable {w w' : World} {B r n : Nat} {most : Int} {rl : List S3} {vG vV vL : Value} {xG xV xL : List Value}
theorem RsV.alloc (h : RsV w B r most n vG vV vL xG xV xL) (o : Obj) : RsV (w.alloc o) B r most n vG vV vL xG xV xL :=
  ⟨h.blk.alloc o, h.oG.alloc o, h.oV.alloc o, h.oL.alloc o, h.sep, h.lo, Nat.le_trans h.sz (by simp)⟩
theorem RsV.drewN (h : RsV w B r most n vG vV vL xG xV xL) (k : Nat) : RsV (w.drewN k) B r most n vG vV vL xG xV xL :=
  ⟨h.blk.drewN k, own_drewN h.oG k, own_drewN h.oV k, own_drewN h.oL k, h.sep, h.lo, h.sz⟩
theorem RsV.same (h : RsV w B r most n vG vV vL xG xV xL) (ho : Only (fun _ => False) w w') : RsV w' B r most n vG vV vL xG xV xL :=
  ⟨h.blk.only ho id, own_only h.oG ho (fun _ _ => id), own_only h.oV ho (fun _ _ => id), own_only h.oL ho (fun _ _ => id), h.sep, h.lo, Nat.le_trans h.sz ho.size⟩
theorem Rs.alloc (h : Rs w B r most rl) (o : Obj) : Rs (w.alloc o) B r most rl := by
  obtain ⟨a, b, c, h⟩ := h
  exact ⟨a, b, c, h.alloc o⟩
theorem Rs.drewN (h : Rs w B r most rl) (k : Nat) : Rs (w.drewN k) B r most rl := by
  obtain ⟨a, b, c, h⟩ := h
  exact ⟨a, b, c, h.drewN k⟩
theorem rleft_same (h : Rs w B r most rl) (ho : Only (fun _ => False) w w') : RLeft w B r most rl w' := by
  obtain ⟨a, b, c, h⟩ := h
  exact ⟨⟨a, b, c, h.same ho⟩, .ofOnly ho (fun k hk => hk.elim), ho.below (fun k _ hk => hk.elim) h.sz⟩
theorem rs_fr {T} (h : Rs w B r most rl) (hf : Fr T w w') (hT : ∀ o, RT o → ¬ T o) : Rs w' B r most rl := by
  obtain ⟨a, b, c, h⟩ := h
  exact ⟨a, b, c, hf.block _ _ h.blk (hT _ ⟨_, _, _, rfl, .inl rfl⟩), own_fr h.oG hf (fun cs fr => hT _ ⟨_, _, _, rfl, .inr (.inl rfl)⟩), own_fr h.oV hf (fun cs fr => hT _ ⟨_, _, _, rfl, .inr (.inl rfl)⟩), own_fr h.oL hf (fun cs fr => hT _ ⟨_, _, _, rfl, .inr (.inr rfl)⟩), h.sep, h.lo, Nat.le_trans h.sz hf.size⟩
end

theorem refnew_any (w : World) (B : Nat) (most : Int) (h1 : 1 ≤ most) (h2 : most ≤ 65536) (hB : B ≤ w.heap.size) : Calls Try.prog 15 #[.int .i64 most] w fun e w' => e = .returned (.tuple #[.pointer (some ⟨w.heap.size, 0, none⟩), .int .i64 0]) ∧ Rs w' B w.heap.size most [] ∧ Below w.heap.size w w' ∧ w.heap.size < w'.heap.size := by
  go_enter Try.func15, Try.ntmps15
  go_wp2
  go_ret2
  refine ⟨rfl, ⟨.slice none 0 0, .slice none 0 0, .slice none 0 0, ⟨Blk.new w 53 _, World.ownsRow_nil _ _ _ _, World.ownsRow_nil _ _ _ _, World.ownsRow_nil _ _ _ _, (fun k hk => by cases hk), hB, ?_⟩⟩, (Below.refl _ w).alloc (Nat.le_refl _) _, by simp⟩
  simp
  omega

theorem lives_take {rl : List S3} {k : Nat} {s : S3} (h : rl[k]? = some s) : lives (rl.take (k + 1)) = lives (rl.take k) + (if s.2.2 then 1 else 0) := by
  unfold lives
  rw [List.take_add_one, h, List.countP_append]
  simp [List.countP_cons]

theorem refcount_any {w : World} {B r : Nat} {most : Int} {rl : List S3} (h : Rs w B r most rl) (hn : rl.length ≤ 4294967296) : Calls Try.prog 22 #[.pointer (some ⟨r, 0, none⟩)] w fun e w' => e = .returned (.int .i64 (lives rl : Int)) ∧ w = w' := by
  obtain ⟨vG, vV, vL, h⟩ := h
  have f3 : w.cell? ⟨r, 3, none⟩ = some vL := by rw [h.blk.cell]; rfl
  obtain ⟨A, c, rfl, _⟩ := own_form h.oL
  go_enter Try.func22, Try.ntmps22
  go_wp2
  go_loopw [3, 4] (fun s i wr => ∃ k, k ≤ rl.length ∧ i = .int .i64 (k : Nat) ∧ s = .int .i64 (lives (rl.take k) : Nat) ∧ wr = w) (fun _ i _ => rl.length - (intOf i).toNat)
  case atStart => exact ⟨0, Nat.zero_le _, rfl, rfl, rfl⟩
  case round =>
    obtain ⟨k, hk, rfl, rfl, rfl⟩ := hrel
    have hcl := lives_le (rl.take k)
    rw [List.length_take] at hcl
    by_cases hlt : k < rl.length
    · have hs : rl[k]? = some rl[k] := List.getElem?_eq_getElem hlt
      generalize rl[k] = s at hs
      obtain ⟨b, c', e1⟩ := own_slice h.oL (by omega)
      cases e1
      have fk := own_at h.oL (liC_at hs)
      have hsu := lives_take hs
      obtain ⟨z0, z1, z2⟩ := s
      have HS := hide hsu
      clear hsu hs
      cases z2 with
      | true =>
        go_wp2
        go_roundw
        case rel => exact ⟨k + 1, by omega, by go_num, by rw [HS.out]; simp only [if_true]; go_num, trivial⟩
        case measure => simp [intOf]; omega
      | false =>
        go_wp2
        go_roundw
        case rel => exact ⟨k + 1, by omega, by go_num, by rw [HS.out]; simp, trivial⟩
        case measure => simp [intOf]; omega
    · have e : rl.take k = rl := List.take_of_length_le (by omega)
      rw [e]
      go_wp2
      go_ret
      exact ⟨rfl, rfl⟩

set_option maxHeartbeats 800000 in
set_option maxRecDepth 100000 in
/-- look: what is wrong with a handle -/
theorem reflook_any {w : World} {B r : Nat} {most : Int} {rl : List S3} (s h : Int) (hR : Rs w B r most rl) (hn : rl.length ≤ 4294967296) :
    Calls Try.prog 27 #[.pointer (some ⟨r, 0, none⟩), .agg #[.int .i64 s, .int .i64 h]] w fun e w' => e = .returned (.int .i64 (fnd rl s h)) ∧ Only (fun _ => False) w w' := by
  obtain ⟨vG, vV, vL, hV⟩ := hR
  obtain ⟨AG, cG, rfl, _⟩ := own_form hV.oG
  obtain ⟨AL, cL, rfl, _⟩ := own_form hV.oL
  have ha := hV.alloc (.cells #[.int .i64 s, .int .i64 h] 29)
  have f1 : (w.alloc (.cells #[.int .i64 s, .int .i64 h] 29)).cell? ⟨r, 1, none⟩ = some (.slice AG rl.length cG) := by rw [ha.blk.cell]; rfl
  have f3 : (w.alloc (.cells #[.int .i64 s, .int .i64 h] 29)).cell? ⟨r, 3, none⟩ = some (.slice AL rl.length cL) := by rw [ha.blk.cell]; rfl
  have hb := Blk.new w 29 #[.int .i64 s, .int .i64 h]
  have r0 : (w.alloc (.cells #[.int .i64 s, .int .i64 h] 29)).cell? ⟨w.heap.size, 0, none⟩ = some (.int .i64 s) := by rw [hb.cell]; rfl
  have r1 : (w.alloc (.cells #[.int .i64 s, .int .i64 h] 29)).cell? ⟨w.heap.size, 1, none⟩ = some (.int .i64 h) := by rw [hb.cell]; rfl
  have HO : Hid (Only (fun _ => False) w (w.alloc (.cells #[.int .i64 s, .int .i64 h] 29))) := (Only.refl (fun _ => False) w).alloc _
  have HA := hide ha
  clear hb hV ha
  by_cases h1 : s < 0
  · have e1 : fnd rl s h = 23 := by unfold fnd; rw [if_pos h1]
    rw [e1]
    clear e1
    go_enter Try.func27, Try.ntmps27
    go_wp2
    go_quiet (fail)
    go_wp2
    go_ret
    exact ⟨rfl, HO.out.drewN _⟩
  · obtain ⟨k, rfl⟩ : ∃ k : Nat, s = k := ⟨s.toNat, by omega⟩
    by_cases h2 : rl.length ≤ k
    · have e1 : fnd rl k h = 23 := by unfold fnd; rw [if_neg h1, Int.toNat_natCast, List.getElem?_eq_none h2]
      rw [e1]
      have d1 : decide ((k : Int) < 0) = false := decide_eq_false h1
      have d2 : decide ((rl.length : Int) ≤ (k : Int)) = true := decide_eq_true (by omega)
      clear e1
      go_enter Try.func27, Try.ntmps27
      go_wp2
      go_quiet (fail)
      go_wp2
      go_ret
      exact ⟨rfl, HO.out.drewN _⟩
    · have hs : rl[k]? = some (rl[k]'(by omega)) := List.getElem?_eq_getElem (by omega)
      generalize rl[k]'(by omega) = x at hs
      obtain ⟨z0, z1, z2⟩ := x
      obtain ⟨bG, c', e1⟩ := own_slice HA.out.oG (by omega)
      cases e1
      obtain ⟨bL, c', e1⟩ := own_slice HA.out.oL (by omega)
      cases e1
      have c0 := own_at HA.out.oG (gnC_at hs)
      have c2 := own_at HA.out.oL (liC_at hs)
      dsimp only at c0 c2
      have e0 : fnd rl k h = if h < 1 ∨ (z0 : Int) < h then 23 else if z2 = false ∨ (z0 : Int) ≠ h then 24 else 0 := by
        unfold fnd
        rw [if_neg h1, Int.toNat_natCast, hs]
      have d1 : decide ((k : Int) < 0) = false := decide_eq_false h1
      have d2 : decide ((rl.length : Int) ≤ (k : Int)) = false := decide_eq_false (by omega)
      clear hs HA
      by_cases h3 : h < 1
      · rw [if_pos (.inl h3)] at e0
        rw [e0]
        clear e0
        have d3 : decide (h < 1) = true := decide_eq_true h3
        go_enter Try.func27, Try.ntmps27
        go_wp2
        go_quiet (fail)
        go_wp2
        go_ret
        exact ⟨rfl, HO.out.drewN _⟩
      · have d3 : decide (h < 1) = false := decide_eq_false h3
        by_cases h4 : (z0 : Int) < h
        · have d4 : decide ((z0 : Int) < h) = true := decide_eq_true h4
          rw [if_pos (.inr h4)] at e0
          rw [e0]
          clear e0
          go_enter Try.func27, Try.ntmps27
          go_wp2
          go_quiet (fail)
          go_wp2
          go_ret
          exact ⟨rfl, HO.out.drewN _⟩
        · have d4 : decide ((z0 : Int) < h) = false := decide_eq_false h4
          rw [if_neg (by omega)] at e0
          cases z2 with
          | false =>
            rw [if_pos (.inl rfl)] at e0
            rw [e0]
            clear e0
            go_enter Try.func27, Try.ntmps27
            go_wp2
            go_quiet (fail)
            go_wp2
            go_quiet (fail)
            go_wp2
            go_ret
            exact ⟨rfl, (HO.out.drewN _).drewN _⟩
          | true =>
            by_cases h5 : (z0 : Int) = h
            · rw [if_neg (by simp [h5])] at e0
              rw [e0]
              clear e0
              go_enter Try.func27, Try.ntmps27
              go_wp2
              go_quiet (fail)
              go_wp2
              go_quiet (fail)
              go_wp2
              go_ret
              exact ⟨rfl, (HO.out.drewN _).drewN _⟩
            · rw [if_pos (.inr h5)] at e0
              rw [e0]
              clear e0
              go_enter Try.func27, Try.ntmps27
              go_wp2
              go_quiet (fail)
              go_wp2
              go_quiet (fail)
              go_wp2
              go_ret
              exact ⟨rfl, (HO.out.drewN _).drewN _⟩
end Go.Proofs.Ytnfaaaehpfddgaa
