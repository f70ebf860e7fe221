/- The slab and the reference agree, in plain Lean; the handle that an act means; New out of its range. -/
import Derived.Test.YtnfaaaehpfddgaaRq
namespace Go.Proofs.Ytnfaaaehpfddgaa
open Go.RowKit Mem
set_option linter.unusedVariables false

def strip (s : S3) : Nat × Bool := (s.1, s.2.2)
structure Agree (sl rl : List S3) : Prop where
  e : rl.map strip = sl.map strip
  v : ∀ (i : Nat) (s s' : S3), sl[i]? = some s → rl[i]? = some s' → s.2.2 = true → s'.2.1 = s.2.1
section
variable {sl rl : List S3}
theorem Agree.nil : Agree [] [] := ⟨rfl, fun i s s' h => by simp at h⟩
theorem Agree.len (h : Agree sl rl) : rl.length = sl.length := by
  have := congrArg List.length h.e
  simpa using this
theorem Agree.at_ (h : Agree sl rl) {i a : Nat} {b : Int} {c : Bool} (hs : sl[i]? = some (a, b, c)) : ∃ b', rl[i]? = some (a, b', c) ∧ (c = true → b' = b) := by
  have e1 := congrArg (·[i]?) h.e
  simp only [List.getElem?_map, hs] at e1
  cases hr : rl[i]? with
  | none => rw [hr] at e1; simp at e1
  | some s' =>
    obtain ⟨a', b', c'⟩ := s'
    rw [hr] at e1
    simp [strip] at e1
    obtain ⟨rfl, rfl⟩ := e1
    exact ⟨b', rfl, fun hc => h.v i _ _ hs hr hc⟩
theorem Agree.lives (h : Agree sl rl) : lives rl = lives sl := by
  have e : ∀ l : List S3, Go.Proofs.Ytnfaaaehpfddgaa.lives l = (l.map strip).countP (·.2) := by
    intro l
    unfold Go.Proofs.Ytnfaaaehpfddgaa.lives
    rw [List.countP_map]
    rfl
  rw [e, e, h.e]
theorem ff_map : ∀ (l l' : List S3), l.map strip = l'.map strip → ff l = ff l'
  | [], [], _ => rfl
  | [], _ :: _, h => by simp at h
  | _ :: _, [], h => by simp at h
  | a :: r, b :: r', h => by
    simp only [List.map_cons, List.cons.injEq] at h
    have h1 : a.2.2 = b.2.2 := congrArg (Prod.snd (α := Nat) (β := Bool)) h.1
    unfold ff
    rw [h1, ff_map r r' h.2]
theorem Agree.fnd (h : Agree sl rl) (s g : Int) : fnd rl s g = fnd sl s g := by
  unfold Go.Proofs.Ytnfaaaehpfddgaa.fnd
  by_cases h0 : s < 0
  · rw [if_pos h0, if_pos h0]
  · rw [if_neg h0, if_neg h0]
    cases hs : sl[s.toNat]? with
    | none =>
      have := List.getElem?_eq_none_iff.1 hs
      rw [List.getElem?_eq_none (by rw [h.len]; exact this)]
    | some x =>
      obtain ⟨a, b, c⟩ := x
      obtain ⟨b', hr, _⟩ := h.at_ hs
      rw [hr]
theorem Agree.getV (h : Agree sl rl) (s g : Int) : getV rl s g = getV sl s g := by
  unfold Go.Proofs.Ytnfaaaehpfddgaa.getV
  rw [h.fnd]
  by_cases hf : Go.Proofs.Ytnfaaaehpfddgaa.fnd sl s g = 0
  · rw [if_pos hf, if_pos hf]
    obtain ⟨k, z0, z1, rfl, rfl, _, _, hs⟩ := fnd_ok hf
    obtain ⟨b', hr, hb⟩ := h.at_ hs
    unfold valOf
    rw [Int.toNat_natCast, hs, hr, hb rfl]
  · rw [if_neg hf, if_neg hf]
theorem Agree.app (h : Agree sl rl) (s : S3) : Agree (sl ++ [s]) (rl ++ [s]) := by
  refine ⟨by rw [List.map_append, List.map_append, h.e], ?_⟩
  intro i a b ha hb hl
  by_cases hi : i < sl.length
  · rw [List.getElem?_append_left hi] at ha
    rw [List.getElem?_append_left (by rw [h.len]; exact hi)] at hb
    exact h.v i a b ha hb hl
  · rw [List.getElem?_append_right (by omega)] at ha
    rw [List.getElem?_append_right (by rw [h.len]; omega), h.len] at hb
    rw [ha] at hb
    cases hb
    rfl
theorem Agree.set_ (h : Agree sl rl) (k : Nat) (s s' : S3) (e1 : strip s' = strip s) (e2 : s.2.2 = true → s'.2.1 = s.2.1) : Agree (sl.set k s) (rl.set k s') := by
  refine ⟨by rw [List.map_set, List.map_set, h.e, e1], ?_⟩
  intro i a b ha hb hl
  rw [List.getElem?_set] at ha hb
  by_cases hk : k = i
  · rw [if_pos hk] at ha hb
    rw [h.len] at hb
    split at ha
    · next hlt =>
      rw [if_pos hlt] at hb
      cases ha
      cases hb
      exact e2 hl
    · cases ha
  · rw [if_neg hk] at ha hb
    exact h.v i a b ha hb hl
theorem Agree.grown (h : Agree sl rl) : Agree (grown sl) (grown rl) := by
  unfold Go.Proofs.Ytnfaaaehpfddgaa.grown
  rw [h.lives, h.len]
  split
  · exact h.app _
  · exact h
theorem Agree.ff (h : Agree sl rl) : ff (Go.Proofs.Ytnfaaaehpfddgaa.grown rl) = ff (Go.Proofs.Ytnfaaaehpfddgaa.grown sl) := ff_map _ _ h.grown.e
theorem Agree.gen (h : Agree sl rl) (m : Nat) : genOf (Go.Proofs.Ytnfaaaehpfddgaa.grown rl) m = genOf (Go.Proofs.Ytnfaaaehpfddgaa.grown sl) m := by
  have hg := h.grown
  unfold genOf
  cases hs : (Go.Proofs.Ytnfaaaehpfddgaa.grown sl)[m]? with
  | none =>
    have := List.getElem?_eq_none_iff.1 hs
    rw [List.getElem?_eq_none (by rw [hg.len]; exact this)]
  | some x =>
    obtain ⟨a, b, c⟩ := x
    obtain ⟨b', hr, _⟩ := hg.at_ hs
    rw [hr]
theorem Agree.put (h : Agree sl rl) (x : Int) : Agree (putS sl x) (putS rl x) := by
  unfold putS
  rw [h.ff, h.gen]
  exact h.grown.set_ _ _ _ rfl (fun _ => rfl)
theorem Agree.setS (h : Agree sl rl) (s g x : Int) : Agree (setS sl s g x) (setS rl s g x) := by
  unfold Go.Proofs.Ytnfaaaehpfddgaa.setS
  rw [h.fnd]
  split
  · exact h.set_ _ _ _ rfl (fun _ => rfl)
  · exact h
theorem Agree.free (h : Agree sl rl) (s g : Int) : Agree (freeS sl s g) (freeR rl s g) := by
  unfold freeS freeR
  rw [h.fnd]
  split
  · exact h.set_ _ _ _ rfl (fun e => by cases e)
  · exact h
end
theorem setS_spec (sl : List S3) (s h x : Int) : (setS sl s h x).length = sl.length ∧ ∀ N, (∀ s ∈ sl, s.1 ≤ N) → ∀ y ∈ setS sl s h x, y.1 ≤ N := by
  unfold setS
  by_cases hf : fnd sl s h = 0
  · rw [if_pos hf]
    obtain ⟨k, z0, z1, rfl, rfl, _, hk, hs⟩ := fnd_ok hf
    rw [Int.toNat_natCast, Int.toNat_natCast]
    refine ⟨by rw [List.length_set], ?_⟩
    intro N hN s hs'
    rcases List.mem_or_eq_of_mem_set hs' with hs' | rfl
    · exact hN s hs'
    · exact hN (z0, z1, true) (List.mem_of_getElem? hs)
  · rw [if_neg hf]
    exact ⟨rfl, fun N hN => hN⟩
theorem agree_gk {sl rl : List S3} (h : Agree sl rl) {N : Nat} (hN : ∀ s ∈ sl, s.1 ≤ N) : ∀ s ∈ rl, s.1 ≤ N := by
  intro s hs
  obtain ⟨i, hi, rfl⟩ := List.getElem_of_mem hs
  have hl := h.len
  have h1 : sl[i]? = some (sl[i]'(by omega)) := List.getElem?_eq_getElem (by omega)
  have hm := hN _ (List.getElem_mem (show i < sl.length by omega))
  generalize sl[i]'(by omega) = x at h1 hm
  obtain ⟨a, b, c⟩ := x
  obtain ⟨b', hr, _⟩ := h.at_ h1
  rw [List.getElem?_eq_getElem hi] at hr
  injection hr with hr
  rw [hr]
  exact hm

theorem new_bad (w : World) (most : Int) (h : most < 1 ∨ 65536 < most) : Calls Try.prog 7 #[.int .i64 most] w fun e w' => e = .returned (.tuple #[.pointer none, .int .i64 21]) ∧ w = w' := by
  by_cases h1 : most < 1
  · go_enter Try.func7, Try.ntmps7
    go_wp2
    go_ret2
    exact ⟨rfl, rfl⟩
  · have h2 : 65536 < most := by omega
    go_enter Try.func7, Try.ntmps7
    go_wp2
    go_ret2
    exact ⟨rfl, rfl⟩
theorem refnew_bad (w : World) (most : Int) (h : most < 1 ∨ 65536 < most) : Calls Try.prog 15 #[.int .i64 most] w fun e w' => e = .returned (.tuple #[.pointer none, .int .i64 21]) ∧ w = w' := by
  by_cases h1 : most < 1
  · go_enter Try.func15, Try.ntmps15
    go_wp2
    go_ret2
    exact ⟨rfl, rfl⟩
  · have h2 : 65536 < most := by omega
    go_enter Try.func15, Try.ntmps15
    go_wp2
    go_ret2
    exact ⟨rfl, rfl⟩

def hC (hs : List (Int × Int)) : List Value := hs.flatMap fun p => [Value.int .i64 p.1, .int .i64 p.2]
theorem hC_len (hs : List (Int × Int)) : (hC hs).length = hs.length * 2 := by
  induction hs with
  | nil => rfl
  | cons p r ih =>
    rw [show hC (p :: r) = [Value.int .i64 p.1, .int .i64 p.2] ++ hC r from rfl, List.length_append, ih]
    simp only [List.length_cons, List.length_nil]
    omega
theorem hC_app (a b : List (Int × Int)) : hC (a ++ b) = hC a ++ hC b := by unfold hC; rw [List.flatMap_append]
theorem hC_at {hs : List (Int × Int)} {k : Nat} {p : Int × Int} (h : hs[k]? = some p) : (hC hs)[k * 2]? = some (.int .i64 p.1) ∧ (hC hs)[k * 2 + 1]? = some (.int .i64 p.2) := by
  induction hs generalizing k with
  | nil => simp at h
  | cons x r ih =>
    have e : hC (x :: r) = Value.int .i64 x.1 :: Value.int .i64 x.2 :: hC r := rfl
    rw [e]
    cases k with
    | zero => simp at h; subst h; exact ⟨rfl, rfl⟩
    | succ k =>
      rw [show (k + 1) * 2 = k * 2 + 1 + 1 by omega]
      simpa using ih (k := k) (by simpa using h)

/-- a handle is handed back -/
def RetH (e : Ending) : Prop := ∃ a b, e = .returned (.agg #[.int .i64 a, .int .i64 b])
/-- the handle that an act means -/
theorem handle_any {w : World} {B c : Nat} {A : Option Addr} {hs : List (Int × Int)} (kd hh s g x : Int) (raw : Bool) (h : w.ownsRow B 29 2 (.slice A hs.length c) hs.length (hC hs)) (hn : hs.length ≤ 4294967296) :
    Calls Try.prog 16 #[.agg #[.int .i64 kd, .int .i64 hh, .bool raw, .int .i64 s, .int .i64 g, .int .i64 x], .slice A hs.length c] w fun e w' => RetH e ∧ Only (fun _ => False) w w' := by
  have hb : ∀ u v : Value, Blk ((w.alloc (.cells #[.int .i64 kd, .int .i64 hh, .bool raw, .int .i64 s, .int .i64 g, .int .i64 x] 38)).alloc (.cells #[u, v] 29)) (w.heap.size + 1) 29 #[u, v] := by
    intro u v
    have := Blk.new (w.alloc (.cells #[.int .i64 kd, .int .i64 hh, .bool raw, .int .i64 s, .int .i64 g, .int .i64 x] 38)) 29 #[u, v]
    rwa [show (w.alloc (.cells #[.int .i64 kd, .int .i64 hh, .bool raw, .int .i64 s, .int .i64 g, .int .i64 x] 38)).heap.size = w.heap.size + 1 by simp] at this
  have HB := hide hb
  have HO : Hid (∀ u v : Value, Only (fun _ => False) w ((w.alloc (.cells #[.int .i64 kd, .int .i64 hh, .bool raw, .int .i64 s, .int .i64 g, .int .i64 x] 38)).alloc (.cells #[u, v] 29))) := fun u v => ((Only.refl (fun _ => False) w).alloc _).alloc _
  clear hb
  by_cases hv : raw = false ∧ 0 ≤ hh ∧ hh < hs.length
  · obtain ⟨rfl, h0, h1⟩ := hv
    obtain ⟨j, rfl⟩ : ∃ j : Nat, hh = j := ⟨hh.toNat, by omega⟩
    have hj : j < hs.length := by omega
    obtain ⟨b, c', e1⟩ := own_slice h (by omega)
    cases e1
    have hp : hs[j]? = some hs[j] := List.getElem?_eq_getElem hj
    generalize hs[j] = p at hp
    obtain ⟨p1, p2⟩ := p
    obtain ⟨y0, y1⟩ := hC_at hp
    have h2 := (h.alloc (.cells #[.int .i64 kd, .int .i64 (j : Int), .bool false, .int .i64 s, .int .i64 g, .int .i64 x] 38)).alloc (.cells #[.int .i64 0, .int .i64 0] 29)
    have t0 := own_at h2 y0
    have t1 := own_at h2 y1
    dsimp only at t0 t1
    clear y0 y1 hp h h2
    go_enter Try.func16, Try.ntmps16
    go_wp2_with fail
    refine bodyPost_ret (results_cell_row rfl _ _ (w.heap.size + 1) 29 #[.int .i64 p1, .int .i64 p2] (0, 0) _ rfl (HB.out _ _) Try.underlying29 rfl (by kernel_rfl)) rfl ?_
    exact ⟨⟨_, _, rfl⟩, HO.out _ _⟩
  · cases raw with
    | true =>
      go_enter Try.func16, Try.ntmps16
      go_wp2_with fail
      refine bodyPost_ret (results_cell_row rfl _ _ (w.heap.size + 1) 29 #[.int .i64 s, .int .i64 g] (0, 0) _ rfl (HB.out _ _) Try.underlying29 rfl (by kernel_rfl)) rfl ?_
      exact ⟨⟨_, _, rfl⟩, HO.out _ _⟩
    | false =>
      by_cases h0 : hh < 0
      · go_enter Try.func16, Try.ntmps16
        go_wp2_with fail
        refine bodyPost_ret (results_cell_row rfl _ _ (w.heap.size + 1) 29 #[.int .i64 s, .int .i64 g] (0, 0) _ rfl (HB.out _ _) Try.underlying29 rfl (by kernel_rfl)) rfl ?_
        exact ⟨⟨_, _, rfl⟩, HO.out _ _⟩
      · have h1 : (hs.length : Int) ≤ hh := by
          rcases Int.lt_or_le hh hs.length with h2 | h2
          · exact absurd ⟨rfl, by omega, h2⟩ hv
          · exact h2
        clear hv
        go_enter Try.func16, Try.ntmps16
        go_wp2_with fail
        refine bodyPost_ret (results_cell_row rfl _ _ (w.heap.size + 1) 29 #[.int .i64 s, .int .i64 g] (0, 0) _ rfl (HB.out _ _) Try.underlying29 rfl (by kernel_rfl)) rfl ?_
        exact ⟨⟨_, _, rfl⟩, HO.out _ _⟩
end Go.Proofs.Ytnfaaaehpfddgaa
