/- A slab by memory and as a list; its making, its counts, its growing. -/
import Derived.Test.YtnfaaaehpfddgaaHs
import Derived.Test.YtnfaaaehpfddgaaCp
namespace Go.Proofs.Ytnfaaaehpfddgaa
open Go.RowKit Mem
set_option linter.unusedVariables false

abbrev S3 := Nat × Int × Bool
theorem el54 : Elem Try.prog 54 63 (.agg #[.int .i64 0, .int .i64 0, .bool false]) 3 24 := ⟨Try.underlying54, by kernel_rfl, rfl, by decide⟩
def scells (sl : List S3) : List Value := sl.flatMap fun s => [Value.int .i64 (s.1 : Int), .int .i64 s.2.1, .bool s.2.2]
theorem scells_len (sl : List S3) : (scells sl).length = sl.length * 3 := by
  induction sl with
  | nil => rfl
  | cons s r ih =>
    rw [show scells (s :: r) = [Value.int .i64 (s.1 : Int), .int .i64 s.2.1, .bool s.2.2] ++ scells r from rfl, List.length_append, ih]
    simp only [List.length_cons, List.length_nil]
    omega
theorem scells_app (a b : List S3) : scells (a ++ b) = scells a ++ scells b := by unfold scells; rw [List.flatMap_append]
theorem scells_one (sl : List S3) : ∀ u ∈ scells sl, u.oneCell' = true := by
  intro u hu
  obtain ⟨s, _, hu⟩ := List.mem_flatMap.1 hu
  rcases List.mem_cons.1 hu with rfl | hu
  · rfl
  · rcases List.mem_cons.1 hu with rfl | hu
    · rfl
    · rcases List.mem_cons.1 hu with rfl | hu
      · rfl
      · cases hu
theorem scells_at {sl : List S3} {k : Nat} {s : S3} (h : sl[k]? = some s) : (scells sl)[k * 3]? = some (.int .i64 (s.1 : Int)) ∧ (scells sl)[k * 3 + 1]? = some (.int .i64 s.2.1) ∧ (scells sl)[k * 3 + 2]? = some (.bool s.2.2) := by
  induction sl generalizing k with
  | nil => simp at h
  | cons x r ih =>
    have e : scells (x :: r) = Value.int .i64 (x.1 : Int) :: Value.int .i64 x.2.1 :: Value.bool x.2.2 :: scells r := rfl
    rw [e]
    cases k with
    | zero => simp at h; subst h; exact ⟨rfl, rfl, rfl⟩
    | succ k =>
      obtain ⟨h1, h2, h3⟩ := ih (k := k) (by simpa using h)
      rw [show (k + 1) * 3 = k * 3 + 1 + 1 + 1 by omega]
      refine ⟨?_, ?_, ?_⟩
      · simpa using h1
      · simpa using h2
      · simpa using h3
theorem scells_set (sl : List S3) (k : Nat) (s : S3) : (((scells sl).set (k * 3) (.int .i64 (s.1 : Int))).set (k * 3 + 1) (.int .i64 s.2.1)).set (k * 3 + 2) (.bool s.2.2) = scells (sl.set k s) := by
  induction sl generalizing k with
  | nil => simp [scells]
  | cons x r ih =>
    have e : scells (x :: r) = Value.int .i64 (x.1 : Int) :: Value.int .i64 x.2.1 :: Value.bool x.2.2 :: scells r := rfl
    cases k with
    | zero => rfl
    | succ k =>
      rw [List.set_cons_succ, show scells (x :: r.set k s) = Value.int .i64 (x.1 : Int) :: Value.int .i64 x.2.1 :: Value.bool x.2.2 :: scells (r.set k s) from rfl, ← ih k, e, show (k + 1) * 3 = k * 3 + 1 + 1 + 1 by omega]
      simp

def isFree (sl : List S3) (u : Nat) : Bool := match sl[u]? with
  | some s => !s.2.2
  | none => false
def lives (sl : List S3) : Nat := sl.countP (·.2.2)
/-- the first slot that is free -/
def ff : List S3 → Nat
  | [] => 0
  | s :: r => if s.2.2 then ff r + 1 else 0
theorem ff_eq {sl : List S3} {m : Nat} (h : isFree sl m = true) (hm : ∀ u, isFree sl u = true → m ≤ u) : ff sl = m := by
  induction sl generalizing m with
  | nil => simp [isFree] at h
  | cons s r ih =>
    unfold ff
    by_cases hs : s.2.2 = true
    · rw [if_pos hs]
      cases m with
      | zero => simp [isFree, hs] at h
      | succ m =>
        rw [ih (m := m) (by simpa [isFree] using h) (fun u hu => by have := hm (u + 1) (by simpa [isFree] using hu); omega)]
    · rw [if_neg hs]
      have := hm 0 (by simp [isFree, hs])
      omega
theorem ff_free {sl : List S3} (h : lives sl < sl.length) : isFree sl (ff sl) = true ∧ ff sl < sl.length := by
  induction sl with
  | nil => simp at h
  | cons s r ih =>
    unfold ff
    by_cases hs : s.2.2 = true
    · rw [if_pos hs]
      have := ih (by
        unfold lives at h ⊢
        rw [List.countP_cons, if_pos hs] at h
        simp only [List.length_cons] at h
        omega)
      exact ⟨by simpa [isFree] using this.1, by simp only [List.length_cons]; omega⟩
    · rw [if_neg hs]
      exact ⟨by simp [isFree, hs], by simp⟩
theorem lives_le (sl : List S3) : lives sl ≤ sl.length := List.countP_le_length
theorem isFree_lt {sl : List S3} {u : Nat} (h : isFree sl u = true) : u < sl.length := by
  unfold isFree at h
  split at h
  · next s hs => exact (List.getElem?_eq_some_iff.1 hs).1
  · cases h
theorem lives_set {sl : List S3} {k : Nat} {s : S3} (s' : S3) (h : sl[k]? = some s) : lives (sl.set k s') + (if s.2.2 then 1 else 0) = lives sl + (if s'.2.2 then 1 else 0) := by
  induction sl generalizing k with
  | nil => simp at h
  | cons x r ih =>
    unfold lives at ih ⊢
    cases k with
    | zero =>
      simp at h
      subst h
      rw [List.set_cons_zero, List.countP_cons, List.countP_cons]
      omega
    | succ k =>
      have := ih (k := k) (by simpa using h)
      rw [List.set_cons_succ, List.countP_cons, List.countP_cons]
      omega
theorem isFree_set {sl : List S3} {k : Nat} (s' : S3) (h : k < sl.length) (u : Nat) : isFree (sl.set k s') u = if u = k then !s'.2.2 else isFree sl u := by
  unfold isFree
  rw [List.getElem?_set]
  by_cases hu : k = u
  · subst hu
    simp [h]
  · rw [if_neg hu, if_neg (fun e => hu e.symm)]
theorem isFree_app (sl : List S3) (s : S3) (u : Nat) : isFree (sl ++ [s]) u = if u = sl.length then !s.2.2 else isFree sl u := by
  unfold isFree
  by_cases hu : u = sl.length
  · subst hu
    simp
  · rw [if_neg hu]
    by_cases h1 : u < sl.length
    · rw [List.getElem?_append_left h1]
    · rw [List.getElem?_eq_none (by simp; omega), List.getElem?_eq_none (by omega)]

/-- the slab at block g: room for most, slots sl, all its own blocks from B on -/
structure SlV (w : World) (B g : Nat) (most : Int) (sl : List S3) (live : Nat) (V v : Value) (fr : List Nat) : Prop where
  fre : FreeR w B g #[.int .i64 most, V, v, .int .i64 (live : Int)] v fr
  own : w.ownsRow B 63 3 V sl.length (scells sl)
  cnt : ∀ u, fr.count u = if isFree sl u = true then 1 else 0
  len : fr.length + lives sl = sl.length
  lo : B ≤ g
  sz : B ≤ w.heap.size
def Sl (w : World) (B g : Nat) (most : Int) (sl : List S3) : Prop := ∃ V v fr, SlV w B g most sl (lives sl) V v fr

def KT (o : Obj) : Prop := ∃ cs t fr, o = .cells cs t fr ∧ (t = 58 ∨ t = 63 ∨ t = 3)
/-- what a call leaves -/
def Left (w : World) (B g : Nat) (most : Int) (sl : List S3) (w' : World) : Prop := Sl w' B g most sl ∧ Fr KT w w' ∧ Below B w w'

theorem new_any (w : World) (most : Int) (h1 : 1 ≤ most) (h2 : most ≤ 65536) : Calls Try.prog 7 #[.int .i64 most] w fun e w' => e = .returned (.tuple #[.pointer (some ⟨w.heap.size, 0, none⟩), .int .i64 0]) ∧ Sl w' w.heap.size w.heap.size most [] ∧ Below w.heap.size w w' ∧ w.heap.size < w'.heap.size := by
  go_enter Try.func7, Try.ntmps7
  go_wp2
  go_ret2
  refine ⟨rfl, ⟨.slice none 0 0, .slice none 0 0, [], ⟨⟨Blk.new w 58 _, rfl, World.ownsRow_nil _ _ _ _, by intro i h0 hi; simp at hi⟩, World.ownsRow_nil _ _ _ _, fun u => rfl, rfl, Nat.le_refl _, by simp⟩⟩, (Below.refl _ w).alloc (Nat.le_refl _) _, by simp⟩

theorem live_any {w : World} {B g : Nat} {most : Int} {sl : List S3} (h : Sl w B g most sl) : Calls Try.prog 10 #[.pointer (some ⟨g, 0, none⟩)] w fun e w' => e = .returned (.int .i64 (lives sl : Int)) ∧ w = w' := by
  obtain ⟨V, v, fr, h⟩ := h
  have f3 : w.cell? ⟨g, 3, none⟩ = some (.int .i64 (lives sl : Int)) := by rw [h.fre.blk.cell]; rfl
  go_enter Try.func10, Try.ntmps10
  go_wp2
  go_ret
  exact ⟨rfl, rfl⟩
theorem slots_any {w : World} {B g : Nat} {most : Int} {sl : List S3} (h : Sl w B g most sl) : Calls Try.prog 11 #[.pointer (some ⟨g, 0, none⟩)] w fun e w' => e = .returned (.int .i64 (sl.length : Int)) ∧ w = w' := by
  obtain ⟨V, v, fr, h⟩ := h
  have f3 : w.cell? ⟨g, 1, none⟩ = some V := by rw [h.fre.blk.cell]; rfl
  obtain ⟨A, c, rfl, _⟩ := own_form h.own
  go_enter Try.func11, Try.ntmps11
  go_wp2
  go_ret
  exact ⟨rfl, rfl⟩
end Go.Proofs.Ytnfaaaehpfddgaa
