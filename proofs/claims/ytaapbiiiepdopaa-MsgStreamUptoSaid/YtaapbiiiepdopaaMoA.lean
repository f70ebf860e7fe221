/- A slice of messages, in memory. SameAll of two slices that read as the same messages. Slices of messages and of ints that a function is handed. -/
import Derived.Test.YtaapbiiiepdopaaMb
import Derived.Test.YtaapbiiiepdopaaMg
import Derived.Test.YtaapbiiiepdopaaAv
namespace Go.Proofs.Ytaapbiiiepdopaa
open Go.RowKit Mem
set_option linter.unusedVariables false

/-- cells read as messages, ten cells each -/
def IsMs (w : World) (S : Nat → Prop) : List M → List Value → Prop
  | [], xs => xs = []
  | m :: l, xs => ∃ cs ys, xs = cs.toList ++ ys ∧ IsM w S m cs ∧ IsMs w S l ys
section
variable {w w' : World} {S S' : Nat → Prop}
theorem IsM.size10 {m : M} {cs : Array Value} (h : IsM w S m cs) : cs.size = 10 := by
  obtain ⟨mk, ms, mt, mn, k, b, n, s, AL, nL, cL, AK, nK, cK, rfl⟩ := h.ten
  rfl
theorem IsM.oneCell {m : M} {cs : Array Value} (h : IsM w S m cs) : ∀ u ∈ cs.toList, u.oneCell' = true := by
  obtain ⟨mk, ms, mt, mn, k, b, n, s, AL, nL, cL, AK, nK, cK, rfl⟩ := h.ten
  intro u hu
  simp at hu
  rcases hu with rfl | rfl | rfl | rfl | rfl | rfl | rfl | rfl | rfl | rfl <;> rfl
theorem IsMs.keep : ∀ {l : List M} {xs : List Value}, IsMs w S l xs → (∀ b, S b → b < w.heap.size → w'.heap[b]? = w.heap[b]?) → (∀ b, S b → b < w.heap.size → S' b) → IsMs w' S' l xs
  | [], xs, h, _, _ => h
  | m :: l, xs, ⟨cs, ys, e, h1, h2⟩, hk, hs => ⟨cs, ys, e, h1.keep hk hs, IsMs.keep h2 hk hs⟩
theorem IsMs.mono {l : List M} {xs : List Value} (h : IsMs w S l xs) (hs : ∀ b, S b → b < w.heap.size → S' b) : IsMs w S' l xs := h.keep (fun _ _ _ => rfl) hs
theorem IsMs.grow {l : List M} {xs : List Value} (h : IsMs w S l xs) (hb : Below w.heap.size w w') : IsMs w' S l xs := h.keep (fun b _ h => hb.block b h) (fun _ h _ => h)
theorem IsMs.below {l : List M} {xs : List Value} {B : Nat} (h : IsMs w S l xs) (hb : Below B w w') (hS : ∀ b, S b → b < B) : IsMs w' S l xs := h.keep (fun b h1 _ => hb.block b (hS b h1)) (fun _ h _ => h)
theorem IsMs.only {l : List M} {xs : List Value} {T : Nat → Prop} (h : IsMs w S l xs) (hb : Only T w w') (hS : ∀ b, S b → ¬ T b) : IsMs w' S l xs := h.keep (fun b h1 h2 => hb.block b h2 (hS b h1)) (fun _ h _ => h)
theorem IsMs.drewN {l : List M} {xs : List Value} (h : IsMs w S l xs) (n : Nat) : IsMs (w.drewN n) S l xs := h.keep (fun _ _ _ => rfl) (fun _ h _ => h)
theorem IsMs.alloc {l : List M} {xs : List Value} (h : IsMs w S l xs) (o : Obj) : IsMs (w.alloc o) S l xs := h.keep (fun b _ hb => Below.heap_alloc _ _ _ hb) (fun _ h _ => h)
theorem IsMs.len : ∀ {l : List M} {xs : List Value}, IsMs w S l xs → xs.length = l.length * 10
  | [], xs, h => by subst h; rfl
  | m :: l, xs, ⟨cs, ys, e, h1, h2⟩ => by
    subst e
    have := IsMs.len h2
    have := h1.size10
    simp only [List.length_append, List.length_cons, Array.length_toList]
    omega
theorem IsMs.at_ : ∀ {l : List M} {xs : List Value}, IsMs w S l xs → ∀ {i : Nat} {m : M}, l[i]? = some m → ∃ cs, IsM w S m cs ∧ ∀ r, r < 10 → xs[i * 10 + r]? = cs[r]?
  | [], xs, h, i, v, hv => by simp at hv
  | u :: l, xs, ⟨cs, ys, e, h1, h2⟩, i, v, hv => by
    subst e
    have h6 := h1.size10
    cases i with
    | zero =>
      simp at hv
      subst hv
      refine ⟨cs, h1, fun r hr => ?_⟩
      rw [List.getElem?_append_left (by rw [Array.length_toList]; omega)]
      simp
    | succ i =>
      obtain ⟨cs', h3, h4⟩ := IsMs.at_ h2 (i := i) (m := v) (by simpa using hv)
      refine ⟨cs', h3, fun r hr => ?_⟩
      rw [List.getElem?_append_right (by rw [Array.length_toList]; omega), Array.length_toList, h6, show (i + 1) * 10 + r - 10 = i * 10 + r by omega]
      exact h4 r hr
/-- a message by its address -/
theorem IsMs.get {l : List M} {xs : List Value} {A : Option Addr} {i : Nat} (h : IsMs w S l xs) (hx : RdS w S 10 A l.length xs) (hi : i < l.length) : ∃ b off cs, A = some ⟨b, off, none⟩ ∧ S b ∧ b < w.heap.size ∧ IsM w S l[i] cs ∧ ∀ r, r < 10 → w.cell? ⟨b, off + i * 10 + r, none⟩ = cs[r]? := by
  obtain ⟨b, off, e, h1, h2, h3⟩ := hx.plain (by omega) (by omega)
  obtain ⟨cs, h4, h5⟩ := h.at_ (List.getElem?_eq_getElem hi)
  refine ⟨b, off, cs, e, h1, h2, h4, fun r hr => ?_⟩
  rw [Nat.add_assoc, h3 _ (by omega)]
  exact h5 r hr
theorem IsMs.app : ∀ {a b : List M} {xs ys : List Value}, IsMs w S a xs → IsMs w S b ys → IsMs w S (a ++ b) (xs ++ ys)
  | [], b, xs, ys, h, h' => by subst h; exact h'
  | v :: a, b, xs, ys, ⟨cs, zs, e, h1, h2⟩, h' => by
    subst e
    exact ⟨cs, zs ++ ys, by rw [List.append_assoc], h1, IsMs.app h2 h'⟩
theorem IsMs.nil : IsMs w S [] [] := rfl
theorem IsMs.one {m : M} {cs : Array Value} (h : IsM w S m cs) : IsMs w S [m] cs.toList := ⟨cs, [], by simp, h, rfl⟩
theorem IsMs.oneCell : ∀ {l : List M} {xs : List Value}, IsMs w S l xs → ∀ u ∈ xs, u.oneCell' = true
  | [], xs, h, u, hu => by subst h; cases hu
  | v :: l, xs, ⟨cs, ys, e, h1, h2⟩, u, hu => by
    subst e
    rcases List.mem_append.1 hu with hu | hu
    · exact h1.oneCell u hu
    · exact IsMs.oneCell h2 u hu
end
end Go.Proofs.Ytaapbiiiepdopaa

namespace Go.Proofs.Ytaapbiiiepdopaa
open Go.RowKit Mem
set_option linter.unusedVariables false
set_option maxHeartbeats 4000000 in
set_option maxRecDepth 100000 in
theorem sameall_any {w : World} {S T : Nat → Prop} {A B : Option Addr} {c d : Nat} (a : List M) {xs ys : List Value} (ha : RdS w S 10 A a.length xs) (ha' : IsMs w S a xs) (hb : RdS w T 10 B a.length ys) (hb' : IsMs w T a ys) (la : a.length ≤ 9223372036854775807) :
    Calls Try.prog 33 #[.slice A a.length c, .slice B a.length d] w fun e w' => e = .returned (.bool true) ∧ Below w.heap.size w w' := by
  have hln : (((a.length : Int)) != ((a.length : Int))) = false := by simp
  go_enter Try.func33, Try.ntmps33
  go_wp2
  go_loopg [5] a.length (fun g iv wr => ∃ (i : Nat), g = a.length - i ∧ iv = .int .i64 (i : Nat) ∧ i ≤ a.length ∧ Hid (Below w.heap.size w wr))
  case atStart => exact ⟨0, rfl, rfl, Nat.zero_le _, Below.refl _ _⟩
  case round =>
    obtain ⟨i, rfl, rfl, hi, hB⟩ := hrel
    by_cases hlt : i < a.length
    · have haW := ha.grow hB.out
      have hbW := hb.grow hB.out
      have ha'W := ha'.grow hB.out
      have hb'W := hb'.grow hB.out
      obtain ⟨bA, oA, cs, rfl, _, hbA, hVA, hcA⟩ := ha'W.get haW hlt
      obtain ⟨bB, oB, ds, rfl, _, hbB, hVB, hcB⟩ := hb'W.get hbW hlt
      clear haW hbW ha'W hb'W
      obtain ⟨k2, s2, t2, n2, vk2, vb2, vn2, vs2, AL2, nL2, cL2, AK2, nK2, cK2, rfl⟩ := hVA.ten
      obtain ⟨k3, s3, t3, n3, vk3, vb3, vn3, vs3, AL3, nL3, cL3, AK3, nK3, cK3, rfl⟩ := hVB.ten
      have g0 : wr.cell? ⟨bA, oA + i * 10, none⟩ = some (.int .i64 k2) := hcA 0 (by decide)
      have g1 : wr.cell? ⟨bA, oA + i * 10 + 1, none⟩ = some (.string s2) := hcA 1 (by decide)
      have g2 : wr.cell? ⟨bA, oA + i * 10 + 2, none⟩ = some (.string t2) := hcA 2 (by decide)
      have g3 : wr.cell? ⟨bA, oA + i * 10 + 3, none⟩ = some (.int .i64 n2) := hcA 3 (by decide)
      have g4 : wr.cell? ⟨bA, oA + i * 10 + 4, none⟩ = some (.int .i64 vk2) := hcA 4 (by decide)
      have g5 : wr.cell? ⟨bA, oA + i * 10 + 5, none⟩ = some (.bool vb2) := hcA 5 (by decide)
      have g6 : wr.cell? ⟨bA, oA + i * 10 + 6, none⟩ = some (.int .i64 vn2) := hcA 6 (by decide)
      have g7 : wr.cell? ⟨bA, oA + i * 10 + 7, none⟩ = some (.string vs2) := hcA 7 (by decide)
      have g8 : wr.cell? ⟨bA, oA + i * 10 + 8, none⟩ = some (.slice AL2 nL2 cL2) := hcA 8 (by decide)
      have g9 : wr.cell? ⟨bA, oA + i * 10 + 9, none⟩ = some (.slice AK2 nK2 cK2) := hcA 9 (by decide)
      have h0 : wr.cell? ⟨bB, oB + i * 10, none⟩ = some (.int .i64 k3) := hcB 0 (by decide)
      have h1 : wr.cell? ⟨bB, oB + i * 10 + 1, none⟩ = some (.string s3) := hcB 1 (by decide)
      have h2 : wr.cell? ⟨bB, oB + i * 10 + 2, none⟩ = some (.string t3) := hcB 2 (by decide)
      have h3 : wr.cell? ⟨bB, oB + i * 10 + 3, none⟩ = some (.int .i64 n3) := hcB 3 (by decide)
      have h4 : wr.cell? ⟨bB, oB + i * 10 + 4, none⟩ = some (.int .i64 vk3) := hcB 4 (by decide)
      have h5 : wr.cell? ⟨bB, oB + i * 10 + 5, none⟩ = some (.bool vb3) := hcB 5 (by decide)
      have h6 : wr.cell? ⟨bB, oB + i * 10 + 6, none⟩ = some (.int .i64 vn3) := hcB 6 (by decide)
      have h7 : wr.cell? ⟨bB, oB + i * 10 + 7, none⟩ = some (.string vs3) := hcB 7 (by decide)
      have h8 : wr.cell? ⟨bB, oB + i * 10 + 8, none⟩ = some (.slice AL3 nL3 cL3) := hcB 8 (by decide)
      have h9 : wr.cell? ⟨bB, oB + i * 10 + 9, none⟩ = some (.slice AK3 nK3 cK3) := hcB 9 (by decide)
      have hx1 : (i : Int) < (a.length : Int) := by omega
      clear hcA hcB
      have HVA := hide hVA
      have HVB := hide hVB
      clear hVA hVB
      go_wp2_with fail
      have hcells : ∀ W : World, Below wr.heap.size wr W → (W.cell? ⟨bA, oA + i * 10, none⟩ = some (.int .i64 k2) ∧ W.cell? ⟨bA, oA + i * 10 + 1, none⟩ = some (.string s2) ∧ W.cell? ⟨bA, oA + i * 10 + 2, none⟩ = some (.string t2) ∧ W.cell? ⟨bA, oA + i * 10 + 3, none⟩ = some (.int .i64 n2) ∧ W.cell? ⟨bA, oA + i * 10 + 4, none⟩ = some (.int .i64 vk2) ∧ W.cell? ⟨bA, oA + i * 10 + 5, none⟩ = some (.bool vb2) ∧ W.cell? ⟨bA, oA + i * 10 + 6, none⟩ = some (.int .i64 vn2) ∧ W.cell? ⟨bA, oA + i * 10 + 7, none⟩ = some (.string vs2) ∧ W.cell? ⟨bA, oA + i * 10 + 8, none⟩ = some (.slice AL2 nL2 cL2) ∧ W.cell? ⟨bA, oA + i * 10 + 9, none⟩ = some (.slice AK2 nK2 cK2)) ∧
          (W.cell? ⟨bB, oB + i * 10, none⟩ = some (.int .i64 k3) ∧ W.cell? ⟨bB, oB + i * 10 + 1, none⟩ = some (.string s3) ∧ W.cell? ⟨bB, oB + i * 10 + 2, none⟩ = some (.string t3) ∧ W.cell? ⟨bB, oB + i * 10 + 3, none⟩ = some (.int .i64 n3) ∧ W.cell? ⟨bB, oB + i * 10 + 4, none⟩ = some (.int .i64 vk3) ∧ W.cell? ⟨bB, oB + i * 10 + 5, none⟩ = some (.bool vb3) ∧ W.cell? ⟨bB, oB + i * 10 + 6, none⟩ = some (.int .i64 vn3) ∧ W.cell? ⟨bB, oB + i * 10 + 7, none⟩ = some (.string vs3) ∧ W.cell? ⟨bB, oB + i * 10 + 8, none⟩ = some (.slice AL3 nL3 cL3) ∧ W.cell? ⟨bB, oB + i * 10 + 9, none⟩ = some (.slice AK3 nK3 cK3)) :=
        fun W hb => ⟨⟨(hb.cell (by exact hbA)).trans g0, (hb.cell (by exact hbA)).trans g1, (hb.cell (by exact hbA)).trans g2, (hb.cell (by exact hbA)).trans g3, (hb.cell (by exact hbA)).trans g4, (hb.cell (by exact hbA)).trans g5, (hb.cell (by exact hbA)).trans g6, (hb.cell (by exact hbA)).trans g7, (hb.cell (by exact hbA)).trans g8, (hb.cell (by exact hbA)).trans g9⟩,
          (hb.cell (by exact hbB)).trans h0, (hb.cell (by exact hbB)).trans h1, (hb.cell (by exact hbB)).trans h2, (hb.cell (by exact hbB)).trans h3, (hb.cell (by exact hbB)).trans h4, (hb.cell (by exact hbB)).trans h5, (hb.cell (by exact hbB)).trans h6, (hb.cell (by exact hbB)).trans h7, (hb.cell (by exact hbB)).trans h8, (hb.cell (by exact hbB)).trans h9⟩
      have hcells := hide hcells
      go_region_held3 (fun W => (W.cell? ⟨bA, oA + i * 10, none⟩ = some (.int .i64 k2) ∧ W.cell? ⟨bA, oA + i * 10 + 1, none⟩ = some (.string s2) ∧ W.cell? ⟨bA, oA + i * 10 + 2, none⟩ = some (.string t2) ∧ W.cell? ⟨bA, oA + i * 10 + 3, none⟩ = some (.int .i64 n2) ∧ W.cell? ⟨bA, oA + i * 10 + 4, none⟩ = some (.int .i64 vk2) ∧ W.cell? ⟨bA, oA + i * 10 + 5, none⟩ = some (.bool vb2) ∧ W.cell? ⟨bA, oA + i * 10 + 6, none⟩ = some (.int .i64 vn2) ∧ W.cell? ⟨bA, oA + i * 10 + 7, none⟩ = some (.string vs2) ∧ W.cell? ⟨bA, oA + i * 10 + 8, none⟩ = some (.slice AL2 nL2 cL2) ∧ W.cell? ⟨bA, oA + i * 10 + 9, none⟩ = some (.slice AK2 nK2 cK2)) ∧
          (W.cell? ⟨bB, oB + i * 10, none⟩ = some (.int .i64 k3) ∧ W.cell? ⟨bB, oB + i * 10 + 1, none⟩ = some (.string s3) ∧ W.cell? ⟨bB, oB + i * 10 + 2, none⟩ = some (.string t3) ∧ W.cell? ⟨bB, oB + i * 10 + 3, none⟩ = some (.int .i64 n3) ∧ W.cell? ⟨bB, oB + i * 10 + 4, none⟩ = some (.int .i64 vk3) ∧ W.cell? ⟨bB, oB + i * 10 + 5, none⟩ = some (.bool vb3) ∧ W.cell? ⟨bB, oB + i * 10 + 6, none⟩ = some (.int .i64 vn3) ∧ W.cell? ⟨bB, oB + i * 10 + 7, none⟩ = some (.string vs3) ∧ W.cell? ⟨bB, oB + i * 10 + 8, none⟩ = some (.slice AL3 nL3 cL3) ∧ W.cell? ⟨bB, oB + i * 10 + 9, none⟩ = some (.slice AK3 nK3 cK3)))
        (first | exact hcells.out _ (Below.refl _ _) | exact hcells.out _ (Below.drew (Below.refl _ _)) | exact hcells.out _ ((Below.drew (Below.refl _ _)).trans hb5)) (first
        | (go_at_call 23; refine (msame_any (HVA.out.drewN 1) (HVB.out.drewN 1)).mono ?_; rintro e w5 ⟨rfl, hb5⟩))
      have hB5 := hide (hB.out.trans (((Below.drew (Below.refl wr.heap.size wr)).trans hb5).mono hB.out.size))
      have hq : eqM a[i] a[i] = true := eqM_iff.2 rfl
      rw [hq]
      clear hcells HVA HVB g0 g1 g2 g3 g4 g5 g6 g7 g8 g9 h0 h1 h2 h3 h4 h5 h6 h7 h8 h9 hb5 hq
      go_wp2_with fail
      go_roundg (a.length - (i + 1))
      case measure => omega
      case rel => exact ⟨i + 1, rfl, by go_num, by omega, hB5⟩
    · go_wp2
      go_ret
      exact ⟨rfl, hB.out⟩
end Go.Proofs.Ytaapbiiiepdopaa

namespace Go.Proofs.Ytaapbiiiepdopaa
open Go.RowKit Mem Go.Deep Go.ChangeShapes Go.WideShapes
set_option linter.unusedVariables false

/-- a message's weight -/
def wtM (m : M) : Nat := m.s.size + m.t.size + bulk m.v + 1
def wtMs : List M → Nat
  | [] => 0
  | m :: l => wtM m + wtMs l
theorem wtMs_len : ∀ l : List M, l.length ≤ wtMs l
  | [] => Nat.le_refl _
  | m :: l => by
    have := wtMs_len l
    simp only [List.length_cons, wtMs, wtM]
    omega
theorem wtMs_mem : ∀ {l : List M} {i : Nat} {m : M}, l[i]? = some m → wtM m ≤ wtMs l
  | [], i, m, h => by simp at h
  | u :: l, 0, m, h => by
    simp at h
    subst h
    simp only [wtMs]
    omega
  | u :: l, i + 1, m, h => by
    have := wtMs_mem (l := l) (i := i) (m := m) (by simpa using h)
    simp only [wtMs]
    omega
theorem IsMs_map {w : World} {S : Nat → Prop} {f : Nat → M} {g : Nat → Array Value} : ∀ (l : List Nat), (∀ i ∈ l, IsM w S (f i) (g i)) → IsMs w S (l.map f) (l.flatMap fun i => (g i).toList)
  | [], _ => by rw [List.map_nil, List.flatMap_nil, IsMs]
  | i :: l, h => by
    rw [List.map_cons, List.flatMap_cons, IsMs]
    exact ⟨g i, _, rfl, h i List.mem_cons_self, IsMs_map l fun j hj => h j (List.mem_cons_of_mem _ hj)⟩
theorem wtMs_map {H : Type} {f : Nat → M} {D : Nat → DataW H} : ∀ (l : List Nat), (∀ i ∈ l, wtM (f i) ≤ Rows.uptoBulk (D i)) → wtMs (l.map f) ≤ Rows.uptoBulkAll (l.map D)
  | [], _ => by simp [wtMs, Rows.uptoBulkAll]
  | i :: l, h => by
    have h1 := h i List.mem_cons_self
    have h2 := wtMs_map l fun j hj => h j (List.mem_cons_of_mem _ hj)
    simp only [List.map_cons, wtMs, Rows.uptoBulkAll]
    omega
section
variable {H : Type} {enc : TypeId × Value → H} {w : World} {base : Nat} {sp : Nat → Bool} {held : Bool}
set_option maxRecDepth 100000 in
theorem rd_msg {fuel : Nat} {cs : List Value} {d : DataW H} {ps : List MemPlace} (h : DataW.trod enc Try.prog w base sp held fuel 41 cs = some (d, ps)) :
    ∃ m : M, IsM w (fun b => b < w.heap.size) m cs.toArray ∧ wtM m ≤ Rows.uptoBulk d := by
  obtain ⟨xs, k, hk, hx, hlen, hxl, hf⟩ := DataW.trod_struct Try.underlying41 h
  have c41 : Try.prog.cellsOf 41 = 10 := by kernel_rfl
  rw [c41] at hlen
  match cs, hlen with
  | [v0, v1, v2, v3, v4, v5, v6, v7, v8, v9], _ =>
    match xs, hxl with
    | [y0, y1, y2, y3, y4], _ =>
      have c2 : Try.prog.cellsOf 2 = 1 := by kernel_rfl
      have c3 : Try.prog.cellsOf 3 = 1 := by kernel_rfl
      have c9 : Try.prog.cellsOf 9 = 1 := by kernel_rfl
      have c25 : Try.prog.cellsOf 25 = 6 := by kernel_rfl
      have g0 := hf 0 _ rfl
      have g1 := hf 1 _ rfl
      have g2 := hf 2 _ rfl
      have g3 := hf 3 _ rfl
      have g4 := hf 4 _ rfl
      simp [c2, c3, c9, c25] at g0 g1 g2 g3 g4
      obtain ⟨z0, e0, f0, b0⟩ := DataW.trod_int Try.underlying3 g0
      obtain ⟨z1, e1, f1, b1⟩ := DataW.trod_string Try.underlying9 g1
      obtain ⟨z2, e2, f2, b2⟩ := DataW.trod_string Try.underlying9 g2
      obtain ⟨z3, e3, f3, b3⟩ := DataW.trod_int Try.underlying2 g3
      obtain ⟨mv, hv, hb⟩ := rd_val (d := y4.1) (ps := y4.2) _ (Nat.le_refl _) g4
      simp only [List.cons.injEq, and_true] at e0 e1 e2 e3
      subst e0; subst e1; subst e2; subst e3
      simp only [Prod.mk.injEq] at hx
      obtain ⟨hd, _⟩ := hx
      have hbk : Rows.uptoBulk d = 1 + ((z1.size + 1) + ((z2.size + 1) + (1 + (Rows.uptoBulk y4.1 + 0)))) + 1 := by
        rw [hd, f0, f1, f2, f3]
        simp [Rows.uptoBulk, Rows.uptoBulkAll]
      have hw0 : -9223372036854775808 ≤ z0 ∧ z0 ≤ 9223372036854775807 := bounds_i64 b0
      have hw3 : -9223372036854775808 ≤ z3 ∧ z3 ≤ 9223372036854775807 := bounds_i64 b3
      obtain ⟨k9, b9, n9, s9, AL9, nL9, cL9, AK9, nK9, cK9, e9⟩ := hv.shape
      simp only [Array.mk.injEq, List.cons.injEq, and_true] at e9
      obtain ⟨rfl, rfl, rfl, rfl, rfl, rfl⟩ := e9
      refine ⟨⟨z0, z1, z2, z3, mv⟩, ⟨k9, b9, n9, s9, AL9, nL9, cL9, AK9, nK9, cK9, rfl, hv, hw0.1, hw0.2, hw3.1, hw3.2, b1, b2⟩, ?_⟩
      unfold wtM
      dsimp only
      omega
set_option maxRecDepth 100000 in
theorem arg_msgs {r : Reach} {b0 : Nat} {v : Value} {d : DataW H} {ps : List MemPlace} (x : Value.okWide Try.prog w r b0 49 v) (h : DataW.Trod enc Try.prog w 0 (fun _ => true) true 49 v d ps) :
    ∃ (A : Option Addr) (c : Nat) (ms : List M) (xs : List Value), v = .slice A ms.length c ∧ ms.length ≤ c ∧ c ≤ 9223372036854775807 ∧ RdS w (fun b => b < w.heap.size) 10 A ms.length xs ∧ IsMs w (fun b => b < w.heap.size) ms xs ∧ wtMs ms + 1 ≤ Rows.uptoBulk d := by
  obtain ⟨A, len2, cap2, rfl⟩ := okWide_slice Try.underlying49 x
  obtain ⟨fuel, h⟩ := h
  have h' : DataW.trod enc Try.prog w 0 (fun _ => true) true fuel 49 [.slice A len2 cap2] = some (d, ps) := by simpa [Value.cells] using h
  rcases open_slice Try.underlying49 h' with ⟨hcs, hx⟩ | ⟨a, len, cap, m, n, D, Pl, hcs, hb, hl, hcm, hm, hx, hi⟩
  · simp only [List.cons.injEq, and_true] at hcs
    cases hcs
    exact ⟨none, 0, [], [], rfl, Nat.le_refl _, by decide, RdS.nil, rfl, by simpa [wtMs] using bulk_pos d⟩
  · simp only [List.cons.injEq, and_true, Value.slice.injEq] at hcs
    obtain ⟨rfl, e1, e2⟩ := hcs
    have e1 := e1.symm
    have e2 := e2.symm
    subst e1 e2
    have c41 : Try.prog.cellsOf 41 = 10 := by kernel_rfl
    have hlm : len ≤ m := by rw [hm]; split <;> omega
    simp only [Prod.mk.injEq] at hx
    have h1 := bulk_elems ((List.range len).map D) ((List.range (m - len)).map fun j => D (len + j))
    rw [← hx.1] at h1
    have each : ∀ i, i < len → ∃ y : M × Array Value, IsM w (fun b => b < w.heap.size) y.1 y.2 ∧ wtM y.1 ≤ Rows.uptoBulk (D i) ∧ y.2.toList.length = 10 ∧ ∀ r u, y.2.toList[r]? = some u → w.cell? (a.add (i * 10 + r)) = some u := by
      intro i hil
      obtain ⟨cs', g1, g2⟩ := hi i (by omega)
      rw [c41] at g1
      obtain ⟨_, hlen', hcell⟩ := World.cells?_some g1
      obtain ⟨v, hv1, hv2⟩ := rd_msg g2
      refine ⟨(v, cs'.toArray), hv1, hv2, by simpa using hlen', fun r u hu => ?_⟩
      have hr : r < 10 := by
        have := (List.getElem?_eq_some_iff.1 hu).1
        simp at this
        omega
      rw [← add_of_add, hcell r hr]
      simpa using hu
    haveI : Inhabited M := ⟨nulM⟩
    obtain ⟨Y, hY⟩ := choose_lt each
    have hll : ((List.range len).map fun i => (Y i).1).length = len := by simp
    refine ⟨some a, cap, (List.range len).map fun i => (Y i).1, (List.range len).flatMap fun i => (Y i).2.toList, by rw [hll], by rw [hll]; exact hl, hcm, ?_, IsMs_map _ fun i hi' => (hY i (List.mem_range.1 hi')).1, ?_⟩
    · rw [hll]
      have h6 : ∀ x ∈ List.range len, (Y x).2.toList.length = 10 := fun x hx' => (hY x (List.mem_range.1 hx')).2.2.1
      have hfl := flat_len (fun i => (Y i).2.toList) (List.range len) h6
      rw [List.length_range] at hfl
      refine ⟨a.block, fun hn => ?_, hfl, fun hn => ⟨a, rfl, Nat.le_refl _, by omega, fun j u hu => ?_⟩⟩
      · obtain ⟨u, hu⟩ : ∃ u, (Y 0).2.toList[0]? = some u := ⟨_, List.getElem?_eq_getElem (by rw [(hY 0 hn).2.2.1]; decide)⟩
        have := World.block_lt_of_cell? w _ ((hY 0 hn).2.2.2 0 u hu)
        rw [block_of_add] at this
        exact ⟨this, this⟩
      · have hj : j < len * 10 := by
          have := (List.getElem?_eq_some_iff.1 hu).1
          omega
        have hj2 : j / 10 < len := by omega
        have e6 := flat_at (fun i => (Y i).2.toList) (List.range len) h6 (j / 10) (j / 10) (by simp [hj2]) (j % 10) (by omega)
        rw [show j / 10 * 10 + j % 10 = j by omega] at e6
        rw [e6] at hu
        have := (hY (j / 10) hj2).2.2.2 (j % 10) u hu
        rwa [show j / 10 * 10 + j % 10 = j by omega] at this
    · have h2 := wtMs_map (f := fun i => (Y i).1) (D := D) (List.range len) fun i hi' => (hY i (List.mem_range.1 hi')).2.1
      omega
theorem arg_ints {r : Reach} {b0 : Nat} {v : Value} {d : DataW H} {ps : List MemPlace} (x : Value.okWide Try.prog w r b0 50 v) (h : DataW.Trod enc Try.prog w 0 (fun _ => true) true 50 v d ps) :
    ∃ (A : Option Addr) (n c : Nat) (zs : List Int), v = .slice A n c ∧ n ≤ c ∧ Reads w 0 w.heap.size 1 A n (zs.map (Value.int .i64)) ∧ (∀ z ∈ zs, (Lit.int .i64 z).wf = true) ∧ n + 1 ≤ Rows.uptoBulk d := by
  obtain ⟨a, n, c, rfl⟩ := okWide_slice Try.underlying50 x
  obtain ⟨fuel, hf⟩ := h
  exact rd_ints Try.underlying50 Try.underlying3 (by kernel_rfl) hf
end
end Go.Proofs.Ytaapbiiiepdopaa
