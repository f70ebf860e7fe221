/- A reader of bytes: lists and maps: what holds at a round's head, and what a key, a value turn. -/
import Derived.Test.YtaapbiiiepdopaaRw
import Derived.Deep.RegionLaw
namespace Go.Proofs.Ytaapbiiiepdopaa
open Go.RowKit Mem
set_option linter.unusedVariables false

/-- the blocks of values that a list or a map holds -/
def Kid (B X Y : Nat) (VL VK : Value) (b : Nat) : Prop := B ≤ b ∧ b ≠ X ∧ b ≠ Y ∧ VL.ownBlock ≠ some b ∧ VK.ownBlock ≠ some b
structure LS (w wr : World) (g X Y : Nat) (A : Option Addr) (n c : Nat) (bs : List UInt8) (k : Int) (at_ p : Nat) (AL : Option Addr) (nL cL : Nat) (AK : Option Addr) (nK cK : Nat) (vs : List V) (ks : List ByteArray) (xs : List Value) : Prop where
  rs : RS wr g A n c bs at_ p
  y : Blk wr Y 25 #[.int .i64 k, .bool false, .int .i64 0, .string ⟨#[]⟩, .slice AL nL cL, .slice AK nK cK]
  x : Blk wr X 25 #[.int .i64 0, .bool false, .int .i64 0, .string ⟨#[]⟩, .slice none 0 0, .slice none 0 0]
  ol : wr.ownsRow w.heap.size 25 6 (.slice AL nL cL) nL xs
  ok : wr.ownsRow w.heap.size 9 1 (.slice AK nK cK) nK (ks.map .string)
  iv : IsVs wr (Kid w.heap.size X Y (.slice AL nL cL) (.slice AK nK cK)) vs xs
  lx : (Value.slice AL nL cL).ownBlock ≠ some X ∧ (Value.slice AL nL cL).ownBlock ≠ some Y ∧ (Value.slice AK nK cK).ownBlock ≠ some X ∧ (Value.slice AK nK cK).ownBlock ≠ some Y ∧ ∀ b, (Value.slice AL nL cL).ownBlock = some b → (Value.slice AK nK cK).ownBlock ≠ some b
  rt : Rt g w wr
  lt : g < w.heap.size ∧ w.heap.size ≤ X ∧ w.heap.size ≤ Y ∧ X ≠ Y
  eL : vs.length = nL
  eK : ks.length = nK
  bL : nL ≤ p
  bK : nK ≤ 4097
  bP : p ≤ 4096
  bS : ∀ x ∈ ks, x.size ≤ 9223372036854775807
section
variable {w wr w' : World} {g X Y : Nat} {A AL AK : Option Addr} {n c at_ p nL cL nK cK : Nat} {bs : List UInt8} {k : Int} {vs : List V} {ks : List ByteArray} {xs : List Value}
/-- the reader goes on, memory is made -/
theorem LS.step (h : LS w wr g X Y A n c bs k at_ p AL nL cL AK nK cK vs ks xs) {at' p' : Nat} (ht : Rt g wr w') (hr : RS w' g A n c bs at' p') (hp : p ≤ p') (hp' : p' ≤ 4096) : LS w w' g X Y A n c bs k at' p' AL nL cL AK nK cK vs ks xs := by
  have hg : ∀ b, w.heap.size ≤ b → ¬ b = g := fun b hb e => by have := h.lt.1; omega
  exact ⟨hr, h.y.only ht (hg _ h.lt.2.2.1), h.x.only ht (hg _ h.lt.2.1), own_only h.ol ht (fun b hb => hg b (own_lo h.ol hb)), own_only h.ok ht (fun b hb => hg b (own_lo h.ok hb)),
    h.iv.only ht (fun b hb => hg b hb.1), h.lx, h.rt.trans ht, h.lt, h.eL, h.eK, Nat.le_trans h.bL hp, h.bK, hp', h.bS⟩
theorem LS.alloc (h : LS w wr g X Y A n c bs k at_ p AL nL cL AK nK cK vs ks xs) (o : Obj) : LS w (wr.alloc o) g X Y A n c bs k at_ p AL nL cL AK nK cK vs ks xs :=
  h.step ((Rt.refl g wr).alloc o) (h.rs.grow ((Below.refl _ wr).alloc (Nat.le_refl _) o)) (Nat.le_refl _) h.bP
theorem LS.drewN (h : LS w wr g X Y A n c bs k at_ p AL nL cL AK nK cK vs ks xs) (m : Nat) : LS w (wr.drewN m) g X Y A n c bs k at_ p AL nL cL AK nK cK vs ks xs :=
  h.step (Rt.drewN (Rt.refl g wr) m) (h.rs.drewN m) (Nat.le_refl _) h.bP
theorem LS.szle (h : LS w wr g X Y A n c bs k at_ p AL nL cL AK nK cK vs ks xs) : w.heap.size ≤ wr.heap.size := Only.size h.rt
/-- a key is appended and laid -/
theorem LS.key (h : LS w wr g X Y A n c bs k at_ p AL nL cL AK nK cK vs ks xs) {w3 : World} {A' : Option Addr} {N' c' : Nat} {kk : ByteArray} (ho : w3.ownsRow w.heap.size 9 1 (.slice A' N' c') N' ((ks ++ [kk]).map .string)) (hg : wr.grownBy w3 (Value.slice AK nK cK).ownBlock)
    (hb : (Value.slice A' N' c').ownBlock = (Value.slice AK nK cK).ownBlock ∨ (Value.slice A' N' c').ownBlock = some wr.heap.size) (h4 : nK ≤ 4096) (hkk : kk.size ≤ 9223372036854775807) :
    LS w (w3.setCell ⟨Y, 5, none⟩ (.slice A' N' c')) g X Y A n c bs k at_ p AL nL cL A' N' c' vs (ks ++ [kk]) xs := by
  have hsz := h.szle
  have hX := h.x.lt
  have hY := h.y.lt
  have hgl := h.rs.blk.lt
  have o1 : Only (fun b => (Value.slice AK nK cK).ownBlock = some b) wr w3 := Only.ofGrown hg
  have o2 : Only (fun b => b = Y) w3 (w3.setCell ⟨Y, 5, none⟩ (.slice A' N' c')) := (Only.refl (fun b => b = Y) w3).setCell (p := ⟨Y, 5, none⟩) (.inl rfl) _
  have ot : Only (fun b => (Value.slice AK nK cK).ownBlock = some b ∨ b = Y) wr (w3.setCell ⟨Y, 5, none⟩ (.slice A' N' c')) := (o1.mono (fun _ _ h => .inl h)).trans o2 (fun _ _ h => .inr h)
  obtain ⟨lx1, lx2, lx3, lx4, lx5⟩ := h.lx
  have hlen : (ks ++ [kk]).length = N' := by simpa using ho.1
  have newne : ∀ b, b < wr.heap.size → (Value.slice AK nK cK).ownBlock ≠ some b → (Value.slice A' N' c').ownBlock ≠ some b := by
    intro b hb1 hb2 e
    rcases hb with hb | hb
    · rw [hb] at e; exact hb2 e
    · rw [hb] at e; cases e; omega
  have hgK : (Value.slice AK nK cK).ownBlock ≠ some g := fun e => by have := own_lo h.ok e; have := h.lt.1; omega
  refine ⟨?_, ?_, ?_, ?_, ?_, ?_, ?_, ?_, h.lt, h.eL, hlen, h.bL, ?_, h.bP, ?_⟩
  · refine ⟨h.rs.blk.only ot ?_, h.rs.rd.only ot ?_ (Nat.le_of_lt hgl), h.rs.le, h.rs.nc, h.rs.cm⟩
    · rintro (e | e)
      · exact hgK e
      · have := h.lt; omega
    · rintro b _ hb1 (e | e)
      · have := own_lo h.ok e; have := h.lt.1; omega
      · have := h.lt; omega
  · have := (h.y.grown hg (by intro e; exact lx4 e.symm)).set_ 5 (.slice A' N' c')
    simpa using this
  · exact h.x.only ot (by rintro (e | e); exact lx3 e; exact h.lt.2.2.2 e)
  · exact own_only h.ol ot (by rintro b hb1 (e | e); exact lx5 b hb1 e; subst e; exact lx2 hb1)
  · exact own_only ho o2 (by rintro b hb1 rfl; exact newne b hY lx4 hb1)
  · exact h.iv.keep (fun b hb1 hb2 => ot.block b hb2 (by rintro (e | e); exact hb1.2.2.2.2 e; exact hb1.2.2.1 e)) (fun b hb1 hb2 => ⟨hb1.1, hb1.2.1, hb1.2.2.1, hb1.2.2.2.1, newne b hb2 hb1.2.2.2.2⟩)
  · exact ⟨lx1, lx2, newne X hX lx3, newne Y hY lx4, fun b hb1 => newne b (own_lt h.ol hb1) (lx5 b hb1)⟩
  · refine Only.trans (S := fun b => b = g) h.rt ((ot.mono (S' := fun b => (Value.slice AK nK cK).ownBlock = some b ∨ b = Y) (fun _ _ h => h))) ?_
    rintro b hb1 (e | e)
    · have := own_lo h.ok e; omega
    · have := h.lt; omega
  · have := h.eK
    rw [List.length_append] at hlen
    simp at hlen
    omega
  · intro x hx
    rcases List.mem_append.1 hx with hx | hx
    · exact h.bS x hx
    · rcases List.mem_cons.1 hx with rfl | hx
      · exact hkk
      · cases hx
/-- a value is appended and laid -/
theorem LS.val (h : LS w wr g X Y A n c bs k at_ p AL nL cL AK nK cK vs ks xs) {w3 : World} {A' : Option Addr} {N' c' B2 : Nat} {v : V} {cs : Array Value} (hv : IsV wr (fun b => B2 ≤ b) v cs) (hB2 : X < B2 ∧ Y < B2 ∧ w.heap.size ≤ B2 ∧ (∀ b, (Value.slice AL nL cL).ownBlock = some b → b < B2) ∧ (∀ b, (Value.slice AK nK cK).ownBlock = some b → b < B2))
    (ho : w3.ownsRow w.heap.size 25 6 (.slice A' N' c') N' (xs ++ cs.toList)) (hg : wr.grownBy w3 (Value.slice AL nL cL).ownBlock)
    (hb : (Value.slice A' N' c').ownBlock = (Value.slice AL nL cL).ownBlock ∨ (Value.slice A' N' c').ownBlock = some wr.heap.size) (h4 : nL + 1 ≤ p) :
    LS w (w3.setCell ⟨Y, 4, none⟩ (.slice A' N' c')) g X Y A n c bs k at_ p A' N' c' AK nK cK (vs ++ [v]) ks (xs ++ cs.toList) := by
  have hsz := h.szle
  have hX := h.x.lt
  have hY := h.y.lt
  have hgl := h.rs.blk.lt
  have o1 : Only (fun b => (Value.slice AL nL cL).ownBlock = some b) wr w3 := Only.ofGrown hg
  have o2 : Only (fun b => b = Y) w3 (w3.setCell ⟨Y, 4, none⟩ (.slice A' N' c')) := (Only.refl (fun b => b = Y) w3).setCell (p := ⟨Y, 4, none⟩) (.inl rfl) _
  have ot : Only (fun b => (Value.slice AL nL cL).ownBlock = some b ∨ b = Y) wr (w3.setCell ⟨Y, 4, none⟩ (.slice A' N' c')) := (o1.mono (fun _ _ h => .inl h)).trans o2 (fun _ _ h => .inr h)
  obtain ⟨lx1, lx2, lx3, lx4, lx5⟩ := h.lx
  have newne : ∀ b, b < wr.heap.size → (Value.slice AL nL cL).ownBlock ≠ some b → (Value.slice A' N' c').ownBlock ≠ some b := by
    intro b hb1 hb2 e
    rcases hb with hb | hb
    · rw [hb] at e; exact hb2 e
    · rw [hb] at e; cases e; omega
  have hvk : IsVs wr (Kid w.heap.size X Y (.slice AL nL cL) (.slice AK nK cK)) [v] cs.toList := IsVs.one (hv.mono (fun b hb1 hb2 => ⟨by omega, by omega, by omega, fun e => by have := hB2.2.2.2.1 b e; omega, fun e => by have := hB2.2.2.2.2 b e; omega⟩))
  have hall := h.iv.app hvk
  have hlen : (vs ++ [v]).length = N' := by
    have h1 := hall.len
    have h2 := ho.1
    omega
  refine ⟨?_, ?_, ?_, ?_, ?_, ?_, ?_, ?_, h.lt, hlen, h.eK, ?_, h.bK, h.bP, h.bS⟩
  · refine ⟨h.rs.blk.only ot ?_, h.rs.rd.only ot ?_ (Nat.le_of_lt hgl), h.rs.le, h.rs.nc, h.rs.cm⟩
    · rintro (e | e)
      · have := own_lo h.ol e; have := h.lt.1; omega
      · have := h.lt; omega
    · rintro b _ hb1 (e | e)
      · have := own_lo h.ol e; have := h.lt.1; omega
      · have := h.lt; omega
  · have := (h.y.grown hg (by intro e; exact lx2 e.symm)).set_ 4 (.slice A' N' c')
    simpa using this
  · exact h.x.only ot (by rintro (e | e); exact lx1 e; exact h.lt.2.2.2 e)
  · exact own_only ho o2 (by rintro b hb1 rfl; exact newne b hY lx2 hb1)
  · exact own_only h.ok ot (by rintro b hb1 (e | e); exact lx5 b e hb1; subst e; exact lx4 hb1)
  · exact hall.keep (fun b hb1 hb2 => ot.block b hb2 (by rintro (e | e); exact hb1.2.2.2.1 e; exact hb1.2.2.1 e)) (fun b hb1 hb2 => ⟨hb1.1, hb1.2.1, hb1.2.2.1, newne b hb2 hb1.2.2.2.1, hb1.2.2.2.2⟩)
  · refine ⟨newne X hX lx1, newne Y hY lx2, lx3, lx4, fun b hb1 hb2 => ?_⟩
    exact newne b (own_lt h.ok hb2) (fun e => lx5 b e hb2) hb1
  · refine Only.trans (S := fun b => b = g) h.rt ((ot.mono (S' := fun b => (Value.slice AL nL cL).ownBlock = some b ∨ b = Y) (fun _ _ h => h))) ?_
    rintro b hb1 (e | e)
    · have := own_lo h.ol e; omega
    · have := h.lt; omega
  · have := h.eL
    rw [List.length_append] at hlen
    simp at hlen
    omega
theorem own_cap {base e size N c : Nat} {A : Option Addr} {ys : List Value} (h : wr.ownsRow base e size (.slice A N c) N ys) : N ≤ c ∧ c ≤ 9223372036854775807 := by
  rcases h.2 with ⟨e1, rfl⟩ | ⟨g', cap, cur, e1, _, _, hc, hm, _⟩
  · cases e1
    exact ⟨Nat.le_refl _, by decide⟩
  · cases e1
    exact ⟨hc, hm⟩
/-- what was read, behind the last store -/
theorem LS.fin (h : LS w wr g X Y A n c bs k at_ p AL nL cL AK nK cK vs ks xs) (hk : -9223372036854775808 ≤ k ∧ k ≤ 9223372036854775807) {wE : World} (hO : Only (fun b => b = X) wr wE) :
    IsV wE (fun b => w.heap.size ≤ b) (.mk k false 0 .empty vs ks) #[.int .i64 k, .bool false, .int .i64 0, .string ⟨#[]⟩, .slice AL nL cL, .slice AK nK cK] ∧ RS wE g A n c bs at_ p ∧ Rt g w wE := by
  obtain ⟨lx1, lx2, lx3, lx4, lx5⟩ := h.lx
  have hlt := h.lt
  have ol := own_only h.ol hO (by rintro b hb rfl; exact lx1 hb)
  have ok := own_only h.ok hO (by rintro b hb rfl; exact lx3 hb)
  have iv := h.iv.only hO (fun b hb e => hb.2.1 e)
  have c1 := own_cap ol
  have c2 := own_cap ok
  refine ⟨?_, h.rs.only hO (fun b hb e => by omega), ?_⟩
  · rw [IsV]
    have eL := h.eL
    have eK := h.eK
    subst eL
    subst eK
    refine ⟨AL, cL, AK, cK, xs, rfl, ⟨c1.1, c1.2, c2.1, c2.2⟩, ⟨by decide, by decide, hk.1, hk.2, by decide, h.bS⟩, RdS.ofOwn ol (fun b hb => own_lo ol hb), iv.keep (fun _ _ _ => rfl) (fun b hb _ => hb.1), RdS.ofOwn ok (fun b hb => own_lo ok hb)⟩
  · refine Only.trans (S := fun b => b = g) h.rt hO ?_
    rintro b hb rfl
    omega
end
end Go.Proofs.Ytaapbiiiepdopaa
