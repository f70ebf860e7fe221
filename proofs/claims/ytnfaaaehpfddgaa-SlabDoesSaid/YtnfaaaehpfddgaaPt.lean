/- Put of a slab. -/
import Derived.Test.YtnfaaaehpfddgaaGr
import Derived.Laws.ResultCell
namespace Go.Proofs.Ytnfaaaehpfddgaa
open Go.RowKit Mem
set_option linter.unusedVariables false

theorem own_at {w : World} {B e size b n c j : Nat} {xs : List Value} {u : Value} (h : w.ownsRow B e size (.slice (some ⟨b, 0, none⟩) n c) n xs) (hj : xs[j]? = some u) : w.cell? ⟨b, j, none⟩ = some u := by
  obtain ⟨h0, h1⟩ := h
  rcases h1 with ⟨e1, _⟩ | ⟨g', cap, cur, e1, hb, hh, hc, hl, hs, ht⟩
  · cases e1
  · cases e1
    rw [cell_of_row w b j cur e (0, 0) hh]
    rw [← ht] at hj
    have hlt := (List.getElem?_eq_some_iff.1 hj).1
    rw [List.length_take] at hlt
    rw [List.getElem?_take, if_pos (by omega)] at hj
    simpa using hj
theorem own_slice {w : World} {B e size n : Nat} {v : Value} {xs : List Value} (h : w.ownsRow B e size v n xs) (hn : 0 < n) : ∃ b c, v = .slice (some ⟨b, 0, none⟩) n c := by
  rcases h.2 with ⟨_, e2⟩ | ⟨g', cap, cur, e1, _⟩
  · omega
  · exact ⟨g', cap, e1⟩

theorem slv_alloc {w : World} {B g live : Nat} {most : Int} {sl : List S3} {V v : Value} {fr : List Nat} (h : SlV w B g most sl live V v fr) (o : Obj) : SlV (w.alloc o) B g most sl live V v fr :=
  ⟨⟨h.fre.blk.alloc o, h.fre.fld, h.fre.own.alloc o, h.fre.heap⟩, h.own.alloc o, h.cnt, h.len, h.lo, Nat.le_trans h.sz (by simp)⟩
theorem slv_drewN {w : World} {B g live : Nat} {most : Int} {sl : List S3} {V v : Value} {fr : List Nat} (h : SlV w B g most sl live V v fr) (n : Nat) : SlV (w.drewN n) B g most sl live V v fr :=
  ⟨⟨h.fre.blk.drewN n, h.fre.fld, own_drewN h.fre.own n, h.fre.heap⟩, own_drewN h.own n, h.cnt, h.len, h.lo, h.sz⟩

theorem slv_same {w w' : World} {B g live : Nat} {most : Int} {sl : List S3} {V v : Value} {fr : List Nat} (h : SlV w B g most sl live V v fr) (ho : Only (fun _ => False) w w') : SlV w' B g most sl live V v fr :=
  ⟨⟨h.fre.blk.only ho id, h.fre.fld, own_only h.fre.own ho (fun _ _ => id), h.fre.heap⟩, own_only h.own ho (fun _ _ => id), h.cnt, h.len, h.lo, Nat.le_trans h.sz ho.size⟩
theorem left_same {w w' : World} {B g : Nat} {most : Int} {sl : List S3} (h : Sl w B g most sl) (ho : Only (fun _ => False) w w') : Left w B g most sl w' := by
  obtain ⟨V, v, fr, h⟩ := h
  exact ⟨⟨V, v, fr, slv_same h ho⟩, .ofOnly ho (fun k hk => hk.elim), ho.below (fun k _ hk => hk.elim) h.sz⟩
theorem results_row_tmp {P : Program} {fn : Func} {p u : Tmp} {ty : TypeId} (h : fn.results = #[.cell p ty, .tmp u]) (tmps : Array Value) (w : World) (g : Nat) (t : TypeId) (cs : Array Value) (d : TypeDesc)
    (hp : tmps.getD p undef = .pointer (some ⟨g, 0, none⟩)) (hg : Blk w g t cs)
    (hu : P.underlying ty = some d) (hd : (match d with | .struct _ | .array _ _ => true | _ => false) = true) (hi : (P.info? ty).map (·.size) = some cs.size) :
    (results fn tmps).run P w = .ok (.tuple #[.agg cs, tmps.getD u undef]) w := by
  rw [results_cell_tmp h, hp]
  simp [asAddr, run_loadVar_row w g t ty cs (0, 0) d hg hu hd hi, Result.andThen]

theorem put_full {w : World} {B g : Nat} {most : Int} {sl : List S3} (x : Int) (h : Sl w B g most sl) (hf : most ≤ lives sl) :
    Calls Try.prog 8 #[.pointer (some ⟨g, 0, none⟩), .int .i64 x] w fun e w' => e = .returned (.tuple #[.agg #[.int .i64 0, .int .i64 0], .int .i64 8]) ∧ Left w B g most sl w' := by
  have HS := hide h
  obtain ⟨V, v, fr, h⟩ := h
  have ha := slv_alloc h (.cells #[.int .i64 0, .int .i64 0] 29)
  have f3 : (w.alloc (.cells #[.int .i64 0, .int .i64 0] 29)).cell? ⟨g, 3, none⟩ = some (.int .i64 (lives sl : Int)) := by rw [ha.fre.blk.cell]; rfl
  have f0 : (w.alloc (.cells #[.int .i64 0, .int .i64 0] 29)).cell? ⟨g, 0, none⟩ = some (.int .i64 most) := by rw [ha.fre.blk.cell]; rfl
  clear ha h
  go_enter Try.func8, Try.ntmps8
  go_wp2
  go_quiet (fail)
  go_wp2
  have hb := ((((Blk.new w 29 #[.int .i64 0, .int .i64 0]).drewN nq).set_ 0 (.int .i64 0)).set_ 1 (.int .i64 0))
  refine bodyPost_ret (results_row_tmp rfl _ _ w.heap.size 29 #[.int .i64 0, .int .i64 0] _ rfl (by simpa using hb) Try.underlying29 rfl (by kernel_rfl)) rfl ?_
  refine ⟨rfl, left_same HS.out ?_⟩
  exact ((((Only.refl (fun _ => False) w).alloc _).drewN nq).setCell (.inr (Nat.le_refl _)) _).setCell (.inr (Nat.le_refl _)) _
end Go.Proofs.Ytnfaaaehpfddgaa
