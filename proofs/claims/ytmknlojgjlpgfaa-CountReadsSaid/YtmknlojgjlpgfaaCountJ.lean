/- Package count: a reader of all counts. -/
import Derived.Test.YtmknlojgjlpgfaaCountH
namespace Go.Proofs.Ytmknlojgjlpgfaa.CountJ
open Go.RowKit Go.Proofs.YtmknlojgjlpgfaaW.PrintWords Go.Proofs.YtmknlojgjlpgfaaW.PrintLast Go.Proofs.YtmknlojgjlpgfaaW.PrintMore Go.Proofs.Ytmknlojgjlpgfaa.BitsA Go.Proofs.Ytmknlojgjlpgfaa.CountA Go.Proofs.Ytmknlojgjlpgfaa.CountB Go.Proofs.Ytmknlojgjlpgfaa.CountC Go.Proofs.Ytmknlojgjlpgfaa.CountD Go.Proofs.Ytmknlojgjlpgfaa.CountE Go.Proofs.Ytmknlojgjlpgfaa.CountG Go.Proofs.Ytmknlojgjlpgfaa.CountH
attribute [local go_sem ↓] Go.wp_at_zero Go.wp_at_succ
set_option linter.unusedVariables false
set_option linter.unusedSimpArgs false

/-- A reader's cells. -/
def rd8 (c : Option Addr) (k : Int) (g : Nat → Int) : Array Value := #[.pointer c, .int .i64 k, .int .i64 (g 0), .int .i64 (g 1), .int .i64 (g 2), .int .i64 (g 3), .int .i64 (g 4), .int .i64 (g 5)]

/-- A reader in block r, of counts in block c (or of none), that has read k and so much. -/
def IsR (w : World) (r : Nat) (c : Option Addr) (k : Int) (g : Nat → Int) : Prop := w.heap[r]? = some (.cells (rd8 c k g) 72 (0, 0))

theorem IsR.below {w w' : World} {r : Nat} {c : Option Addr} {k : Int} {g : Nat → Int} (h : IsR w r c k g) (hb : Below w.heap.size w w') : IsR w' r c k g := (hb.block r (blk_lt h)).trans h

theorem IsR.cells {w : World} {r : Nat} {c : Option Addr} {k : Int} {g : Nat → Int} (h : IsR w r c k g) :
    w.cell? ⟨r, 0, none⟩ = some (.pointer c) ∧ w.cell? ⟨r, 1, none⟩ = some (.int .i64 k) ∧ w.cell? ⟨r, 2, none⟩ = some (.int .i64 (g 0)) ∧ w.cell? ⟨r, 3, none⟩ = some (.int .i64 (g 1)) ∧ w.cell? ⟨r, 4, none⟩ = some (.int .i64 (g 2)) ∧ w.cell? ⟨r, 5, none⟩ = some (.int .i64 (g 3)) ∧ w.cell? ⟨r, 6, none⟩ = some (.int .i64 (g 4)) ∧ w.cell? ⟨r, 7, none⟩ = some (.int .i64 (g 5)) :=
  ⟨blk_cell h 0, blk_cell h 1, blk_cell h 2, blk_cell h 3, blk_cell h 4, blk_cell h 5, blk_cell h 6, blk_cell h 7⟩

set_option maxRecDepth 100000 in
theorem read_calls (c : Option Addr) (w : World) : Calls Try.prog 33 #[.pointer c] w fun e w' => ∃ r, e = .returned (.pointer (some ⟨r, 0, none⟩)) ∧ IsR w' r c 0 (fun _ => 0) ∧ w.heap.size ≤ r ∧ Below w.heap.size w w' := by
  go_enter Try.func33, Try.ntmps33
  go_wp2
  go_ret
  exact ⟨w.heap.size, rfl, (MapKept.heap_alloc w _).1, Nat.le_refl _, below_alloc (Below.refl _ _) _⟩

set_option maxRecDepth 100000 in
theorem sum_reader {w : World} {r : Nat} {c : Option Addr} {k : Int} {g : Nat → Int} (h : IsR w r c k g) : Calls Try.prog 35 #[.pointer (some ⟨r, 0, none⟩)] w fun e w' => e = .returned (sh g) ∧ Below w.heap.size w w' := by
  have h' : IsR (w.alloc (.cells #[.int .i64 0, .int .i64 0, .int .i64 0, .int .i64 0, .int .i64 0, .int .i64 0] 47 (0, 0))) r c k g := h.below (below_alloc (Below.refl _ _) _)
  obtain ⟨a0, a1, a2, a3, a4, a5, a6, a7⟩ := h'.cells
  clear h h'
  go_enter Try.func35, Try.ntmps35
  go_wp2
  refine bodyPost_ret (v := sh g) (by simp [results, Try.results35, go_sem, sh]) rfl ⟨rfl, ?_⟩
  exact below_alloc (Below.refl _ w) _

set_option maxRecDepth 100000 in
theorem step_none {w : World} {r : Nat} (h : IsR w r none 0 (fun _ => 0)) : Calls Try.prog 34 #[.pointer (some ⟨r, 0, none⟩)] w fun e w' => e = .returned (.bool true) ∧ Below w.heap.size w w' := by
  obtain ⟨a0, a1, a2, a3, a4, a5, a6, a7⟩ := h.cells
  clear h
  go_enter Try.func34, Try.ntmps34
  go_wp2_with (fail)
  go_quiet ((go_at_call 30; exact Calls.quiet_of_same (len_nil _)))
  go_wp2
  go_ret
  exact ⟨rfl, pw_below_drewN (Below.refl _ _) _⟩

set_option maxRecDepth 100000 in
theorem step_end {w : World} {c b n r : Nat} {f : Nat → Int} {k : Int} {g : Nat → Int} (hC : IsC w c b n f) (h : IsR w r (some ⟨c, 0, none⟩) k g) (hk : (n : Int) ≤ k) : Calls Try.prog 34 #[.pointer (some ⟨r, 0, none⟩)] w fun e w' => e = .returned (.bool true) ∧ IsR w' r (some ⟨c, 0, none⟩) k g ∧ Below w.heap.size w w' := by
  obtain ⟨a0, a1, a2, a3, a4, a5, a6, a7⟩ := h.cells
  have HR := Aside0.mk h
  have HC := Aside0.mk hC
  clear h hC
  go_enter Try.func34, Try.ntmps34
  go_wp2_with (fail)
  go_quiet ((go_at_call 30; exact Calls.quiet_of_same (len_calls (f := f) (b := b) HC.out)))
  go_wp2
  go_ret
  exact ⟨rfl, HR.out, pw_below_drewN (Below.refl _ _) _⟩

end Go.Proofs.Ytmknlojgjlpgfaa.CountJ
