/- The law CountSums, walked. -/
import Derived.Test.YtmknlojgjlpgfaaCountD
import Derived.BigQuiet
import Derived.Deep.QuietTactic
namespace Go.Proofs.Ytmknlojgjlpgfaa.CountE
open Go.RowKit Go.Proofs.YtmknlojgjlpgfaaW.PrintWords Go.Proofs.YtmknlojgjlpgfaaW.PrintLast Go.Proofs.YtmknlojgjlpgfaaW.PrintMore Go.Proofs.Ytmknlojgjlpgfaa.BitsA Go.Proofs.Ytmknlojgjlpgfaa.CountA Go.Proofs.Ytmknlojgjlpgfaa.CountB Go.Proofs.Ytmknlojgjlpgfaa.CountC Go.Proofs.Ytmknlojgjlpgfaa.CountD
set_option linter.unusedVariables false
set_option linter.unusedSimpArgs false

/-- A block is laid. -/
theorem lay (w : World) (o : Obj) : ∃ W, W = w.alloc o ∧ W.heap[w.heap.size]? = some o ∧ W.heap.size = w.heap.size + 1 ∧ Below w.heap.size w W :=
  ⟨_, rfl, (MapKept.heap_alloc w o).1, by simp, below_alloc (Below.refl _ _) _⟩

theorem bset {B : Nat} {w0 w : World} (h : Below B w0 w) {q : Nat} (hq : B ≤ q) (j : Nat) (u : Value) : Below B w0 (w.setCell ⟨q, j, none⟩ u) := h.setCell hq u

/-- Held against each other, as the walk has the values. -/
theorem below_lit (x0 x1 x2 x3 x4 x5 y0 y1 y2 y3 y4 y5 : Int) (f g : Nat → Int) (hx : x0 = f 0 ∧ x1 = f 1 ∧ x2 = f 2 ∧ x3 = f 3 ∧ x4 = f 4 ∧ x5 = f 5) (hy : y0 = g 0 ∧ y1 = g 1 ∧ y2 = g 2 ∧ y3 = g 3 ∧ y4 = g 4 ∧ y5 = g 5) (b : Bool) (hb : belowB f g = b) (w : World) :
    Calls Try.prog 32 #[.agg #[.int .i64 x0, .int .i64 x1, .int .i64 x2, .int .i64 x3, .int .i64 x4, .int .i64 x5], .agg #[.int .i64 y0, .int .i64 y1, .int .i64 y2, .int .i64 y3, .int .i64 y4, .int .i64 y5]] w fun e w' => e = .returned (.bool b) ∧ Below w.heap.size w w' := by
  obtain ⟨rfl, rfl, rfl, rfl, rfl, rfl⟩ := hx
  obtain ⟨rfl, rfl, rfl, rfl, rfl, rfl⟩ := hy
  subst hb
  exact below_calls f g w

/-- The first i of a row. -/
def upTo (u : Nat → Int) (i : Nat) : Nat → Int := fun k => if k < i then u k else 0

theorem upTo_succ (u : Nat → Int) (i : Nat) : upTo u (i + 1) = upd (upTo u i) i (u i) := by
  funext k
  unfold upTo upd
  by_cases e : k = i
  · subst e; simp
  · by_cases hk : k < i
    · simp [e, hk, show k < i + 1 by omega]
    · simp [e, hk, show ¬ k < i + 1 by omega]

theorem row_upTo (u : Nat → Int) : row (upTo u 6) 6 = row u 6 := rfl

def belowTo (u v : Nat → Int) (i : Nat) : Bool := (List.range i).all fun k => decide (u k ≤ v k)

theorem belowTo_succ (u v : Nat → Int) (i : Nat) : belowTo u v (i + 1) = (belowTo u v i && decide (u i ≤ v i)) := by
  unfold belowTo
  rw [List.range_succ, List.all_append]
  simp

set_option maxHeartbeats 4000000 in
set_option maxRecDepth 100000 in
theorem sums_walk (f g : Nat → Int) (w : World) : Calls Try.prog 8 #[sh f, sh g] w fun e w' => e = .returned (.bool true) ∧ Below w.heap.size w w' := by
  obtain ⟨W1, e1, h1, s1, b1⟩ := lay w (.cells (row f 6) 47 (0, 0))
  obtain ⟨W2, e2, h2, s2, b2⟩ := lay W1 (.cells (row g 6) 47 (0, 0))
  obtain ⟨W3, e3, h3, s3, b3⟩ := lay W2 (.cells (row (fun _ => 0) 6) 47 (0, 0))
  obtain ⟨W4, e4, h4, s4, b4⟩ := lay W3 (.cells (row (fun _ => 0) 6) 47 (0, 0))
  have HW := Aside0.mk (show W4 = (((w.alloc (.cells (row f 6) 47 (0, 0))).alloc (.cells (row g 6) 47 (0, 0))).alloc (.cells (row (fun _ => 0) 6) 47 (0, 0))).alloc (.cells (row (fun _ => 0) 6) 47 (0, 0)) by rw [e4, e3, e2, e1])
  have HB := Aside0.mk (below_step (below_step (below_step b1 b2) b3) b4)
  have HF := Aside0.mk (show W4.heap[w.heap.size]? = some (.cells (row f 6) 47 (0, 0)) by rw [b4.block _ (by omega), b3.block _ (by omega), b2.block _ (by omega), h1])
  have HG := Aside0.mk (show W4.heap[w.heap.size + 1]? = some (.cells (row g 6) 47 (0, 0)) by rw [b4.block _ (by omega), b3.block _ (by omega), ← s1, h2])
  have HX := Aside0.mk (show W4.heap[w.heap.size + 1 + 1]? = some (.cells (row (fun _ => 0) 6) 47 (0, 0)) by rw [b4.block _ (by omega), ← s1, ← s2, h3])
  have HY := Aside0.mk (show W4.heap[w.heap.size + 1 + 1 + 1]? = some (.cells (row (fun _ => 0) 6) 47 (0, 0)) by rw [← s1, ← s2, ← s3, h4])
  clear e1 e2 e3 e4 h1 h2 h3 h4 s1 s2 s3 s4 b1 b2 b3 b4
  clear W1 W2 W3
  unfold sh
  go_enter Try.func8, Try.ntmps8
  go_wp2_with (fail)
  rw [six f, six g, six0, ← HW.out]
  clear HW
  obtain ⟨p, hp⟩ : ∃ p, w.heap.size = p := ⟨_, rfl⟩
  rw [hp] at HF HG HX HY
  rw [hp]
  have HP := Aside0.mk hp
  clear hp
  obtain ⟨q1, hq1⟩ : ∃ q, p + 1 = q := ⟨_, rfl⟩
  rw [hq1] at HG HX HY
  rw [hq1]
  obtain ⟨q2, hq2⟩ : ∃ q, q1 + 1 = q := ⟨_, rfl⟩
  rw [hq2] at HX HY
  rw [hq2]
  obtain ⟨q3, hq3⟩ : ∃ q, q2 + 1 = q := ⟨_, rfl⟩
  rw [hq3] at HY
  rw [hq3]
  have HQ := Aside0.mk (And.intro hq1 (And.intro hq2 hq3))
  have n1 : q2 ≠ q3 := by omega
  have n2 : q3 ≠ q2 := by omega
  have n3 : q1 ≠ q2 := by omega
  have n4 : q1 ≠ q3 := by omega
  have n5 : p ≠ q2 := by omega
  have n6 : p ≠ q3 := by omega
  clear hq1 hq2 hq3
  have HU := Aside0.mk (fun k => rfl : ∀ k, (fun k => f k / 4) k = f k / 4)
  obtain ⟨u, hu⟩ : ∃ u : Nat → Int, u = fun k => f k / 4 := ⟨_, rfl⟩
  obtain ⟨v, hv⟩ : ∃ v : Nat → Int, v = fun k => g k / 4 := ⟨_, rfl⟩
  have HUV := Aside0.mk (show (∀ k, f k / 4 = u k) ∧ (∀ k, g k / 4 = v k) from ⟨fun k => by rw [hu], fun k => by rw [hv]⟩)
  clear HU hu hv
  go_loopg [7, 8] 6 (fun kq v7 v8 w' => ∃ i : Nat, v8 = .int .i64 (i : Int) ∧ v7 = .bool (belowTo u v i) ∧ Aside0 (i + kq = 6) ∧ Aside0 (w'.heap[p]? = some (.cells (row f 6) 47 (0, 0))) ∧ Aside0 (w'.heap[q1]? = some (.cells (row g 6) 47 (0, 0))) ∧ Aside0 (w'.heap[q2]? = some (.cells (row (upTo u i) 6) 47 (0, 0))) ∧ Aside0 (w'.heap[q3]? = some (.cells (row (upTo v i) 6) 47 (0, 0))) ∧ Aside0 (Below w.heap.size w w'))
  case atStart => exact ⟨0, rfl, rfl, ⟨by omega⟩, HF, HG, HX, HY, HB⟩
  case round =>
    clear HF HG HX HY HB
    obtain ⟨i, rfl, rfl, HI, HF, HG, HX, HY, HB⟩ := hrel
    cases gk with
    | succ k1 =>
      have hlt : (i : Int) < 6 := by have := HI.out; omega
      have h0 : (0 : Int) ≤ (i : Int) := by omega
      have c1 : wr.cell? ⟨p, i, none⟩ = some (.int .i64 (f i)) := by rw [blk_cell HF.out]; exact row_get _ _ _ (by omega)
      have c2 : wr.cell? ⟨q1, i, none⟩ = some (.int .i64 (g i)) := by rw [blk_cell HG.out]; exact row_get _ _ _ (by omega)
      have c3 : wr.cell? ⟨q2, i, none⟩ = some (.int .i64 (upTo u i i)) := by rw [blk_cell HX.out]; exact row_get _ _ _ (by omega)
      have c4 : wr.cell? ⟨q3, i, none⟩ = some (.int .i64 (upTo v i i)) := by rw [blk_cell HY.out]; exact row_get _ _ _ (by omega)
      have f3 : wr.frozen? ⟨q2, i, none⟩ = false := blk_frozen HX.out i
      have f4 : wr.frozen? ⟨q3, i, none⟩ = false := blk_frozen HY.out i
      have hq2w : w.heap.size ≤ q2 := by have := HP.out; have := HQ.out; omega
      have hq3w : w.heap.size ≤ q3 := by have := HP.out; have := HQ.out; omega
      have HQW := Aside0.mk (And.intro hq2w hq3w)
      clear hq2w hq3w
      have e1 := HUV.out.1 i
      have e2 := HUV.out.2 i
      go_wp2
      go_region
      obtain ⟨bt, hbt⟩ : ∃ bt, belowTo u v i = bt := ⟨_, rfl⟩
      rw [hbt]
      have HBT := Aside0.mk hbt
      clear hbt
      go_wp2
      cases bt
      all_goals
        go_quiet (fail)
        go_wp2
        go_roundg k1
        case measure => omega
        case rel =>
          refine ⟨i + 1, by go_num, by rw [belowTo_succ, HBT.out]; simp, ⟨by have := HI.out; omega⟩, ⟨?_⟩, ⟨?_⟩, ⟨?_⟩, ⟨?_⟩, ⟨?_⟩⟩
          · exact ((Below.heap_setCell _ _ _ _ n6).trans (Below.heap_setCell _ _ _ _ n5)).trans HF.out
          · exact ((Below.heap_setCell _ _ _ _ n4).trans (Below.heap_setCell _ _ _ _ n3)).trans HG.out
          · rw [upTo_succ]
            have h := blk_set HX.out i (.int .i64 (u i))
            rw [row_set] at h
            exact (Below.heap_setCell _ _ _ _ n1).trans h
          · rw [upTo_succ]
            have h := blk_set ((Below.heap_setCell wr ⟨q2, i, none⟩ (.int .i64 (u i)) q3 n2).trans HY.out) i (.int .i64 (v i))
            rw [row_set] at h
            exact h
          · exact pw_below_drewN (bset (bset HB.out HQW.out.1 _ _) HQW.out.2 _ _) _
    | zero =>
      have hge : ¬ ((i : Int) < 6) := by have := HI.out; omega
      have hi6 : i = 6 := by have := HI.out; omega
      subst hi6
      rw [row_upTo] at HX HY
      clear HF HG HI
      obtain ⟨bt, hbt⟩ : ∃ bt, belowTo u v 6 = bt := ⟨_, rfl⟩
      rw [hbt]
      have HBT := Aside0.mk (show belowB u v = bt from hbt)
      clear hbt
      have hx : ∀ k, k < 6 → wr.cell? ⟨q2, k, none⟩ = some (.int .i64 (u k)) := fun k hk => by rw [blk_cell HX.out]; exact row_get _ _ _ hk
      have hy : ∀ k, k < 6 → wr.cell? ⟨q3, k, none⟩ = some (.int .i64 (v k)) := fun k hk => by rw [blk_cell HY.out]; exact row_get _ _ _ hk
      have x0 := hx 0 (by omega)
      have x1 := hx 1 (by omega)
      have x2 := hx 2 (by omega)
      have x3 := hx 3 (by omega)
      have x4 := hx 4 (by omega)
      have x5 := hx 5 (by omega)
      have y0 := hy 0 (by omega)
      have y1 := hy 1 (by omega)
      have y2 := hy 2 (by omega)
      have y3 := hy 3 (by omega)
      have y4 := hy 4 (by omega)
      have y5 := hy 5 (by omega)
      clear hx hy
      go_wp2_with (first | (go_at_call 31; (with_reducible refine (plus_lit _ _ _ _ _ _ _ _ _ _ _ _ u v ?h1 ?h2 _).mono ?_); (case h1 => exact ⟨rfl, rfl, rfl, rfl, rfl, rfl⟩); (case h2 => exact ⟨rfl, rfl, rfl, rfl, rfl, rfl⟩); rintro e w3 ⟨rfl, hb3⟩; have HX1 := Aside0.mk ((hb3.block q2 (blk_lt HX.out)).trans HX.out); have HY1 := Aside0.mk ((hb3.block q3 (blk_lt HY.out)).trans HY.out); have HB1 := Aside0.mk (below_step HB.out hb3); clear HX HY HB hb3 x0 x1 x2 x3 x4 x5 y0 y1 y2 y3 y4 y5; unfold sh))
      obtain ⟨W5, e5, h5, s5, b5⟩ := lay w3 (.cells (row (plusTo u v 6) 6) 47 (0, 0))
      rw [six (plusTo u v 6), ← e5]
      have HS := Aside0.mk h5
      have HX2 := Aside0.mk ((b5.block q2 (blk_lt HX1.out)).trans HX1.out)
      have HY2 := Aside0.mk ((b5.block q3 (blk_lt HY1.out)).trans HY1.out)
      have HB2 := Aside0.mk (below_step HB1.out b5)
      clear e5 h5 s5 b5 HX1 HY1 HB1
      obtain ⟨s, hs⟩ : ∃ s, w3.heap.size = s := ⟨_, rfl⟩
      rw [hs] at HS
      rw [hs]
      clear hs
      go_loopg [10] 6 (fun kq v10 w' => ∃ j : Nat, v10 = .int .i64 (j : Int) ∧ Aside0 (j + kq = 6) ∧ Aside0 (w'.heap[s]? = some (.cells (row (plusTo u v 6) 6) 47 (0, 0))) ∧ Aside0 (w'.heap[q2]? = some (.cells (row u 6) 47 (0, 0))) ∧ Aside0 (w'.heap[q3]? = some (.cells (row v 6) 47 (0, 0))) ∧ Aside0 (Below w.heap.size w w'))
      case atStart => exact ⟨0, rfl, ⟨by omega⟩, HS, HX2, HY2, HB2⟩
      case round =>
        clear HS HX2 HY2 HB2
        obtain ⟨j, rfl, HJ, HS, HX, HY, HB⟩ := hrel
        cases gk with
        | succ k1 =>
          have hlt : (j : Int) < 6 := by have := HJ.out; omega
          have h0 : (0 : Int) ≤ (j : Int) := by omega
          have c1 : wr.cell? ⟨s, j, none⟩ = some (.int .i64 (wrap64 (u j + v j))) := by
            rw [blk_cell HS.out, row_get _ _ _ (by omega : j < 6)]
            simp [plusTo, show j < 6 by omega]
          have c2 : wr.cell? ⟨q2, j, none⟩ = some (.int .i64 (u j)) := by rw [blk_cell HX.out]; exact row_get _ _ _ (by omega)
          have c3 : wr.cell? ⟨q3, j, none⟩ = some (.int .i64 (v j)) := by rw [blk_cell HY.out]; exact row_get _ _ _ (by omega)
          go_wp2
          go_quiet (fail)
          go_wp2
          go_roundg k1
          case measure => omega
          case rel => exact ⟨j + 1, by go_num, ⟨by have := HJ.out; omega⟩, HS, HX, HY, ⟨pw_below_drewN HB.out _⟩⟩
        | zero =>
          have hge : ¬ ((j : Int) < 6) := by have := HJ.out; omega
          clear HJ HS
          have HUU := Aside0.mk (belowB_of (fun k _ => Int.le_refl _ : ∀ k, k < 6 → u k ≤ u k))
          go_wp2_with (first | (go_at_call 28; (with_reducible refine (awake_calls _).mono ?_); rintro e w6 ⟨rfl, hb⟩; have HX2 := Aside0.mk ((hb.block q2 (blk_lt HX.out)).trans HX.out); have HY2 := Aside0.mk ((hb.block q3 (blk_lt HY.out)).trans HY.out); have HB2 := Aside0.mk (below_step HB.out hb); clear HX HY HB hb; have hx : ∀ k, k < 6 → w6.cell? ⟨q2, k, none⟩ = some (.int .i64 (u k)) := (fun k hk => by rw [blk_cell HX2.out]; exact row_get _ _ _ hk); have hy : ∀ k, k < 6 → w6.cell? ⟨q3, k, none⟩ = some (.int .i64 (v k)) := (fun k hk => by rw [blk_cell HY2.out]; exact row_get _ _ _ hk); have x0 := hx 0 (by omega); have x1 := hx 1 (by omega); have x2 := hx 2 (by omega); have x3 := hx 3 (by omega); have x4 := hx 4 (by omega); have x5 := hx 5 (by omega); have y0 := hy 0 (by omega); have y1 := hy 1 (by omega); have y2 := hy 2 (by omega); have y3 := hy 3 (by omega); have y4 := hy 4 (by omega); have y5 := hy 5 (by omega); clear hx hy) | (go_at_call 32; (with_reducible refine (below_lit _ _ _ _ _ _ _ _ _ _ _ _ u v ?h1 ?h2 bt HBT.out _).mono ?_); (case h1 => exact ⟨rfl, rfl, rfl, rfl, rfl, rfl⟩); (case h2 => exact ⟨rfl, rfl, rfl, rfl, rfl, rfl⟩); rintro e w7 ⟨rfl, hb⟩; have HX3 := Aside0.mk ((hb.block q2 (blk_lt HX2.out)).trans HX2.out); have HB3 := Aside0.mk (below_step HB2.out hb); clear HX2 HY2 HB2 hb x0 x1 x2 x3 x4 x5 y0 y1 y2 y3 y4 y5; have hx : ∀ k, k < 6 → w7.cell? ⟨q2, k, none⟩ = some (.int .i64 (u k)) := (fun k hk => by rw [blk_cell HX3.out]; exact row_get _ _ _ hk); have x0 := hx 0 (by omega); have x1 := hx 1 (by omega); have x2 := hx 2 (by omega); have x3 := hx 3 (by omega); have x4 := hx 4 (by omega); have x5 := hx 5 (by omega); clear hx) | (go_at_call 32; (with_reducible refine (below_lit _ _ _ _ _ _ _ _ _ _ _ _ u u ?h3 ?h4 true HUU.out _).mono ?_); (case h3 => exact ⟨rfl, rfl, rfl, rfl, rfl, rfl⟩); (case h4 => exact ⟨rfl, rfl, rfl, rfl, rfl, rfl⟩); rintro e w8 ⟨rfl, hb⟩; have HB4 := Aside0.mk (below_step HB3.out hb); clear hb))
          go_ret
          exact ⟨rfl, HB4.out⟩
end Go.Proofs.Ytmknlojgjlpgfaa.CountE
