/- Package count: counts together, and which are below others. -/
import Derived.Test.YtmknlojgjlpgfaaCountA
import Derived.StillTailTactics
namespace Go.Proofs.Ytmknlojgjlpgfaa.CountB
open Go.RowKit Go.Proofs.YtmknlojgjlpgfaaW.PrintWords Go.Proofs.YtmknlojgjlpgfaaW.PrintLast Go.Proofs.YtmknlojgjlpgfaaW.PrintMore Go.Proofs.Ytmknlojgjlpgfaa.BitsA Go.Proofs.Ytmknlojgjlpgfaa.CountA
set_option linter.unusedVariables false
set_option linter.unusedSimpArgs false

/-- Is none above the other's? -/
def belowB (f g : Nat → Int) : Bool := (List.range 6).all fun k => decide (f k ≤ g k)

theorem belowB_of {f g : Nat → Int} (h : ∀ k, k < 6 → f k ≤ g k) : belowB f g = true := by
  unfold belowB
  rw [List.all_eq_true]
  intro k hk
  exact decide_eq_true (h k (by simpa using hk))

theorem belowB_not {f g : Nat → Int} {k : Nat} (hk : k < 6) (h : g k < f k) : belowB f g = false := by
  unfold belowB
  rw [List.all_eq_false]
  exact ⟨k, by simpa using hk, by simp; omega⟩

theorem six0 : #[.int .i64 0, .int .i64 0, .int .i64 0, .int .i64 0, .int .i64 0, .int .i64 0] = row (fun _ => 0) 6 := rfl
theorem six (f : Nat → Int) : #[.int .i64 (f 0), .int .i64 (f 1), .int .i64 (f 2), .int .i64 (f 3), .int .i64 (f 4), .int .i64 (f 5)] = row f 6 := rfl

set_option maxHeartbeats 1000000 in
set_option maxRecDepth 100000 in
theorem below_calls (f g : Nat → Int) (w : World) : Calls Try.prog 32 #[sh f, sh g] w fun e w' => e = .returned (.bool (belowB f g)) ∧ Below w.heap.size w w' := by
  have F0 := Aside0.mk (show (w.alloc (.cells (row f 6) 47 (0, 0))).heap[w.heap.size]? = some (.cells (row f 6) 47 (0, 0)) from (MapKept.heap_alloc w _).1)
  have F1 := Aside0.mk (show ((w.alloc (.cells (row f 6) 47 (0, 0))).alloc (.cells (row g 6) 47 (0, 0))).heap[w.heap.size + 1]? = some (.cells (row g 6) 47 (0, 0)) by
    have := (MapKept.heap_alloc (w.alloc (.cells (row f 6) 47 (0, 0))) (.cells (row g 6) 47 (0, 0))).1
    have e : (w.alloc (.cells (row f 6) 47 (0, 0))).heap.size = w.heap.size + 1 := by simp
    rw [e] at this
    exact this)
  have F2 := Aside0.mk (show ((w.alloc (.cells (row f 6) 47 (0, 0))).alloc (.cells (row g 6) 47 (0, 0))).heap[w.heap.size]? = some (.cells (row f 6) 47 (0, 0)) from
    ((below_alloc (Below.refl _ (w.alloc (.cells (row f 6) 47 (0, 0)))) _).block w.heap.size (by simp)).trans F0.out)
  have HB := Aside0.mk (show Below w.heap.size w ((w.alloc (.cells (row f 6) 47 (0, 0))).alloc (.cells (row g 6) 47 (0, 0))) from below_alloc (below_alloc (Below.refl _ _) _) _)
  clear F0
  unfold sh
  go_enter Try.func32, Try.ntmps32
  go_wp2
  rw [six f, six g]
  obtain ⟨W, hW⟩ : ∃ W, W = ((w.alloc (.cells (row f 6) 47 (0, 0))).alloc (.cells (row g 6) 47 (0, 0))) := ⟨_, rfl⟩
  rw [← hW] at F1 F2 HB
  rw [← hW]
  clear hW
  obtain ⟨p, hp⟩ : ∃ p, w.heap.size = p := ⟨_, rfl⟩
  rw [hp] at F1 F2
  rw [hp]
  have HP := Aside0.mk hp
  clear hp
  go_loopg [6] 6 (fun kq v6 w' => ∃ i : Nat, v6 = .int .i64 (i : Int) ∧ Aside0 (i + kq = 6) ∧ Aside0 (∀ k, k < i → f k ≤ g k) ∧ Aside0 (w'.heap[p]? = some (.cells (row f 6) 47 (0, 0))) ∧ Aside0 (w'.heap[p + 1]? = some (.cells (row g 6) 47 (0, 0))) ∧ Aside0 (Below w.heap.size w w'))
  case atStart => exact ⟨0, rfl, ⟨by omega⟩, ⟨fun k hk => by omega⟩, F2, F1, HB⟩
  case round =>
    clear F1 F2 HB
    obtain ⟨i, rfl, HI, HL, F2, F1, HB⟩ := hrel
    cases gk with
    | succ k1 =>
      have hlt : (i : Int) < 6 := by have := HI.out; omega
      have h0 : (0 : Int) ≤ (i : Int) := by omega
      have k0 : wr.cell? ⟨p, i, none⟩ = some (.int .i64 (f i)) := by rw [blk_cell F2.out]; exact row_get _ _ _ (by omega)
      have k1' : wr.cell? ⟨p + 1, i, none⟩ = some (.int .i64 (g i)) := by rw [blk_cell F1.out]; exact row_get _ _ _ (by omega)
      by_cases hc : g i < f i
      · have HF := Aside0.mk (belowB_not (by omega : i < 6) hc)
        go_wp2
        go_quiet (fail)
        go_wp2
        go_ret
        exact ⟨by rw [HF.out]; rfl, pw_below_drewN HB.out _⟩
      · have hle : f i ≤ g i := by omega
        go_wp2
        go_quiet (fail)
        go_wp2
        go_roundg k1
        case measure => omega
        case rel =>
          refine ⟨i + 1, by go_num, ⟨by have := HI.out; omega⟩, ⟨fun k hk => ?_⟩, F2, F1, ⟨pw_below_drewN HB.out _⟩⟩
          by_cases e : k = i
          · subst e; exact hle
          · exact HL.out k (by omega)
    | zero =>
      have hge : ¬ ((i : Int) < 6) := by have := HI.out; omega
      have HF := Aside0.mk (belowB_of (fun k hk => HL.out k (by have := HI.out; omega) : ∀ k, k < 6 → f k ≤ g k))
      go_wp2
      go_ret
      exact ⟨by rw [HF.out]; rfl, HB.out⟩

/-- Added up, of the first i. -/
def plusTo (f g : Nat → Int) (i : Nat) : Nat → Int := fun k => if k < i then wrap64 (f k + g k) else f k

set_option maxHeartbeats 1000000 in
set_option maxRecDepth 100000 in
theorem plus_calls (f g : Nat → Int) (w : World) : Calls Try.prog 31 #[sh f, sh g] w fun e w' => e = .returned (sh (plusTo f g 6)) ∧ Below w.heap.size w w' := by
  obtain ⟨W1, hW1⟩ : ∃ W1, W1 = w.alloc (.cells (row f 6) 47 (0, 0)) := ⟨_, rfl⟩
  obtain ⟨W2, hW2⟩ : ∃ W2, W2 = W1.alloc (.cells (row g 6) 47 (0, 0)) := ⟨_, rfl⟩
  obtain ⟨W3, hW3⟩ : ∃ W3, W3 = W2.alloc (.cells (row (fun _ => 0) 6) 47 (0, 0)) := ⟨_, rfl⟩
  have s1 : W1.heap.size = w.heap.size + 1 := by rw [hW1]; simp
  have s2 : W2.heap.size = w.heap.size + 2 := by rw [hW2]; simp; omega
  have F0 : W1.heap[w.heap.size]? = some (.cells (row f 6) 47 (0, 0)) := by rw [hW1]; exact (MapKept.heap_alloc w _).1
  have G0 : W2.heap[w.heap.size + 1]? = some (.cells (row g 6) 47 (0, 0)) := by rw [hW2, ← s1]; exact (MapKept.heap_alloc W1 _).1
  have R0 := Aside0.mk (show W3.heap[w.heap.size + 2]? = some (.cells (row (fun _ => 0) 6) 47 (0, 0)) by rw [hW3, ← s2]; exact (MapKept.heap_alloc W2 _).1)
  have b1 : Below W1.heap.size W1 W2 := by rw [hW2]; exact below_alloc (Below.refl _ _) _
  have b2 : Below W2.heap.size W2 W3 := by rw [hW3]; exact below_alloc (Below.refl _ _) _
  have F2 := Aside0.mk (((b2.block w.heap.size (by omega)).trans (b1.block w.heap.size (by omega))).trans F0)
  have G2 := Aside0.mk ((b2.block (w.heap.size + 1) (by omega)).trans G0)
  have HB := Aside0.mk (show Below w.heap.size w W3 by rw [hW3, hW2, hW1]; exact below_alloc (below_alloc (below_alloc (Below.refl _ _) _) _) _)
  have HW := Aside0.mk (show W3 = ((w.alloc (.cells (row f 6) 47 (0, 0))).alloc (.cells (row g 6) 47 (0, 0))).alloc (.cells (row (fun _ => 0) 6) 47 (0, 0)) by rw [hW3, hW2, hW1])
  clear hW1 hW2 hW3 s1 s2 F0 G0 b1 b2
  clear W1 W2
  unfold sh
  go_enter Try.func31, Try.ntmps31
  go_wp2
  rw [six f, six g, six0, ← HW.out]
  obtain ⟨p, hp⟩ : ∃ p, w.heap.size = p := ⟨_, rfl⟩
  rw [hp] at F2 G2 R0
  rw [hp]
  have HP := Aside0.mk hp
  clear hp HW
  obtain ⟨q, hq⟩ : ∃ q, p + 1 + 1 = q := ⟨_, rfl⟩
  have hq2 : p + 2 = q := hq
  rw [hq2] at R0
  rw [hq]
  have HQ := Aside0.mk hq
  clear hq hq2
  go_loopg [6] 6 (fun kq v6 w' => ∃ i : Nat, v6 = .int .i64 (i : Int) ∧ Aside0 (i + kq = 6) ∧ Aside0 (w'.heap[p]? = some (.cells (row (plusTo f g i) 6) 47 (0, 0))) ∧ Aside0 (w'.heap[p + 1]? = some (.cells (row g 6) 47 (0, 0))) ∧ Aside0 (w'.heap[q]? = some (.cells (row (fun _ => 0) 6) 47 (0, 0))) ∧ Aside0 (Below w.heap.size w w'))
  case atStart => exact ⟨0, rfl, ⟨by omega⟩, F2, G2, R0, HB⟩
  case round =>
    clear F2 G2 R0 HB
    obtain ⟨i, rfl, HI, F2, G2, R0, HB⟩ := hrel
    cases gk with
    | succ k1 =>
      have hlt : (i : Int) < 6 := by have := HI.out; omega
      have h0 : (0 : Int) ≤ (i : Int) := by omega
      have k0 : wr.cell? ⟨p, i, none⟩ = some (.int .i64 (f i)) := by rw [blk_cell F2.out]; have := row_get (plusTo f g i) 6 i (by omega); rw [this]; simp [plusTo]
      have kf : wr.frozen? ⟨p, i, none⟩ = false := blk_frozen F2.out i
      have k1' : wr.cell? ⟨p + 1, i, none⟩ = some (.int .i64 (g i)) := by rw [blk_cell G2.out]; exact row_get _ _ _ (by omega)
      go_wp2
      go_region
      go_wp2
      go_roundg k1
      case measure => omega
      case rel =>
        refine ⟨i + 1, by go_num, ⟨by have := HI.out; omega⟩, ⟨?_⟩, ⟨?_⟩, ⟨?_⟩, ⟨?_⟩⟩
        · have h := blk_set F2.out i (.int .i64 (wrap64 (f i + g i)))
          rw [row_set] at h
          rw [show plusTo f g (i + 1) = upd (plusTo f g i) i (wrap64 (f i + g i)) by
            funext k
            unfold plusTo upd
            by_cases e : k = i
            · subst e; simp
            · by_cases hk : k < i
              · simp [e, hk, show k < i + 1 by omega]
              · simp [e, hk, show ¬ k < i + 1 by omega]]
          exact h
        · exact (Below.heap_setCell _ _ _ _ (by show p + 1 ≠ p; omega)).trans G2.out
        · exact (Below.heap_setCell _ _ _ _ (by have := HQ.out; show q ≠ p; omega)).trans R0.out
        · exact below_drew (below_set HB.out (by have := HP.out; omega))
    | zero =>
      have hge : ¬ ((i : Int) < 6) := by have := HI.out; omega
      have hi6 : i = 6 := by have := HI.out; omega
      subst hi6
      have hc : ∀ k, k < 6 → wr.cell? ⟨p, k, none⟩ = some (.int .i64 (plusTo f g 6 k)) := fun k hk => by rw [blk_cell F2.out]; exact row_get _ _ _ hk
      have hd : ∀ k, k < 6 → wr.cell? ⟨q, k, none⟩ = some (.int .i64 0) := fun k hk => by rw [blk_cell R0.out]; exact row_get _ _ _ hk
      have hf : ∀ k, wr.frozen? ⟨q, k, none⟩ = false := fun k => blk_frozen R0.out k
      have a0 := hc 0 (by omega)
      have a1 := hc 1 (by omega)
      have a2 := hc 2 (by omega)
      have a3 := hc 3 (by omega)
      have a4 := hc 4 (by omega)
      have a5 := hc 5 (by omega)
      have d0 := hd 0 (by omega)
      have d1 := hd 1 (by omega)
      have d2 := hd 2 (by omega)
      have d3 := hd 3 (by omega)
      have d4 := hd 4 (by omega)
      have d5 := hd 5 (by omega)
      have f0 := hf 0
      have f1 := hf 1
      have f2 := hf 2
      have f3 := hf 3
      have f4 := hf 4
      have f5 := hf 5
      clear hc hd hf
      go_wp2
      refine bodyPost_ret (v := sh (plusTo f g 6)) (by simp [results, Try.results31, go_sem, sh, d0, d1, d2, d3, d4, d5]) rfl ⟨rfl, ?_⟩
      have hq : w.heap.size ≤ q := by have := HP.out; have := HQ.out; omega
      go_goals
      exact ((((((HB.out.setCell hq _).setCell hq _).setCell hq _).setCell hq _).setCell hq _).setCell hq _)
end Go.Proofs.Ytmknlojgjlpgfaa.CountB
