/- Package count: what all counted. -/
import Derived.Test.YtmknlojgjlpgfaaCountB
namespace Go.Proofs.Ytmknlojgjlpgfaa.CountC
open Go.RowKit Go.Proofs.YtmknlojgjlpgfaaW.PrintWords Go.Proofs.YtmknlojgjlpgfaaW.PrintLast Go.Proofs.YtmknlojgjlpgfaaW.PrintMore Go.Proofs.Ytmknlojgjlpgfaa.BitsA Go.Proofs.Ytmknlojgjlpgfaa.CountA Go.Proofs.Ytmknlojgjlpgfaa.CountB
set_option linter.unusedVariables false
set_option linter.unusedSimpArgs false

/-- What the first i counted. -/
def sumTo (f : Nat → Int) : Nat → Nat → Int
  | 0 => fun _ => 0
  | i + 1 => plusTo (sumTo f i) (fun k => f (i * 6 + k)) 6

/-- Two blocks of zeros laid. -/
theorem two_new (w : World) : ∃ W : World, W = (w.alloc (.cells (row (fun _ => 0) 6) 47 (0, 0))).alloc (.cells (row (fun _ => 0) 6) 47 (0, 0)) ∧ W.heap[w.heap.size]? = some (.cells (row (fun _ => 0) 6) 47 (0, 0)) ∧ W.heap[w.heap.size + 1]? = some (.cells (row (fun _ => 0) 6) 47 (0, 0)) ∧ Below w.heap.size w W := by
  obtain ⟨W1, hW1⟩ : ∃ W1, W1 = w.alloc (.cells (row (fun _ => 0) 6) 47 (0, 0)) := ⟨_, rfl⟩
  obtain ⟨W2, hW2⟩ : ∃ W2, W2 = W1.alloc (.cells (row (fun _ => 0) 6) 47 (0, 0)) := ⟨_, rfl⟩
  have s1 : W1.heap.size = w.heap.size + 1 := by rw [hW1]; simp
  have F0 : W1.heap[w.heap.size]? = some (.cells (row (fun _ => 0) 6) 47 (0, 0)) := by rw [hW1]; exact (MapKept.heap_alloc w _).1
  have G0 : W2.heap[w.heap.size + 1]? = some (.cells (row (fun _ => 0) 6) 47 (0, 0)) := by rw [hW2, ← s1]; exact (MapKept.heap_alloc W1 _).1
  have b1 : Below W1.heap.size W1 W2 := by rw [hW2]; exact below_alloc (Below.refl _ _) _
  refine ⟨W2, by rw [hW2, hW1], (b1.block w.heap.size (by omega)).trans F0, G0, ?_⟩
  rw [hW2, hW1]
  exact below_alloc (below_alloc (Below.refl _ _) _) _

/-- A row of six written anew. -/
def put6 (w : World) (q : Nat) (g : Nat → Int) : World :=
  (((((w.setCell ⟨q, 0, none⟩ (.int .i64 (g 0))).setCell ⟨q, 1, none⟩ (.int .i64 (g 1))).setCell ⟨q, 2, none⟩ (.int .i64 (g 2))).setCell ⟨q, 3, none⟩ (.int .i64 (g 3))).setCell ⟨q, 4, none⟩ (.int .i64 (g 4))).setCell ⟨q, 5, none⟩ (.int .i64 (g 5))

theorem put6_at {w : World} {q : Nat} {f : Nat → Int} {t : TypeId} (h : w.heap[q]? = some (.cells (row f 6) t (0, 0))) (g : Nat → Int) : (put6 w q g).heap[q]? = some (.cells (row g 6) t (0, 0)) := by
  have := blk_set (blk_set (blk_set (blk_set (blk_set (blk_set h 0 (.int .i64 (g 0))) 1 (.int .i64 (g 1))) 2 (.int .i64 (g 2))) 3 (.int .i64 (g 3))) 4 (.int .i64 (g 4))) 5 (.int .i64 (g 5))
  simp only [row_set] at this
  unfold put6
  rw [this]
  have e : row (upd (upd (upd (upd (upd (upd f 0 (g 0)) 1 (g 1)) 2 (g 2)) 3 (g 3)) 4 (g 4)) 5 (g 5)) 6 = row g 6 := by
    rw [← six, ← six]
    rfl
  rw [e]

theorem put6_other (w : World) (q : Nat) (g : Nat → Int) (k : Nat) (h : k ≠ q) : (put6 w q g).heap[k]? = w.heap[k]? := by
  unfold put6
  rw [Below.heap_setCell _ _ _ _ h, Below.heap_setCell _ _ _ _ h, Below.heap_setCell _ _ _ _ h, Below.heap_setCell _ _ _ _ h, Below.heap_setCell _ _ _ _ h, Below.heap_setCell _ _ _ _ h]

theorem put6_below {B : Nat} {w0 w : World} {q : Nat} (h : Below B w0 w) (hq : B ≤ q) (g : Nat → Int) : Below B w0 (put6 w q g) :=
  (((((h.setCell hq _).setCell hq _).setCell hq _).setCell hq _).setCell hq _).setCell hq _

/-- Adding, as the walk has the values. -/
theorem plus_lit (x0 x1 x2 x3 x4 x5 y0 y1 y2 y3 y4 y5 : Int) (f g : Nat → Int) (hx : x0 = f 0 ∧ x1 = f 1 ∧ x2 = f 2 ∧ x3 = f 3 ∧ x4 = f 4 ∧ x5 = f 5) (hy : y0 = g 0 ∧ y1 = g 1 ∧ y2 = g 2 ∧ y3 = g 3 ∧ y4 = g 4 ∧ y5 = g 5) (w : World) :
    Calls Try.prog 31 #[.agg #[.int .i64 x0, .int .i64 x1, .int .i64 x2, .int .i64 x3, .int .i64 x4, .int .i64 x5], .agg #[.int .i64 y0, .int .i64 y1, .int .i64 y2, .int .i64 y3, .int .i64 y4, .int .i64 y5]] w fun e w' => e = .returned (sh (plusTo f g 6)) ∧ Below w.heap.size w w' := by
  obtain ⟨rfl, rfl, rfl, rfl, rfl, rfl⟩ := hx
  obtain ⟨rfl, rfl, rfl, rfl, rfl, rfl⟩ := hy
  exact plus_calls f g w

set_option maxHeartbeats 1000000 in
set_option maxRecDepth 100000 in
theorem sum_calls {w : World} {c b n : Nat} {f : Nat → Int} (h : IsC w c b n f) : Calls Try.prog 29 #[.pointer (some ⟨c, 0, none⟩)] w fun e w' => e = .returned (sh (sumTo f n)) ∧ Below w.heap.size w w' := by
  obtain ⟨W, hW, hz, ho, hb⟩ := two_new w
  have hcl : c < w.heap.size := blk_lt h.2.2.1
  have hbl : b < w.heap.size := blk_lt h.2.2.2
  have HC := Aside0.mk (h.below hb)
  have HZ := Aside0.mk hz
  have HO := Aside0.mk ho
  have HB := Aside0.mk hb
  have HW := Aside0.mk hW
  have HX := Aside0.mk (And.intro hcl hbl)
  have C3 := Aside0.mk (fun w (h : IsC w c b n f) => len_calls h)
  have hn64 : (n : Int) ≤ 64 := by have := h.2.1; omega
  clear h hW hz ho hb hcl hbl
  go_enter Try.func29, Try.ntmps29
  go_wp2_with (fail)
  rw [six0, ← HW.out]
  clear HW
  obtain ⟨p, hp⟩ : ∃ p, w.heap.size = p := ⟨_, rfl⟩
  rw [hp] at HZ HO
  rw [hp]
  have HP := Aside0.mk hp
  clear hp
  go_wp2_with (first | (go_at_call 30; (with_reducible refine (C3.out _ HC.out).mono ?_); rintro e w1 ⟨rfl, rfl⟩))
  obtain ⟨q, hq⟩ : ∃ q, p + 1 = q := ⟨_, rfl⟩
  rw [hq] at HO
  rw [hq]
  have HQ := Aside0.mk hq
  clear hq
  go_loopg [7] n (fun kq v7 w' => ∃ i : Nat, v7 = .int .i64 (i : Int) ∧ Aside0 (i + kq = n) ∧ Aside0 (IsC w' c b n f) ∧ Aside0 (w'.heap[q]? = some (.cells (row (sumTo f i) 6) 47 (0, 0))) ∧ Aside0 (w'.heap[p]? = some (.cells (row (fun _ => 0) 6) 47 (0, 0))) ∧ Aside0 (Below w.heap.size w w'))
  case atStart => exact ⟨0, rfl, ⟨by omega⟩, HC, HO, HZ, HB⟩
  case round =>
    clear HC HO HZ HB
    obtain ⟨i, rfl, HI, HC, HO, HZ, HB⟩ := hrel
    cases gk with
    | succ k1 =>
      have hlt : (i : Int) < (n : Int) := by have := HI.out; omega
      have h0 : (0 : Int) ≤ (i : Int) := by omega
      go_wp2
      have c0 : wr.cell? ⟨c, 0, none⟩ = some (.slice (some ⟨b, 0, none⟩) n n) := by rw [blk_cell HC.out.2.2.1]; rfl
      have hc : ∀ k, k < 6 → wr.cell? ⟨b, i * 6 + k, none⟩ = some (.int .i64 (f (i * 6 + k))) := fun k hk => by rw [blk_cell HC.out.2.2.2]; exact row_get _ _ _ (by omega)
      have ho : ∀ k, k < 6 → wr.cell? ⟨q, k, none⟩ = some (.int .i64 (sumTo f i k)) := fun k hk => by rw [blk_cell HO.out]; exact row_get _ _ _ hk
      have a0 := hc 0 (by omega)
      rw [Nat.add_zero] at a0
      have a1 := hc 1 (by omega)
      have a2 := hc 2 (by omega)
      have a3 := hc 3 (by omega)
      have a4 := hc 4 (by omega)
      have a5 := hc 5 (by omega)
      have d0 := ho 0 (by omega)
      have d1 := ho 1 (by omega)
      have d2 := ho 2 (by omega)
      have d3 := ho 3 (by omega)
      have d4 := ho 4 (by omega)
      have d5 := ho 5 (by omega)
      clear hc ho
      go_still_tail 8, (by kernel_rfl)
      change wpList _ _ _ _ _ wr.drew
      obtain ⟨w2, hw2⟩ : ∃ w2, w2 = wr.drew := ⟨_, rfl⟩
      rw [← hw2]
      have HC2 := Aside0.mk (show IsC w2 c b n f by rw [hw2]; exact HC.out)
      have HO2 := Aside0.mk (show w2.heap[q]? = some (.cells (row (sumTo f i) 6) 47 (0, 0)) by rw [hw2]; exact HO.out)
      have HZ2 := Aside0.mk (show w2.heap[p]? = some (.cells (row (fun _ => 0) 6) 47 (0, 0)) by rw [hw2]; exact HZ.out)
      have HB2 := Aside0.mk (show Below w.heap.size w w2 by rw [hw2]; exact below_drew HB.out)
      clear hw2 a0 a1 a2 a3 a4 a5 d0 d1 d2 d3 d4 d5 c0 HC HO HZ HB
      go_wp2_with (first | (go_at_call 31; (with_reducible refine (plus_lit _ _ _ _ _ _ _ _ _ _ _ _ (sumTo f i) (fun k => f (i * 6 + k)) ?h1 ?h2 _).mono ?_); (case h1 => exact ⟨rfl, rfl, rfl, rfl, rfl, rfl⟩); (case h2 => exact ⟨rfl, rfl, rfl, rfl, rfl, rfl⟩); rintro e w3 ⟨rfl, hb3⟩; have HC := Aside0.mk (HC2.out.below hb3); have HO := Aside0.mk ((hb3.block q (blk_lt HO2.out)).trans HO2.out); have HZ := Aside0.mk ((hb3.block p (blk_lt HZ2.out)).trans HZ2.out); have HB := Aside0.mk (below_step HB2.out hb3); clear hb3 HC2 HO2 HZ2 HB2; have ho : ∀ k, k < 6 → w3.cell? ⟨q, k, none⟩ = some (.int .i64 (sumTo f i k)) := (fun k hk => by rw [blk_cell HO.out]; exact row_get _ _ _ hk); have hf : ∀ k, w3.frozen? ⟨q, k, none⟩ = false := (fun k => blk_frozen HO.out k); have d0 := ho 0 (by omega); have d1 := ho 1 (by omega); have d2 := ho 2 (by omega); have d3 := ho 3 (by omega); have d4 := ho 4 (by omega); have d5 := ho 5 (by omega); have f0 := hf 0; have f1 := hf 1; have f2 := hf 2; have f3 := hf 3; have f4 := hf 4; have f5 := hf 5; clear ho hf; unfold sh))
      have hqw : w.heap.size ≤ q := by have := HP.out; have := HQ.out; omega
      have HC2 := Aside0.mk (show IsC (put6 w3 q (plusTo (sumTo f i) (fun k => f (i * 6 + k)) 6)) c b n f from HC.out.kept (put6_other _ _ _ _ (by have := HX.out; omega)) (put6_other _ _ _ _ (by have := HX.out; omega)))
      have HO2 := Aside0.mk (put6_at HO.out (plusTo (sumTo f i) (fun k => f (i * 6 + k)) 6))
      have HZ2 := Aside0.mk ((put6_other w3 q (plusTo (sumTo f i) (fun k => f (i * 6 + k)) 6) p (by have := HQ.out; omega)).trans HZ.out)
      have HB2 := Aside0.mk (put6_below HB.out hqw (plusTo (sumTo f i) (fun k => f (i * 6 + k)) 6))
      go_roundg k1
      case measure => omega
      case rel => exact ⟨i + 1, by go_num, ⟨by have := HI.out; omega⟩, HC2, HO2, HZ2, HB2⟩
    | zero =>
      have hge : ¬ ((i : Int) < (n : Int)) := by have := HI.out; omega
      have hin : i = n := by have := HI.out; omega
      subst hin
      have ho : ∀ k, k < 6 → wr.cell? ⟨q, k, none⟩ = some (.int .i64 (sumTo f i k)) := fun k hk => by rw [blk_cell HO.out]; exact row_get _ _ _ hk
      have hz : ∀ k, k < 6 → wr.cell? ⟨p, k, none⟩ = some (.int .i64 0) := fun k hk => by rw [blk_cell HZ.out]; exact row_get _ _ _ hk
      have hf : ∀ k, wr.frozen? ⟨p, k, none⟩ = false := fun k => blk_frozen HZ.out k
      have a0 := ho 0 (by omega)
      have a1 := ho 1 (by omega)
      have a2 := ho 2 (by omega)
      have a3 := ho 3 (by omega)
      have a4 := ho 4 (by omega)
      have a5 := ho 5 (by omega)
      have d0 := hz 0 (by omega)
      have d1 := hz 1 (by omega)
      have d2 := hz 2 (by omega)
      have d3 := hz 3 (by omega)
      have d4 := hz 4 (by omega)
      have d5 := hz 5 (by omega)
      have f0 := hf 0
      have f1 := hf 1
      have f2 := hf 2
      have f3 := hf 3
      have f4 := hf 4
      have f5 := hf 5
      clear ho hz hf
      go_wp2
      refine bodyPost_ret (v := sh (sumTo f i)) (by simp [results, Try.results29, go_sem, sh, d0, d1, d2, d3, d4, d5]) rfl ⟨rfl, ?_⟩
      exact put6_below HB.out (by have := HP.out; omega) (sumTo f i)

set_option maxRecDepth 100000 in
theorem sum_nil (w : World) : Calls Try.prog 29 #[.pointer none] w fun e w' => e = .returned (sh (fun _ => 0)) ∧ Below w.heap.size w w' := by
  obtain ⟨W, hW, hz, ho, hb⟩ := two_new w
  have HZ := Aside0.mk hz
  have HO := Aside0.mk ho
  have HB := Aside0.mk hb
  have HW := Aside0.mk hW
  clear hW hz ho hb
  go_enter Try.func29, Try.ntmps29
  go_wp2_with (first | (go_at_call 30; (with_reducible refine (len_nil _).mono ?_); rintro e w1 ⟨rfl, hw1⟩; rw [six0, ← HW.out] at hw1; subst hw1))
  obtain ⟨p, hp⟩ : ∃ p, w.heap.size = p := ⟨_, rfl⟩
  rw [hp] at HZ HO
  rw [hp]
  obtain ⟨q, hq⟩ : ∃ q, p + 1 = q := ⟨_, rfl⟩
  rw [hq] at HO
  rw [hq]
  have HP := Aside0.mk hp
  clear hp hq HW
  have ho : ∀ k, k < 6 → w1.cell? ⟨q, k, none⟩ = some (.int .i64 0) := fun k hk => by rw [blk_cell HO.out]; exact row_get _ _ _ hk
  have hz : ∀ k, k < 6 → w1.cell? ⟨p, k, none⟩ = some (.int .i64 0) := fun k hk => by rw [blk_cell HZ.out]; exact row_get _ _ _ hk
  have hf : ∀ k, w1.frozen? ⟨p, k, none⟩ = false := fun k => blk_frozen HZ.out k
  have a0 := ho 0 (by omega)
  have a1 := ho 1 (by omega)
  have a2 := ho 2 (by omega)
  have a3 := ho 3 (by omega)
  have a4 := ho 4 (by omega)
  have a5 := ho 5 (by omega)
  have d0 := hz 0 (by omega)
  have d1 := hz 1 (by omega)
  have d2 := hz 2 (by omega)
  have d3 := hz 3 (by omega)
  have d4 := hz 4 (by omega)
  have d5 := hz 5 (by omega)
  have f0 := hf 0
  have f1 := hf 1
  have f2 := hf 2
  have f3 := hf 3
  have f4 := hf 4
  have f5 := hf 5
  clear ho hz hf
  refine wp_loop_once ?_
  go_wp2
  refine bodyPost_ret (v := sh (fun _ => 0)) (by simp [results, Try.results29, go_sem, sh, d0, d1, d2, d3, d4, d5]) rfl ⟨rfl, ?_⟩
  exact put6_below HB.out (by have := HP.out; omega) (fun _ => 0)
end Go.Proofs.Ytmknlojgjlpgfaa.CountC
