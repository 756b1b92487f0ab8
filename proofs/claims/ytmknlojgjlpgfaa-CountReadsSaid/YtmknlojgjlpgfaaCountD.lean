/- Package count's law: what it asks first. -/
import Derived.Test.YtmknlojgjlpgfaaCountC
namespace Go.Proofs.Ytmknlojgjlpgfaa.CountD
open Go.RowKit Go.Proofs.YtmknlojgjlpgfaaW.PrintWords Go.Proofs.YtmknlojgjlpgfaaW.PrintLast Go.Proofs.YtmknlojgjlpgfaaW.PrintMore Go.Proofs.Ytmknlojgjlpgfaa.BitsA Go.Proofs.Ytmknlojgjlpgfaa.CountA Go.Proofs.Ytmknlojgjlpgfaa.CountB Go.Proofs.Ytmknlojgjlpgfaa.CountC
set_option linter.unusedVariables false
set_option linter.unusedSimpArgs false

/-! ### two shards held against each other -/
theorem all_range_eqI : ∀ (xs ys : List Int), xs.length = ys.length → ((List.range xs.length).all fun i => xs.getD i 0 == ys.getD i 0) = (xs == ys)
  | [], [], _ => rfl
  | x :: xs, y :: ys, h => by
    have ih := all_range_eqI xs ys (by simpa using h)
    rw [List.length_cons, List.range_succ_eq_map, List.all_cons, List.all_map]
    simp only [List.getD_cons_zero, Function.comp_def, List.getD_cons_succ, ih]
    simp [List.cons_beq_cons]
  | [], _ :: _, h => by simp at h
  | _ :: _, [], h => by simp at h

theorem run_equalIn_ints {P : Program} (w : World) (d : Nat) (t e : TypeId) (n : Nat) (ht : P.underlying t = some (.array n e)) (he : P.underlying e = some (.int .i64)) (hsz : ∀ w, (sizeOf e).run P w = .ok 1 w)
    (xs ys : List Int) (hx : xs.length = n) (hy : ys.length = n) :
    (Op.equalIn (d + 2) t (.agg (xs.map (Value.int .i64)).toArray) (.agg (ys.map (Value.int .i64)).toArray)).run P w = .ok (xs == ys) w := by
  rw [← all_range_eqI xs ys (hx.trans hy.symm), hx, List.range_eq_range', Op.equalIn]
  simp only [Sem.run_bind, run_underlying ht, Result.andThen_ok, hsz, Std.Legacy.Range.forIn_eq_forIn_range', Std.Legacy.Range.size, Nat.sub_zero, Nat.add_sub_cancel, Nat.div_one]
  have hl : ∀ i ∈ List.range' 0 n 1, i < n := fun i hi => by simpa using (List.mem_range'_1.1 hi).2
  generalize List.range' 0 n 1 = l at hl ⊢
  induction l with
  | nil => simp
  | cons i l ih =>
    have hi : i < n := hl i (by simp)
    have px : (part e (xs.map (Value.int .i64)).toArray (i * 1)).run P w = .ok (Value.int .i64 (xs.getD i 0)) w := by
      simp [part, isAgg, run_underlying he, List.getD, List.getElem?_eq_getElem (show i < xs.length by omega)]
    have py : (part e (ys.map (Value.int .i64)).toArray (i * 1)).run P w = .ok (Value.int .i64 (ys.getD i 0)) w := by
      simp [part, isAgg, run_underlying he, List.getD, List.getElem?_eq_getElem (show i < ys.length by omega)]
    have pe : (Op.equalIn (d + 1) e (Value.int .i64 (xs.getD i 0)) (Value.int .i64 (ys.getD i 0))).run P w = .ok (xs.getD i 0 == ys.getD i 0) w := by
      rw [run_equalIn_int w d e .i64 .i64 _ _ he]
    simp only [List.forIn_cons, Sem.run_bind, px, py, pe, Result.andThen_ok, List.all_cons]
    cases hb : (xs.getD i 0 == ys.getD i 0)
    · simp
    · simp only [Bool.not_true, Bool.false_eq_true, if_false, Sem.run_pure, Result.andThen_ok, Bool.true_and]
      exact ih fun j hj => hl j (by simp [hj])

theorem size2 (w : World) : (sizeOf 2).run Try.prog w = .ok 1 w := by kernel_rfl

theorem eql47 (w : World) (x0 x1 x2 x3 x4 x5 y0 y1 y2 y3 y4 y5 : Int) :
    (binOp .eql 47 (.agg #[.int .i64 x0, .int .i64 x1, .int .i64 x2, .int .i64 x3, .int .i64 x4, .int .i64 x5]) (.agg #[.int .i64 y0, .int .i64 y1, .int .i64 y2, .int .i64 y3, .int .i64 y4, .int .i64 y5])).run Try.prog w =
      .ok (.bool ([x0, x1, x2, x3, x4, x5] == [y0, y1, y2, y3, y4, y5])) w := by
  have := run_equalIn_ints (P := Try.prog) w 9998 47 2 6 Try.underlying47 Try.underlying2 size2 [x0, x1, x2, x3, x4, x5] [y0, y1, y2, y3, y4, y5] rfl rfl
  rw [run_eql_struct]
  simp only [List.map_cons, List.map_nil] at this
  rw [this]
  rfl

theorem neq47 (w : World) (x0 x1 x2 x3 x4 x5 y0 y1 y2 y3 y4 y5 : Int) :
    (binOp .neq 47 (.agg #[.int .i64 x0, .int .i64 x1, .int .i64 x2, .int .i64 x3, .int .i64 x4, .int .i64 x5]) (.agg #[.int .i64 y0, .int .i64 y1, .int .i64 y2, .int .i64 y3, .int .i64 y4, .int .i64 y5])).run Try.prog w =
      .ok (.bool (!([x0, x1, x2, x3, x4, x5] == [y0, y1, y2, y3, y4, y5]))) w := by
  have := run_equalIn_ints (P := Try.prog) w 9998 47 2 6 Try.underlying47 Try.underlying2 size2 [x0, x1, x2, x3, x4, x5] [y0, y1, y2, y3, y4, y5] rfl rfl
  rw [run_neq_struct]
  simp only [List.map_cons, List.map_nil] at this
  rw [this]
  rfl

def one7 : Nat → Int := upd (fun _ => 0) 7 1

theorem aw_add {w : World} {c b : Nat} (h : IsC w c b 2 (fun _ => 0)) : Calls Try.prog 26 #[.pointer (some ⟨c, 0, none⟩), .int .i64 1, .int .i64 1] w fun e w' => e = .returned (.bool true) ∧ IsC w' c b 2 one7 ∧ But b w w' := by
  have := add_calls h 1 1
  rw [show there 1 1 2 = true by decide, show added (fun _ => 0) 2 1 1 = one7 by
    unfold added
    rw [if_pos (by decide)]
    have e1 : (1 : Int).toNat * 6 + (1 : Int).toNat = 7 := by decide
    have e2 : wrap64 (0 + 1) = 1 := by unfold wrap64; decide
    rw [e1, e2]
    rfl] at this
  exact this

theorem aw_sum {w : World} {c b : Nat} (h : IsC w c b 2 one7) : Calls Try.prog 29 #[.pointer (some ⟨c, 0, none⟩)] w fun e w' => e = .returned (.agg #[.int .i64 0, .int .i64 1, .int .i64 0, .int .i64 0, .int .i64 0, .int .i64 0]) ∧ Below w.heap.size w w' := by
  have := sum_calls h
  rw [show sh (sumTo one7 2) = .agg #[.int .i64 0, .int .i64 1, .int .i64 0, .int .i64 0, .int .i64 0, .int .i64 0] by simp [sh, sumTo, plusTo, one7, upd, wrap64]] at this
  exact this

theorem aw_of {w : World} {c b : Nat} (h : IsC w c b 2 one7) : Calls Try.prog 27 #[.pointer (some ⟨c, 0, none⟩), .int .i64 0] w fun e w' => e = .returned (.agg #[.int .i64 0, .int .i64 0, .int .i64 0, .int .i64 0, .int .i64 0, .int .i64 0]) ∧ Below w.heap.size w w' := by
  have := of_yes h 0 (by decide) (by decide)
  exact this

theorem aw_no {w : World} {c b : Nat} (h : IsC w c b 2 one7) : Calls Try.prog 26 #[.pointer (some ⟨c, 0, none⟩), .int .i64 2, .int .i64 0] w fun e w' => e = .returned (.bool false) ∧ w' = w :=
  add_no h 2 0 (by decide)

theorem aw_below (w : World) : Calls Try.prog 32 #[.agg #[.int .i64 0, .int .i64 0, .int .i64 0, .int .i64 0, .int .i64 0, .int .i64 0], .agg #[.int .i64 0, .int .i64 1, .int .i64 0, .int .i64 0, .int .i64 0, .int .i64 0]] w fun e w' => e = .returned (.bool true) ∧ Below w.heap.size w w' := by
  have := below_calls (fun _ => 0) (upd (fun _ => 0) 1 1) w
  exact this

theorem But.frame {b : Nat} {w w' : World} (h : But b w w') {k : Nat} (hk : k ≠ b) : w'.heap[k]? = w.heap[k]? := h.block k hk

set_option maxHeartbeats 1000000 in
set_option maxRecDepth 100000 in
theorem awake_calls (w : World) : Calls Try.prog 28 #[] w fun e w' => e = .returned (.bool true) ∧ Below w.heap.size w w' := by
  have he0 := fun w => eql47 w 0 0 0 0 0 0 0 0 0 0 0 0
  simp only [BEq.rfl] at he0
  go_enter Try.func28, Try.ntmps28
  go_wp2_with (first | (go_at_call 25; (with_reducible refine (new_calls 2 _).mono ?_); rintro e w1 ⟨c, b, rfl, hc, hcl, hbl, hb⟩; have HC := Aside0.mk (show IsC w1 c b 2 (fun _ => 0) from hc); have HX := Aside0.mk (And.intro hcl hbl); have HB := Aside0.mk hb; clear hc hcl hbl hb) | (go_at_call 26; (with_reducible refine (aw_add HC.out).mono ?_); rintro e w2 ⟨rfl, hc, hu⟩; have n1 := Aside0.mk hc; have n2 := Aside0.mk (HB.out.trans (hu.below HX.out.2)); clear HC HB hc hu; have HC := n1; have HB := n2; clear n1 n2) | (go_at_call 29; (with_reducible refine (aw_sum HC.out).mono ?_); rintro e w3 ⟨rfl, hb⟩; have n1 := Aside0.mk ((HC.out.below hb).below (below_alloc (Below.refl _ _) (.cells #[.int .i64 0, .int .i64 1, .int .i64 0, .int .i64 0, .int .i64 0, .int .i64 0] 47 (0, 0)))); have HS := Aside0.mk (MapKept.heap_alloc w3 (.cells #[.int .i64 0, .int .i64 1, .int .i64 0, .int .i64 0, .int .i64 0, .int .i64 0] 47 (0, 0))).1; have n2 := Aside0.mk (below_alloc (below_step HB.out hb) (.cells #[.int .i64 0, .int .i64 1, .int .i64 0, .int .i64 0, .int .i64 0, .int .i64 0] 47 (0, 0))); clear HC HB hb; have HC := n1; have HB := n2; clear n1 n2) | (go_at_call 27; (with_reducible refine (aw_of HC.out).mono ?_); rintro e w4 ⟨rfl, hb⟩; have n1 := Aside0.mk (HC.out.below hb); have n2 := Aside0.mk (below_step HB.out hb); have n3 := Aside0.mk ((hb.block w3.heap.size (by simp)).trans HS.out); clear HC HB HS hb; have HC := n1; have HB := n2; have HS := n3; clear n1 n2 n3; have s0 : w4.cell? ⟨w3.heap.size, 0, none⟩ = some (.int .i64 0) := (blk_cell HS.out 0); have s1 : w4.cell? ⟨w3.heap.size, 1, none⟩ = some (.int .i64 1) := (blk_cell HS.out 1); have s2 : w4.cell? ⟨w3.heap.size, 2, none⟩ = some (.int .i64 0) := (blk_cell HS.out 2); have s3 : w4.cell? ⟨w3.heap.size, 3, none⟩ = some (.int .i64 0) := (blk_cell HS.out 3); have s4 : w4.cell? ⟨w3.heap.size, 4, none⟩ = some (.int .i64 0) := (blk_cell HS.out 4); have s5 : w4.cell? ⟨w3.heap.size, 5, none⟩ = some (.int .i64 0) := (blk_cell HS.out 5)) | (go_at_call 26; (with_reducible refine (aw_no HC.out).mono ?_); rintro e w5 ⟨rfl, rfl⟩) | (go_at_call 32; (with_reducible refine (aw_below _).mono ?_); rintro e w6 ⟨rfl, hb⟩; have n2 := Aside0.mk (below_step HB.out hb); clear HB hb; have HB := n2; clear n2))
  go_ret
  exact ⟨rfl, HB.out⟩
end Go.Proofs.Ytmknlojgjlpgfaa.CountD
