/- The law CountPlays, walked. -/
import Derived.Test.YtmknlojgjlpgfaaCountG
import Derived.Deep.RegionWith
import Derived.Deep.RegionHeld3
import Derived.Deep.RegionHeld3
import Derived.Deep.DrawnRows
namespace Go.Proofs.Ytmknlojgjlpgfaa.CountH
open Go.RowKit Go.Proofs.YtmknlojgjlpgfaaW.PrintWords Go.Proofs.YtmknlojgjlpgfaaW.PrintLast Go.Proofs.YtmknlojgjlpgfaaW.PrintMore Go.Proofs.Ytmknlojgjlpgfaa.BitsA Go.Proofs.Ytmknlojgjlpgfaa.CountA Go.Proofs.Ytmknlojgjlpgfaa.CountB Go.Proofs.Ytmknlojgjlpgfaa.CountC Go.Proofs.Ytmknlojgjlpgfaa.CountD Go.Proofs.Ytmknlojgjlpgfaa.CountE Go.Proofs.Ytmknlojgjlpgfaa.CountG
attribute [local go_sem] max2_int min2_int max_two min_two
attribute [local go_sem ↓] Go.wp_at_zero Go.wp_at_succ
set_option linter.unusedVariables false
set_option linter.unusedSimpArgs false

/-- A new row of n shards. -/
theorem make_row (n : Nat) (hn : n ≤ 64) (W : World) : (Instr.makeSlice 46 (.int .i64 (n : Int)) (.int .i64 (n : Int))).run Try.prog W = .ok (.slice (some ⟨W.heap.size, 0, none⟩) n n) (W.alloc (.cells (row (fun _ => 0) (n * 6)) 47 (0, 0))) := by
  obtain ⟨i0, hi, hz0, hz1, hz2⟩ := info_parts info47
  have := run_make W 46 47 i0 _ Try.underlying46 hi hz0 .i64 .i64 (n : Int) (n : Int) (by omega) (by omega) (by rw [hz2]; omega) (by omega)
  rw [this, hz1]
  have e : ((n : Int)).toNat = n := by omega
  rw [e]
  show Result.ok _ (W.alloc (.cells (madeCells #[.int .i64 0, .int .i64 0, .int .i64 0, .int .i64 0, .int .i64 0, .int .i64 0] (n * 6)) 47 (0, 0))) = _
  rw [made_row]

/-- What one counted, as the walk has the values. -/
theorem of_at {w : World} {c b n : Nat} {f : Nat → Int} (h : IsC w c b n f) (k : Nat) (hk : k < n) :
    Calls Try.prog 27 #[.pointer (some ⟨c, 0, none⟩), .int .i64 (k : Int)] w fun e w' => e = .returned (.agg #[.int .i64 (f (k * 6)), .int .i64 (f (k * 6 + 1)), .int .i64 (f (k * 6 + 2)), .int .i64 (f (k * 6 + 3)), .int .i64 (f (k * 6 + 4)), .int .i64 (f (k * 6 + 5))]) ∧ Below w.heap.size w w' := by
  have := of_yes h (k : Int) (by omega) (by omega)
  have e : ((k : Int)).toNat = k := by omega
  rw [e] at this
  exact this

theorem of_out {w : World} {c b n : Nat} {f : Nat → Int} (h : IsC w c b n f) (k : Int) (hk : ¬ (0 ≤ k ∧ k < (n : Int))) :
    Calls Try.prog 27 #[.pointer (some ⟨c, 0, none⟩), .int .i64 k] w fun e w' => e = .returned (.agg #[.int .i64 0, .int .i64 0, .int .i64 0, .int .i64 0, .int .i64 0, .int .i64 0]) ∧ Below w.heap.size w w' := of_no h k hk

theorem sum_at {w : World} {c b n : Nat} {f s : Nat → Int} (h : IsC w c b n f) (hg : Goes f s n) :
    Calls Try.prog 29 #[.pointer (some ⟨c, 0, none⟩)] w fun e w' => e = .returned (.agg #[.int .i64 (s 0), .int .i64 (s 1), .int .i64 (s 2), .int .i64 (s 3), .int .i64 (s 4), .int .i64 (s 5)]) ∧ Below w.heap.size w w' := by
  have := sum_calls h
  rw [show sh (sumTo f n) = sh s by unfold sh; rw [goes_sum hg 0 (by omega), goes_sum hg 1 (by omega), goes_sum hg 2 (by omega), goes_sum hg 3 (by omega), goes_sum hg 4 (by omega), goes_sum hg 5 (by omega)]] at this
  exact this

theorem neq_same (w : World) (x0 x1 x2 x3 x4 x5 : Int) : (binOp .neq 47 (.agg #[.int .i64 x0, .int .i64 x1, .int .i64 x2, .int .i64 x3, .int .i64 x4, .int .i64 x5]) (.agg #[.int .i64 x0, .int .i64 x1, .int .i64 x2, .int .i64 x3, .int .i64 x4, .int .i64 x5])).run Try.prog w = .ok (.bool false) w := by
  rw [neq47]; simp
theorem eql_same (w : World) (x0 x1 x2 x3 x4 x5 : Int) : (binOp .eql 47 (.agg #[.int .i64 x0, .int .i64 x1, .int .i64 x2, .int .i64 x3, .int .i64 x4, .int .i64 x5]) (.agg #[.int .i64 x0, .int .i64 x1, .int .i64 x2, .int .i64 x3, .int .i64 x4, .int .i64 x5])).run Try.prog w = .ok (.bool true) w := by
  rw [eql47]; simp

/-- What is held through the law's last test. -/
theorem keepS {w0 w w' : World} {q c b n : Nat} {f s : Nat → Int} (hb : Below w.heap.size w w') (h : ((w.cell? ⟨q, 0, none⟩ = some (.int .i64 (s 0)) ∧ w.cell? ⟨q, 1, none⟩ = some (.int .i64 (s 1)) ∧ w.cell? ⟨q, 2, none⟩ = some (.int .i64 (s 2)) ∧ w.cell? ⟨q, 3, none⟩ = some (.int .i64 (s 3)) ∧ w.cell? ⟨q, 4, none⟩ = some (.int .i64 (s 4)) ∧ w.cell? ⟨q, 5, none⟩ = some (.int .i64 (s 5))) ∧ IsC w c b n f ∧ Below w0.heap.size w0 w)) : ((w'.cell? ⟨q, 0, none⟩ = some (.int .i64 (s 0)) ∧ w'.cell? ⟨q, 1, none⟩ = some (.int .i64 (s 1)) ∧ w'.cell? ⟨q, 2, none⟩ = some (.int .i64 (s 2)) ∧ w'.cell? ⟨q, 3, none⟩ = some (.int .i64 (s 3)) ∧ w'.cell? ⟨q, 4, none⟩ = some (.int .i64 (s 4)) ∧ w'.cell? ⟨q, 5, none⟩ = some (.int .i64 (s 5))) ∧ IsC w' c b n f ∧ Below w0.heap.size w0 w') :=
  ⟨⟨pw_cell_below hb h.1.1, pw_cell_below hb h.1.2.1, pw_cell_below hb h.1.2.2.1, pw_cell_below hb h.1.2.2.2.1, pw_cell_below hb h.1.2.2.2.2.1, pw_cell_below hb h.1.2.2.2.2.2⟩, h.2.1.below hb, below_step h.2.2 hb⟩

/-- .. the counts of it, and the world. -/
theorem heldC {w0 w : World} {q c b n : Nat} {f s : Nat → Int} (h : ((w.cell? ⟨q, 0, none⟩ = some (.int .i64 (s 0)) ∧ w.cell? ⟨q, 1, none⟩ = some (.int .i64 (s 1)) ∧ w.cell? ⟨q, 2, none⟩ = some (.int .i64 (s 2)) ∧ w.cell? ⟨q, 3, none⟩ = some (.int .i64 (s 3)) ∧ w.cell? ⟨q, 4, none⟩ = some (.int .i64 (s 4)) ∧ w.cell? ⟨q, 5, none⟩ = some (.int .i64 (s 5))) ∧ IsC w c b n f ∧ Below w0.heap.size w0 w)) : IsC w c b n f := h.2.1
theorem heldB {w0 w : World} {q c b n : Nat} {f s : Nat → Int} (h : ((w.cell? ⟨q, 0, none⟩ = some (.int .i64 (s 0)) ∧ w.cell? ⟨q, 1, none⟩ = some (.int .i64 (s 1)) ∧ w.cell? ⟨q, 2, none⟩ = some (.int .i64 (s 2)) ∧ w.cell? ⟨q, 3, none⟩ = some (.int .i64 (s 3)) ∧ w.cell? ⟨q, 4, none⟩ = some (.int .i64 (s 4)) ∧ w.cell? ⟨q, 5, none⟩ = some (.int .i64 (s 5))) ∧ IsC w c b n f ∧ Below w0.heap.size w0 w)) : Below w0.heap.size w0 w := h.2.2

set_option maxHeartbeats 8000000 in
set_option maxRecDepth 100000 in
theorem plays_walk (many : Int) (A : Option Addr) (len cap : Nat) (xs ys : Nat → Int) (w : World) (hlen : len ≤ 9223372036854775807)
    (hc : ∀ i, i < len → ∃ b off, A = some ⟨b, off, none⟩ ∧ w.cell? ⟨b, off + i * 2, none⟩ = some (.int .i64 (xs i)) ∧ w.cell? ⟨b, off + i * 2 + 1, none⟩ = some (.int .i64 (ys i))) :
    Calls Try.prog 7 #[.int .i64 many, .slice A len cap] w fun e w' => e = .returned (.bool true) ∧ Below w.heap.size w w' := by
  have HC := Aside0.mk hc
  have HL := Aside0.mk hlen
  clear hc hlen
  have hp := parts_range many
  obtain ⟨n, hn⟩ : ∃ n : Nat, parts many = (n : Int) := ⟨(parts many).toNat, by omega⟩
  have hn0 : (parts many).toNat = n := by omega
  have HN := Aside0.mk hn0
  have hnn : (if 64 < (if many < 1 then 1 else many) then 64 else (if many < 1 then 1 else many)) = (n : Int) := hn
  rw [hn] at hp
  obtain ⟨j, hj⟩ : ∃ j, (if many < 1 then 1 else many) = j := ⟨_, rfl⟩
  rw [hj] at hnn
  have hmk := make_row n (by omega)
  obtain ⟨hp1, hp2⟩ := hp
  clear hn hn0
  go_enter Try.func7, Try.ntmps7
  go_wp2_with (first | (go_at_call 25; (with_reducible refine (new_calls many _).mono ?_); rintro e w1 ⟨c, b, rfl, hcc, hcl, hbl, hb⟩; rw [HN.out] at hcc; have HI := Aside0.mk hcc; have HX := Aside0.mk (And.intro hcl hbl); have HB := Aside0.mk hb; clear hcc hcl hbl hb))
  obtain ⟨W2, e2, h2, s2, b2⟩ := lay w1 (.cells (row (fun _ => 0) (n * 6)) 47 (0, 0))
  obtain ⟨W3, e3, h3, s3, b3⟩ := lay W2 (.cells (row (fun _ => 0) 6) 47 (0, 0))
  rw [six0, ← e2, ← e3]
  have HI0 := Aside0.mk ((HI.out.below b2).below b3)
  have HM0 := Aside0.mk (show W3.heap[w1.heap.size]? = some (.cells (row (fun _ => 0) (n * 6)) 47 (0, 0)) by rw [b3.block _ (by omega), h2])
  have HS0 := Aside0.mk (show W3.heap[w1.heap.size + 1]? = some (.cells (row (fun _ => 0) 6) 47 (0, 0)) by rw [← s2, h3])
  have HB0 := Aside0.mk (below_step (below_step HB.out b2) b3)
  have hcb : c < w1.heap.size ∧ b < w1.heap.size := ⟨blk_lt HI.out.2.2.1, blk_lt HI.out.2.2.2⟩
  have hsz : w.heap.size ≤ w1.heap.size := HB.out.size
  clear e2 e3 h2 h3 s2 s3 b2 b3 HI HB
  clear W2
  obtain ⟨m, hm⟩ : ∃ m, w1.heap.size = m := ⟨_, rfl⟩
  rw [hm] at HM0 HS0 hcb hsz
  rw [hm]
  clear hm
  obtain ⟨q, hq⟩ : ∃ q, m + 1 = q := ⟨_, rfl⟩
  rw [hq] at HS0
  rw [hq]
  have hmq : m ≠ q := by omega
  have hqm : q ≠ m := by omega
  have HY := Aside0.mk (show c < m ∧ b < m ∧ w.heap.size ≤ m ∧ w.heap.size ≤ q ∧ m < q by omega)
  clear hcb hsz hq hj hmk hnn
  have hn64 : (n : Int) ≤ 64 := hp2
  go_loopg [9] (min len 60) (fun kq v9 w' => ∃ (i : Nat) (f s : Nat → Int), v9 = .int .i64 (i : Int) ∧ Aside0 (i + kq = min len 60) ∧ Aside0 (IsC w' c b n f) ∧ Aside0 (w'.heap[m]? = some (.cells (row f (n * 6)) 47 (0, 0))) ∧ Aside0 (w'.heap[q]? = some (.cells (row s 6) 47 (0, 0))) ∧ Aside0 (Goes f s n) ∧ Aside0 (Below w.heap.size w w'))
  case atStart => exact ⟨0, _, _, rfl, ⟨by omega⟩, HI0, HM0, HS0, ⟨goes_zero n⟩, HB0⟩
  case round =>
    clear HI0 HM0 HS0 HB0
    obtain ⟨i, f, s, rfl, HI, HC', HM, HS, HG, HB⟩ := hrel
    cases gk with
    | succ k1 =>
      have hlt1 : (i : Int) < (len : Int) := by have := HI.out; omega
      have hlt2 : (i : Int) < 60 := by have := HI.out; omega
      have h0 : (0 : Int) ≤ (i : Int) := by omega
      obtain ⟨ab, ao, ead, hcx, hcy⟩ := HC.out i (by omega)
      cases ead
      replace hcx := (HB.out.cell (World.block_lt_of_cell? w _ hcx)).trans hcx
      replace hcy := (HB.out.cell (World.block_lt_of_cell? w _ hcy)).trans hcy
      obtain ⟨x, hx⟩ : ∃ x, xs i = x := ⟨_, rfl⟩
      obtain ⟨y, hy⟩ : ∃ y, ys i = y := ⟨_, rfl⟩
      rw [hx] at hcx
      rw [hy] at hcy
      clear hx hy
      obtain ⟨e7, he7⟩ : ∃ e, (bits .and .i64 (i : Int) 7 == 7) = e := ⟨_, rfl⟩
      obtain ⟨x7, hx7⟩ : ∃ e, bits .and .i64 x 7 = e := ⟨_, rfl⟩
      obtain ⟨y7, hy7⟩ : ∃ e, bits .and .i64 y 7 = e := ⟨_, rfl⟩
      cases e7
      · by_cases hin : 0 ≤ x7 ∧ x7 < (n : Int) ∧ 0 ≤ y7 ∧ y7 < 6
        · obtain ⟨hi1, hi2, hi3, hi4⟩ := hin
          obtain ⟨fv, hfv⟩ : ∃ fv, f (x7.toNat * 6 + y7.toNat) = fv := ⟨_, rfl⟩
          obtain ⟨sv, hsv⟩ : ∃ sv, s y7.toNat = sv := ⟨_, rfl⟩
          have HFV := Aside0.mk hfv
          have HSV := Aside0.mk hsv
          clear hfv hsv
          go_wp2
          go_quiet (fail)
          obtain ⟨w2, hw2⟩ : ∃ w2, w2 = wr.drewN nq := ⟨_, rfl⟩
          rw [← hw2]
          have HC2 := Aside0.mk (show IsC w2 c b n f by rw [hw2]; exact HC'.out)
          have HM2 := Aside0.mk (show w2.heap[m]? = some (.cells (row f (n * 6)) 47 (0, 0)) by rw [hw2]; exact HM.out)
          have HS2 := Aside0.mk (show w2.heap[q]? = some (.cells (row s 6) 47 (0, 0)) by rw [hw2]; exact HS.out)
          have HB2 := Aside0.mk (show Below w.heap.size w w2 by rw [hw2]; exact pw_below_drewN HB.out _)
          clear hw2 HC' HM HS HB
          go_wp2_with (first | (go_at_call 26; (with_reducible refine (add_yes (f := f) (HC2.out) x7 y7 hi1 hi2 hi3 hi4).mono ?_); rintro e w3 ⟨rfl, hc3, hu⟩; have HC3 := Aside0.mk hc3; have HM3 := Aside0.mk ((hu.block m (by have := HY.out; omega)).trans HM2.out); have HS3 := Aside0.mk ((hu.block q (by have := HY.out; omega)).trans HS2.out); have HB3 := Aside0.mk (HB2.out.trans (hu.below HX.out.2)); clear hc3 hu HC2 HM2 HS2 HB2; have m1 : w3.cell? ⟨m, x7.toNat * 6 + y7.toNat, none⟩ = some (.int .i64 fv) := (by rw [blk_cell HM3.out, row_get _ _ _ (by omega), HFV.out]); have m2 : w3.frozen? ⟨m, x7.toNat * 6 + y7.toNat, none⟩ = false := (blk_frozen HM3.out _); have q1 : w3.cell? ⟨q, y7.toNat, none⟩ = some (.int .i64 sv) := (by rw [blk_cell HS3.out, row_get _ _ _ (by omega), HSV.out]); have q2 : w3.frozen? ⟨q, y7.toNat, none⟩ = false := (blk_frozen HS3.out _)))
          go_region
          go_wp2
          go_roundg k1
          case measure => omega
          case rel =>
            refine ⟨i + 1, _, _, by go_num, ⟨by have := HI.out; omega⟩, ⟨?_⟩, ⟨?_⟩, ⟨?_⟩, ⟨goes_step HG.out x7.toNat y7.toNat (by omega) (by omega)⟩, ⟨?_⟩⟩
            · exact HC3.out.kept (((Below.heap_setCell _ _ _ _ (by have := HY.out; show c ≠ q; omega)).trans (Below.heap_setCell _ _ _ _ (by have := HY.out; show c ≠ m; omega)))) (((Below.heap_setCell _ _ _ _ (by have := HY.out; show b ≠ q; omega)).trans (Below.heap_setCell _ _ _ _ (by have := HY.out; show b ≠ m; omega))))
            · have h := blk_set HM3.out (x7.toNat * 6 + y7.toNat) (.int .i64 (wrap64 (fv + 1)))
              rw [row_set, ← HFV.out] at h
              rw [← HFV.out]
              exact (Below.heap_setCell _ _ _ _ hmq).trans h
            · have h := blk_set ((Below.heap_setCell w3 ⟨m, x7.toNat * 6 + y7.toNat, none⟩ (.int .i64 (wrap64 (fv + 1))) q hqm).trans HS3.out) y7.toNat (.int .i64 (wrap64 (sv + 1)))
              rw [row_set, ← HSV.out] at h
              rw [← HSV.out]
              exact h
            · first | exact below_drew (bset (bset HB3.out HY.out.2.2.1 _ _) HY.out.2.2.2.1 _ _) | exact bset (below_drew (bset HB3.out HY.out.2.2.1 _ _)) HY.out.2.2.2.1 _ _
        · have hor : x7 < 0 ∨ (¬ x7 < 0 ∧ (n : Int) ≤ x7) ∨ (¬ x7 < 0 ∧ ¬ (n : Int) ≤ x7 ∧ y7 < 0) ∨ (¬ x7 < 0 ∧ ¬ (n : Int) ≤ x7 ∧ ¬ y7 < 0 ∧ 6 ≤ y7) := by omega
          have HIN := Aside0.mk hin
          clear hin
          rcases hor with hi1 | ⟨hi1, hi2⟩ | ⟨hi1, hi2, hi3⟩ | ⟨hi1, hi2, hi3, hi4⟩
          all_goals
            go_wp2
            go_quiet (fail)
            obtain ⟨w2, hw2⟩ : ∃ w2, w2 = wr.drewN nq := ⟨_, rfl⟩
            rw [← hw2]
            have HC2 := Aside0.mk (show IsC w2 c b n f by rw [hw2]; exact HC'.out)
            have HM2 := Aside0.mk (show w2.heap[m]? = some (.cells (row f (n * 6)) 47 (0, 0)) by rw [hw2]; exact HM.out)
            have HS2 := Aside0.mk (show w2.heap[q]? = some (.cells (row s 6) 47 (0, 0)) by rw [hw2]; exact HS.out)
            have HB2 := Aside0.mk (show Below w.heap.size w w2 by rw [hw2]; exact pw_below_drewN HB.out _)
            clear hw2 HC' HM HS HB
            go_wp2_with (first | (go_at_call 26; (with_reducible refine (add_no (f := f) (HC2.out) x7 y7 HIN.out).mono ?_); rintro e w3 ⟨rfl, rfl⟩))
            go_roundg k1
            case measure => omega
            case rel => exact ⟨i + 1, f, s, by go_num, ⟨by have := HI.out; omega⟩, HC2, HM2, HS2, HG, HB2⟩
      · by_cases hin : 0 ≤ x ∧ x < (n : Int) ∧ 0 ≤ y ∧ y < 6
        · obtain ⟨hi1, hi2, hi3, hi4⟩ := hin
          obtain ⟨fv, hfv⟩ : ∃ fv, f (x.toNat * 6 + y.toNat) = fv := ⟨_, rfl⟩
          obtain ⟨sv, hsv⟩ : ∃ sv, s y.toNat = sv := ⟨_, rfl⟩
          have HFV := Aside0.mk hfv
          have HSV := Aside0.mk hsv
          clear hfv hsv
          go_wp2
          go_quiet (fail)
          revert nq
          intro nqa
          go_wp2
          go_quiet (fail)
          obtain ⟨w2, hw2⟩ : ∃ w2, w2 = (wr.drewN nqa).drewN nq := ⟨_, rfl⟩
          rw [← hw2]
          have HC2 := Aside0.mk (show IsC w2 c b n f by rw [hw2]; exact HC'.out)
          have HM2 := Aside0.mk (show w2.heap[m]? = some (.cells (row f (n * 6)) 47 (0, 0)) by rw [hw2]; exact HM.out)
          have HS2 := Aside0.mk (show w2.heap[q]? = some (.cells (row s 6) 47 (0, 0)) by rw [hw2]; exact HS.out)
          have HB2 := Aside0.mk (show Below w.heap.size w w2 by rw [hw2]; exact pw_below_drewN (pw_below_drewN HB.out _) _)
          clear hw2 HC' HM HS HB
          go_wp2_with (first | (go_at_call 26; (with_reducible refine (add_yes (f := f) (HC2.out) x y hi1 hi2 hi3 hi4).mono ?_); rintro e w3 ⟨rfl, hc3, hu⟩; have HC3 := Aside0.mk hc3; have HM3 := Aside0.mk ((hu.block m (by have := HY.out; omega)).trans HM2.out); have HS3 := Aside0.mk ((hu.block q (by have := HY.out; omega)).trans HS2.out); have HB3 := Aside0.mk (HB2.out.trans (hu.below HX.out.2)); clear hc3 hu HC2 HM2 HS2 HB2; have m1 : w3.cell? ⟨m, x.toNat * 6 + y.toNat, none⟩ = some (.int .i64 fv) := (by rw [blk_cell HM3.out, row_get _ _ _ (by omega), HFV.out]); have m2 : w3.frozen? ⟨m, x.toNat * 6 + y.toNat, none⟩ = false := (blk_frozen HM3.out _); have q1 : w3.cell? ⟨q, y.toNat, none⟩ = some (.int .i64 sv) := (by rw [blk_cell HS3.out, row_get _ _ _ (by omega), HSV.out]); have q2 : w3.frozen? ⟨q, y.toNat, none⟩ = false := (blk_frozen HS3.out _)))
          go_region
          go_wp2
          go_roundg k1
          case measure => omega
          case rel =>
            refine ⟨i + 1, _, _, by go_num, ⟨by have := HI.out; omega⟩, ⟨?_⟩, ⟨?_⟩, ⟨?_⟩, ⟨goes_step HG.out x.toNat y.toNat (by omega) (by omega)⟩, ⟨?_⟩⟩
            · exact HC3.out.kept (((Below.heap_setCell _ _ _ _ (by have := HY.out; show c ≠ q; omega)).trans (Below.heap_setCell _ _ _ _ (by have := HY.out; show c ≠ m; omega)))) (((Below.heap_setCell _ _ _ _ (by have := HY.out; show b ≠ q; omega)).trans (Below.heap_setCell _ _ _ _ (by have := HY.out; show b ≠ m; omega))))
            · have h := blk_set HM3.out (x.toNat * 6 + y.toNat) (.int .i64 (wrap64 (fv + 1)))
              rw [row_set, ← HFV.out] at h
              rw [← HFV.out]
              exact (Below.heap_setCell _ _ _ _ hmq).trans h
            · have h := blk_set ((Below.heap_setCell w3 ⟨m, x.toNat * 6 + y.toNat, none⟩ (.int .i64 (wrap64 (fv + 1))) q hqm).trans HS3.out) y.toNat (.int .i64 (wrap64 (sv + 1)))
              rw [row_set, ← HSV.out] at h
              rw [← HSV.out]
              exact h
            · first | exact below_drew (bset (bset HB3.out HY.out.2.2.1 _ _) HY.out.2.2.2.1 _ _) | exact bset (below_drew (bset HB3.out HY.out.2.2.1 _ _)) HY.out.2.2.2.1 _ _
        · have hor : x < 0 ∨ (¬ x < 0 ∧ (n : Int) ≤ x) ∨ (¬ x < 0 ∧ ¬ (n : Int) ≤ x ∧ y < 0) ∨ (¬ x < 0 ∧ ¬ (n : Int) ≤ x ∧ ¬ y < 0 ∧ 6 ≤ y) := by omega
          have HIN := Aside0.mk hin
          clear hin
          rcases hor with hi1 | ⟨hi1, hi2⟩ | ⟨hi1, hi2, hi3⟩ | ⟨hi1, hi2, hi3, hi4⟩
          all_goals
            go_wp2
            go_quiet (fail)
            revert nq
            intro nqa
            go_wp2
            go_quiet (fail)
            obtain ⟨w2, hw2⟩ : ∃ w2, w2 = (wr.drewN nqa).drewN nq := ⟨_, rfl⟩
            rw [← hw2]
            have HC2 := Aside0.mk (show IsC w2 c b n f by rw [hw2]; exact HC'.out)
            have HM2 := Aside0.mk (show w2.heap[m]? = some (.cells (row f (n * 6)) 47 (0, 0)) by rw [hw2]; exact HM.out)
            have HS2 := Aside0.mk (show w2.heap[q]? = some (.cells (row s 6) 47 (0, 0)) by rw [hw2]; exact HS.out)
            have HB2 := Aside0.mk (show Below w.heap.size w w2 by rw [hw2]; exact pw_below_drewN (pw_below_drewN HB.out _) _)
            clear hw2 HC' HM HS HB
            go_wp2_with (first | (go_at_call 26; (with_reducible refine (add_no (f := f) (HC2.out) x y HIN.out).mono ?_); rintro e w3 ⟨rfl, rfl⟩))
            go_roundg k1
            case measure => omega
            case rel => exact ⟨i + 1, f, s, by go_num, ⟨by have := HI.out; omega⟩, HC2, HM2, HS2, HG, HB2⟩
    | zero =>
      have hor : ((i : Int) < (len : Int) ∧ ¬ (i : Int) < 60) ∨ ¬ (i : Int) < (len : Int) := by have := HI.out; omega
      clear HI
      rcases hor with ⟨hge1, hge2⟩ | hge
      all_goals
        go_wp2
        go_loopg [13] n (fun kq v13 w' => ∃ k : Nat, v13 = .int .i64 (k : Int) ∧ Aside0 (k + kq = n) ∧ Aside0 (IsC w' c b n f) ∧ Aside0 (w'.heap[m]? = some (.cells (row f (n * 6)) 47 (0, 0))) ∧ Aside0 (w'.heap[q]? = some (.cells (row s 6) 47 (0, 0))) ∧ Aside0 (Below w.heap.size w w'))
        case atStart => exact ⟨0, rfl, ⟨by omega⟩, HC', HM, HS, HB⟩
        case round =>
          clear HC' HM HS HB
          obtain ⟨k, rfl, HK, HC', HM, HS, HB⟩ := hrel
          cases gk with
          | succ k1 =>
            have hk1 : (k : Int) < (n : Int) := by have := HK.out; omega
            have hk0 : (0 : Int) ≤ (k : Int) := by omega
            go_wp2
            obtain ⟨w2, hw2⟩ : ∃ w2, w2 = wr.drew := ⟨_, rfl⟩
            have HC2 := Aside0.mk (show IsC w2 c b n f by rw [hw2]; exact HC'.out)
            have HM2 := Aside0.mk (show w2.heap[m]? = some (.cells (row f (n * 6)) 47 (0, 0)) by rw [hw2]; exact HM.out)
            have HS2 := Aside0.mk (show w2.heap[q]? = some (.cells (row s 6) 47 (0, 0)) by rw [hw2]; exact HS.out)
            have HB2 := Aside0.mk (show Below w.heap.size w w2 by rw [hw2]; exact below_drew HB.out)
            have hr : ∀ j, j < 6 → wr.cell? ⟨m, k * 6 + j, none⟩ = some (.int .i64 (f (k * 6 + j))) := fun j hj => by rw [blk_cell HM.out]; exact row_get _ _ _ (by omega)
            have r0 : wr.cell? ⟨m, k * 6, none⟩ = some (.int .i64 (f (k * 6))) := hr 0 (by omega)
            have r1 := hr 1 (by omega)
            have r2 := hr 2 (by omega)
            have r3 := hr 3 (by omega)
            have r4 := hr 4 (by omega)
            have r5 := hr 5 (by omega)
            clear hr
            have hneq := fun w => neq_same w (f (k * 6)) (f (k * 6 + 1)) (f (k * 6 + 2)) (f (k * 6 + 3)) (f (k * 6 + 4)) (f (k * 6 + 5))
            subst hw2
            go_region_with ((go_at_call 27; refine (of_at HC2.out k (by omega)).mono ?_; rintro e w3 ⟨rfl, hb⟩; have HC3 := Aside0.mk (HC2.out.below hb); have HM3 := Aside0.mk ((hb.block m (blk_lt HM2.out)).trans HM2.out); have HS3 := Aside0.mk ((hb.block q (blk_lt HS2.out)).trans HS2.out); have HB3 := Aside0.mk (below_step HB2.out hb); clear hb; have hr3 : ∀ j, j < 6 → w3.cell? ⟨m, k * 6 + j, none⟩ = some (.int .i64 (f (k * 6 + j))) := (fun j hj => by rw [blk_cell HM3.out]; exact row_get _ _ _ (by omega)); have t0 : w3.cell? ⟨m, k * 6, none⟩ = some (.int .i64 (f (k * 6))) := (hr3 0 (by omega)); have t1 := hr3 1 (by omega); have t2 := hr3 2 (by omega); have t3 := hr3 3 (by omega); have t4 := hr3 4 (by omega); have t5 := hr3 5 (by omega); clear hr3))
            all_goals
              go_wp2
              go_roundg k1
              case measure => omega
              case rel => exact ⟨k + 1, by go_num, ⟨by have := HK.out; omega⟩, HC3, HM3, HS3, HB3⟩
          | zero =>
            have hgeK : ¬ ((k : Int) < (n : Int)) := by have := HK.out; omega
            clear HK HM
            go_wp2
            have hq : ∀ j, j < 6 → wr.cell? ⟨q, j, none⟩ = some (.int .i64 (s j)) := fun j hj => by rw [blk_cell HS.out]; exact row_get _ _ _ hj
            have HS0 := Aside0.mk (show (fun w' : World => ((w'.cell? ⟨q, 0, none⟩ = some (.int .i64 (s 0)) ∧ w'.cell? ⟨q, 1, none⟩ = some (.int .i64 (s 1)) ∧ w'.cell? ⟨q, 2, none⟩ = some (.int .i64 (s 2)) ∧ w'.cell? ⟨q, 3, none⟩ = some (.int .i64 (s 3)) ∧ w'.cell? ⟨q, 4, none⟩ = some (.int .i64 (s 4)) ∧ w'.cell? ⟨q, 5, none⟩ = some (.int .i64 (s 5))) ∧ IsC w' c b n f ∧ Below w.heap.size w w')) wr.drew from ⟨⟨hq 0 (by omega), hq 1 (by omega), hq 2 (by omega), hq 3 (by omega), hq 4 (by omega), hq 5 (by omega)⟩, HC'.out, below_drew HB.out⟩)
            clear HC' HS HB hq
            have heq := fun w => eql_same w (s 0) (s 1) (s 2) (s 3) (s 4) (s 5)
            have heq0 := fun w => eql_same w 0 0 0 0 0 0
            go_region_held3 (fun w' => ((w'.cell? ⟨q, 0, none⟩ = some (.int .i64 (s 0)) ∧ w'.cell? ⟨q, 1, none⟩ = some (.int .i64 (s 1)) ∧ w'.cell? ⟨q, 2, none⟩ = some (.int .i64 (s 2)) ∧ w'.cell? ⟨q, 3, none⟩ = some (.int .i64 (s 3)) ∧ w'.cell? ⟨q, 4, none⟩ = some (.int .i64 (s 4)) ∧ w'.cell? ⟨q, 5, none⟩ = some (.int .i64 (s 5))) ∧ IsC w' c b n f ∧ Below w.heap.size w w')) (first | exact HS0.out | exact keepS hb (by assumption) | assumption) (first | (go_at_call 28; refine (awake_calls _).mono ?_; rintro e w3 ⟨rfl, hb⟩) | (go_at_call 29; refine (sum_at (f := f) (s := s) (heldC (w0 := w) (q := q) (s := s) (by assumption)) HG.out).mono ?_; rintro e w4 ⟨rfl, hb⟩) | (go_at_call 30; refine (len_calls (f := f) (n := n) (b := b) (heldC (w0 := w) (q := q) (s := s) (by assumption))).mono ?_; rintro e w5 ⟨rfl, rfl⟩) | (go_at_call 27; refine (of_out (f := f) (n := n) (b := b) (heldC (w0 := w) (q := q) (s := s) (by assumption)) _ (by omega)).mono ?_; rintro e w6 ⟨rfl, hb⟩))
            all_goals
              go_wp2
              go_ret
              exact ⟨rfl, heldB (q := q) (c := c) (b := b) (n := n) (f := f) (s := s) (by assumption)⟩
end Go.Proofs.Ytmknlojgjlpgfaa.CountH
