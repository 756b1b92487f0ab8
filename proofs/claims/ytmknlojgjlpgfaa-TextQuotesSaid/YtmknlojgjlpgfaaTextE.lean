/- The law's own trial of a reader: it answers true. And the row TextClasses' walk. -/
import Derived.Test.YtmknlojgjlpgfaaTextD
namespace Go.Proofs.Ytmknlojgjlpgfaa.TextE
open Go.RowKit Go.Proofs.YtmknlojgjlpgfaaW.PrintWords Go.Proofs.YtmknlojgjlpgfaaW.PrintLast Go.Proofs.YtmknlojgjlpgfaaW.PrintMore Go.Proofs.Ytmknlojgjlpgfaa.TextA Go.Proofs.Ytmknlojgjlpgfaa.TextB Go.Proofs.Ytmknlojgjlpgfaa.TextC Go.Proofs.Ytmknlojgjlpgfaa.TextD
attribute [local go_sem ↓] Go.wp_at_zero Go.wp_at_succ
set_option linter.unusedVariables false
set_option linter.unusedSimpArgs false


/-- The trial's text. -/
def tr : ByteArray := ⟨#[97, 98, 49, 32, 39, 120, 39, 39, 121, 39]⟩
theorem tr1 : Runs tr [2] 0 2 := ends_of (by decide +kernel)
theorem tr2 : Runs tr [3] 2 3 := ends_of (by decide +kernel)
theorem tr3 : Runs tr [1] 3 4 := ends_of (by decide +kernel)
theorem tr4 : cls (byte tr 4) = 5 := by decide +kernel
theorem tr5 : fin tr tr.size (4 + 1) = some 9 := by decide +kernel
theorem tr_size : tr.size ≤ maxLen := by decide

theorem run_tr1 {w : World} {r : Nat} (h : IsT w r tr 0) : Calls Try.prog 41 #[.pointer (some ⟨r, 0, none⟩), .slice (some ⟨w.heap.size, 0, none⟩) 1 1] (w.alloc (.cells #[.int .i64 2] 3 (0, 0)))
    fun e w' => e = .returned (.string ⟨#[97, 98]⟩) ∧ IsT w' r tr 2 ∧ Only r w w' :=
  (run_to 2 [2] tr1 _ 1 (h.below (below_alloc (Below.refl _ _) _)) tr_size (by decide) (one_cell h 2)).mono fun e w' ⟨h1, h2, h3⟩ => ⟨h1, h2, Only.trans (grown_of_below (below_alloc (Below.refl _ _) _) _) h3⟩
theorem run_tr2 {w : World} {r : Nat} (h : IsT w r tr 2) : Calls Try.prog 41 #[.pointer (some ⟨r, 0, none⟩), .slice (some ⟨w.heap.size, 0, none⟩) 1 1] (w.alloc (.cells #[.int .i64 3] 3 (0, 0)))
    fun e w' => e = .returned (.string ⟨#[49]⟩) ∧ IsT w' r tr 3 ∧ Only r w w' :=
  (run_to 3 [3] tr2 _ 1 (h.below (below_alloc (Below.refl _ _) _)) tr_size (by decide) (one_cell h 3)).mono fun e w' ⟨h1, h2, h3⟩ => ⟨h1, h2, Only.trans (grown_of_below (below_alloc (Below.refl _ _) _) _) h3⟩
theorem run_tr3 {w : World} {r : Nat} (h : IsT w r tr 3) : Calls Try.prog 41 #[.pointer (some ⟨r, 0, none⟩), .slice (some ⟨w.heap.size, 0, none⟩) 1 1] (w.alloc (.cells #[.int .i64 1] 3 (0, 0)))
    fun e w' => e = .returned (.string ⟨#[32]⟩) ∧ IsT w' r tr 4 ∧ Only r w w' :=
  (run_to 4 [1] tr3 _ 1 (h.below (below_alloc (Below.refl _ _) _)) tr_size (by decide) (one_cell h 1)).mono fun e w' ⟨h1, h2, h3⟩ => ⟨h1, h2, Only.trans (grown_of_below (below_alloc (Below.refl _ _) _) _) h3⟩
theorem quoted_tr {w : World} {r : Nat} (h : IsT w r tr 4) : Calls Try.prog 45 #[.pointer (some ⟨r, 0, none⟩)] w fun e w' => e = .returned (.tuple #[.string ⟨#[39, 120, 39, 39, 121, 39]⟩, .bool true]) ∧ IsT w' r tr 10 ∧ Only r w w' :=
  (quoted_calls h (by decide) tr_size tr4).mono fun e w' => by
    rw [tr5]
    rintro ⟨⟨h1, h2⟩, h3⟩
    exact ⟨h1, h2, h3⟩
theorem left_tr {w : World} {r : Nat} (h : IsT w r tr 10) : Calls Try.prog 43 #[.pointer (some ⟨r, 0, none⟩)] w fun e w' => e = .returned (.int .i64 0) ∧ ∃ n, w' = w.drewN n :=
  left_calls h (by decide) tr_size
theorem class_tr (w : World) : Calls Try.prog 37 #[.int .u8 40] w fun e w' => e = .returned (.int .i64 4) ∧ w' = w := by
  have := class_calls 40 w
  rwa [show cls 40 = 4 by decide +kernel] at this

set_option maxRecDepth 100000 in
theorem awake_calls (w : World) : Calls Try.prog 36 #[] w fun e w' => e = .returned (.bool true) ∧ Below w.heap.size w w' := by
  go_enter Try.func36, Try.ntmps36
  go_wp2_with (fail)
  (with_reducible refine (new_calls _ _).mono ?_)
  rintro e w1 ⟨r, rfl, ht, hr, hb⟩
  have HT := Aside0.mk (show IsT w1 r tr 0 from ht)
  have HB := Aside0.mk hb
  have HR := Aside0.mk hr
  clear ht hb hr
  go_wp2_with (fail)
  (with_reducible refine (run_tr1 HT.out).mono ?_)
  rintro e w2 ⟨rfl, ht, ho⟩
  have HT2 := Aside0.mk ht
  have HO2 := Aside0.mk ho
  clear ht ho
  go_wp2_with (fail)
  (with_reducible refine (run_tr2 HT2.out).mono ?_)
  rintro e w3 ⟨rfl, ht, ho⟩
  have HT3 := Aside0.mk ht
  have HO3 := Aside0.mk (HO2.out.trans ho)
  clear ht ho
  go_wp2_with (fail)
  (with_reducible refine (run_tr3 HT3.out).mono ?_)
  rintro e w4 ⟨rfl, ht, ho⟩
  have HT4 := Aside0.mk ht
  have HO4 := Aside0.mk (HO3.out.trans ho)
  clear ht ho
  go_wp2_with (fail)
  (with_reducible refine (quoted_tr HT4.out).mono ?_)
  rintro e w5 ⟨rfl, ht, ho⟩
  have HT5 := Aside0.mk ht
  have HO5 := Aside0.mk (HO4.out.trans ho)
  clear ht ho
  go_wp2_with (fail)
  (with_reducible refine (left_tr HT5.out).mono ?_)
  rintro e w6 ⟨rfl, n, hq⟩
  have HO6 := Aside0.mk (HO5.out.drewN hq)
  clear hq
  go_wp2_with (fail)
  (with_reducible refine (class_tr _).mono ?_)
  rintro e w7 ⟨rfl, hq⟩
  subst w7
  go_wp2_with (fail)
  go_ret
  exact ⟨rfl, HB.out.trans (HO6.out.below HR.out (blk_lt HT.out))⟩

set_option maxRecDepth 100000 in
theorem classes_walk (c : Int) (w : World) (h0 : 0 ≤ c) (h1 : c ≤ 255) : Calls Try.prog 10 #[.int .u8 c] w fun e w' => e = .returned (.bool true) ∧ Below w.heap.size w w' := by
  have HA := Aside0.mk (class_calls c)
  have HL := Aside0.mk (fun W => law_calls c W h0 h1)
  obtain ⟨k, hk⟩ : ∃ k, cls c = k := ⟨_, rfl⟩
  rw [hk] at HA HL
  clear hk h0 h1
  go_enter Try.func10, Try.ntmps10
  go_wp2_with (first | (go_at_call 36; (with_reducible refine (awake_calls _).mono ?_); rintro e w1 ⟨rfl, hb⟩; have HB := Aside0.mk hb; clear hb) | (go_at_call 37; refine (HA.out _).mono ?_; rintro e w2 ⟨rfl, hq⟩; subst w2) | (go_at_call 38; refine (HL.out _).mono ?_; rintro e w2 ⟨rfl, hq⟩; subst w2))
  go_ret
  exact ⟨rfl, HB.out⟩

end Go.Proofs.Ytmknlojgjlpgfaa.TextE
