/- The law TextRuns walked: bytes are taken as long as they are of a class; byte by byte all come. -/
import Derived.Test.YtmknlojgjlpgfaaTextE
import Derived.Test.YtmknlojgjlpgfaaBitsA
namespace Go.Proofs.Ytmknlojgjlpgfaa.TextG
open Go.RowKit Go.Proofs.YtmknlojgjlpgfaaW.PrintWords Go.Proofs.YtmknlojgjlpgfaaW.PrintLast Go.Proofs.YtmknlojgjlpgfaaW.PrintMore Go.Proofs.Ytmknlojgjlpgfaa.TextA Go.Proofs.Ytmknlojgjlpgfaa.TextB Go.Proofs.Ytmknlojgjlpgfaa.TextC Go.Proofs.Ytmknlojgjlpgfaa.TextD Go.Proofs.Ytmknlojgjlpgfaa.TextE
attribute [local go_sem ↓] Go.wp_at_zero Go.wp_at_succ
attribute [local go_sem] max2_int min2_int max_two min_two
set_option linter.unusedVariables false
set_option linter.unusedSimpArgs false

theorem byte_range (s : ByteArray) (k : Nat) : 0 ≤ byte s k ∧ byte s k ≤ 255 := by
  unfold byte
  have := (s.data.toList.getD k 0).toNat_lt
  omega

theorem lawv (x : UInt8) (w : World) : Calls Try.prog 38 #[.int .u8 ((x.toNat : Nat) : Int)] w fun e w' => e = .returned (.int .i64 (cls ((x.toNat : Nat) : Int))) ∧ w' = w := by
  have := x.toNat_lt
  exact law_calls _ w (by omega) (by omega)
theorem kind_lit {w : World} {r : Nat} {s : ByteArray} {k : Nat} (h : IsT w r s k) (hk : k < s.size) (hs : s.size ≤ maxLen) : Calls Try.prog 44 #[.pointer (some ⟨r, 0, none⟩)] w fun e w' => e = .returned (.int .i64 (cls ((s[k].toNat : Nat) : Int))) ∧ ∃ n, w' = w.drewN n := by
  rw [byte_eq hk]
  exact kind_at h hk hs
theorem at_int {w : World} {r : Nat} {s : ByteArray} {k : Nat} (h : IsT w r s k) (p : Int) (hp : p = (k : Int)) : Calls Try.prog 42 #[.pointer (some ⟨r, 0, none⟩)] w fun e w' => e = .returned (.int .i64 p) ∧ w' = w := by
  subst hp; exact at_calls h
theorem left_int {w : World} {r : Nat} {s : ByteArray} {k : Nat} (h : IsT w r s k) (hk : k ≤ s.size) (hs : s.size ≤ maxLen) (p : Int) (hp : p = (k : Int)) : Calls Try.prog 43 #[.pointer (some ⟨r, 0, none⟩)] w fun e w' => e = .returned (.int .i64 ((s.size : Int) - p)) ∧ ∃ n, w' = w.drewN n := by
  subst hp; exact left_calls h hk hs
theorem byte_lit {w : World} {r : Nat} {s : ByteArray} {k : Nat} (h : IsT w r s k) (hk : k < s.size) (hs : s.size ≤ maxLen) : Calls Try.prog 40 #[.pointer (some ⟨r, 0, none⟩)] w (BytePost w r s ((s[k].toNat : Nat) : Int) (k + 1)) := by
  rw [byte_eq hk]
  exact byte_at h hk hs

/-- A slice of two numbers, new. -/
theorem two_cells {w : World} {r : Nat} {s : ByteArray} {k : Nat} (h : IsT w r s k) (x y : Int) : ∀ i, i < [x, y].length → ∃ ad, (some (⟨w.heap.size, 0, none⟩ : Addr)) = some ad ∧ (ad.add i).block ≠ r ∧ (w.alloc (.cells #[.int .i64 x, .int .i64 y] 3 (0, 0))).cell? (ad.add i) = some (.int .i64 (rd [x, y] i)) := by
  intro i hi
  have hb := blk_lt h
  have : i = 0 ∨ i = 1 := by simp at hi; omega
  rcases this with rfl | rfl
  · exact ⟨_, rfl, by show w.heap.size ≠ r; omega, blk_cell (blk_new w _) 0⟩
  · exact ⟨_, rfl, by show w.heap.size ≠ r; omega, blk_cell (blk_new w _) 1⟩
theorem run_two {w : World} {r : Nat} {s : ByteArray} {k : Nat} (j : Nat) (a b : Int) (he : Runs s [a, b] k j) (h : IsT w r s k) (hs : s.size ≤ maxLen) :
    Calls Try.prog 41 #[.pointer (some ⟨r, 0, none⟩), .slice (some ⟨w.heap.size, 0, none⟩) 2 2] (w.alloc (.cells #[.int .i64 a, .int .i64 b] 3 (0, 0))) (RunTo w r s k j) :=
  (run_to j [a, b] he _ 2 (h.below (below_alloc (Below.refl _ _) _)) hs (Nat.le_of_ble_eq_true rfl) (two_cells h a b)).mono fun e w' ⟨h1, h2, h3⟩ => ⟨h1, h2, Only.trans (grown_of_below (below_alloc (Below.refl _ _) _) _) h3⟩

theorem run_twod {w : World} {r : Nat} {s : ByteArray} {k : Nat} (j : Nat) (a b : Int) (he : Runs s [a, b] k j) (h : IsT w r s k) (hs : s.size ≤ maxLen) :
    Calls Try.prog 41 #[.pointer (some ⟨r, 0, none⟩), .slice (some ⟨w.heap.size, 0, none⟩) 2 2] (w.alloc (.cells #[.int .i64 a, .int .i64 b] 3 (0, 0))).drew (RunTo w r s k j) :=
  (run_to j [a, b] he _ 2 (h.below (below_drew (below_alloc (Below.refl _ _) _))) hs (Nat.le_of_ble_eq_true rfl) (fun i hi => two_cells h a b i hi)).mono fun e w' ⟨h1, h2, h3⟩ => ⟨h1, h2, Only.trans (grown_of_below (below_drew (below_alloc (Below.refl _ _) _)) _) h3⟩

set_option maxHeartbeats 8000000 in
set_option maxRecDepth 100000 in
theorem runs_walk (s : ByteArray) (A : Option Addr) (len cap : Nat) (zs : List Int) (w : World) (hs : s.size ≤ 9223372036854775807) (hlen : len ≤ 9223372036854775807)
    (hc : ∀ i, i < len → ∃ ad, A = some ad ∧ w.cell? (ad.add i) = some (.int .i64 (rd zs i))) :
    Calls Try.prog 11 #[.string s, .slice A len cap] w fun e w' => e = .returned (.bool true) ∧ Below w.heap.size w w' := by
  have HC := Aside0.mk hc
  have HL := Aside0.mk hlen
  clear hc hlen
  go_enter Try.func11, Try.ntmps11
  go_wp2_with (fail)
  case' inl => obtain ⟨T, hT⟩ : ∃ T, s.extract 0 40 = T := ⟨_, rfl⟩
  case' inl => rw [hT]
  case' inl => have ht : T.size ≤ 40 := by rw [← hT, ByteArray.size_extract]; omega
  case' inr => obtain ⟨T, hT⟩ : ∃ T, s = T := ⟨_, rfl⟩
  case' inr => have ht : T.size ≤ 40 := by rw [← hT]; omega
  case' inr => rw [hT]
  all_goals
    have hts : (T.size : Int) ≤ 40 := by omega
    have HT40 := Aside0.mk ht
    have HM := Aside0.mk (show T.size ≤ maxLen by unfold maxLen; omega)
    clear hT ht hs
    (with_reducible refine (new_calls _ _).mono ?_)
    rintro e w1 ⟨r, rfl, ht, hr, hb⟩
    have HT := Aside0.mk ht
    have HB := Aside0.mk hb
    have HR := Aside0.mk hr
    clear ht hb hr
    go_wp2_with (fail)
    go_loopg [7, 8] (min len 20) (fun kq v7 v8 w' => ∃ (i k : Nat), v8 = .int .i64 (i : Int) ∧ v7 = .int .i64 (k : Int) ∧ Aside0 (i + kq = min len 20) ∧ Aside0 (k ≤ T.size) ∧ Aside0 (IsT w' r T k) ∧ Aside0 (Below w.heap.size w w'))
    case atStart => exact ⟨0, 0, rfl, rfl, ⟨by omega⟩, ⟨Nat.zero_le _⟩, HT, HB⟩
    case round =>
      clear HT HB
      obtain ⟨i, k, rfl, rfl, HI, HK, HT, HB⟩ := hrel
      cases gk with
      | succ k1 =>
        have hlt1 : (i : Int) < (len : Int) := by have := HI.out; omega
        have hlt2 : (i : Int) < 20 := by have := HI.out; omega
        have hi0 : (0 : Int) ≤ (i : Int) := by omega
        obtain ⟨ad, ead, hcell⟩ := HC.out i (by omega)
        cases ead
        have HCI := Aside0.mk hcell
        replace hcell := (HB.out.cell (World.block_lt_of_cell? w _ hcell)).trans hcell
        obtain ⟨z, hz⟩ : ∃ z, rd zs i = z := ⟨_, rfl⟩
        rw [hz] at hcell
        obtain ⟨a, ha⟩ : ∃ a, bits .and .i64 z 7 = a := ⟨_, rfl⟩
        obtain ⟨b, hb⟩ : ∃ b, bits .and .i64 (z / 8) 7 = b := ⟨_, rfl⟩
        go_wp2_with (fail)
        go_quiet (fail)
        go_wp2_with (fail)
        obtain ⟨w2, hw2⟩ : ∃ w2, w2 = wr.drewN nq := ⟨_, rfl⟩
        rw [← hw2]
        have n1 := Aside0.mk (HT.out.drewN hw2)
        have n2 := Aside0.mk (show Below w.heap.size w w2 by rw [hw2]; exact pw_below_drewN HB.out _)
        have HCW := Aside0.mk (show w2.cell? (ad.add i) = some (.int .i64 z) by rw [hw2]; exact hcell)
        clear HT HB hcell hw2
        have HT := n1
        have HB := n2
        clear n1 n2 ha hb
        go_loopg [11] (T.size - k) (fun kq v11 w' => ∃ (j : Nat), v11 = .int .i64 (j : Int) ∧ Aside0 (j + kq = T.size ∧ k ≤ j) ∧ Aside0 (∀ x, k ≤ x → x < j → memTo [a, b] (cls (byte T x)) 2 = true) ∧ Aside0 (w' = w2))
        case atStart => exact ⟨k, rfl, ⟨by have := HK.out; omega⟩, ⟨fun x h1 h2 => by omega⟩, ⟨rfl⟩⟩
        case round =>
          obtain ⟨j, rfl, HJ, HMJ, HW⟩ := hrel
          have hwr := HW.out
          subst hwr
          have hj0 : (0 : Int) ≤ (j : Int) := by omega
          cases gk with
          | succ k2 =>
            have hlt3 : j < T.size := by have := HJ.out; omega
            obtain ⟨c, hcq⟩ : ∃ c, cls (byte T j) = c := ⟨_, rfl⟩
            have HCQ := Aside0.mk hcq
            rw [← byte_eq hlt3] at hcq
            by_cases ea : c = a
            · subst ea
              go_wp2_with (first | (go_at_call 38; (with_reducible refine (lawv _ _).mono ?_); rintro e w3 ⟨rfl, hq⟩; subst w3))
              go_roundg k2
              case measure => omega
              case rel =>
                refine ⟨j + 1, by go_num, ⟨by have := HJ.out; omega⟩, ⟨fun x h1 h2 => ?_⟩, ⟨rfl⟩⟩
                by_cases e : x = j
                · subst e; rw [HCQ.out]; simp [memTo, rd]
                · exact HMJ.out x h1 (by omega)
            · have ea' : (c == a) = false := by simpa using ea
              by_cases eb : c = b
              · subst eb
                go_wp2_with (first | (go_at_call 38; (with_reducible refine (lawv _ _).mono ?_); rintro e w3 ⟨rfl, hq⟩; subst w3))
                go_roundg k2
                case measure => omega
                case rel =>
                  refine ⟨j + 1, by go_num, ⟨by have := HJ.out; omega⟩, ⟨fun x h1 h2 => ?_⟩, ⟨rfl⟩⟩
                  by_cases e : x = j
                  · subst e; rw [HCQ.out]; simp [memTo, rd]
                  · exact HMJ.out x h1 (by omega)
              · have eb' : (c == b) = false := by simpa using eb
                have HE : Aside0 (Runs T [a, b] k j) := ⟨HJ.out.2, by omega, HMJ.out, fun _ => by rw [HCQ.out]; simp [memTo, rd]; exact ⟨fun h => ea h.symm, fun h => eb h.symm⟩⟩
                clear ea eb
                have hcell := HCW.out
                have HRB := Aside0.mk (show w.heap.size ≤ r ∧ r < wr.heap.size from ⟨HR.out, blk_lt HT.out⟩)
                obtain ⟨e6, he6⟩ : ∃ e, (bits .and .i64 (z / 64) 3 == 0) = e := ⟨_, rfl⟩
                cases e6
                · have hkj : (k : Int) ≤ (j : Int) := by have := HE.out.1; omega
                  have hjT : (j : Int) ≤ (T.size : Int) := by have := HE.out.2.1; omega
                  go_wp2_with (first | (go_at_call 38; (with_reducible refine (lawv _ _).mono ?_); rintro e w3 ⟨rfl, hq⟩; subst w3))
                  go_region_with (go_at_call 41; (with_reducible refine (run_twod j a b HE.out HT.out HM.out).mono ?_); rintro e w4 ⟨rfl, ht, ho⟩; have HT4 := Aside0.mk ht; have HB4 := Aside0.mk (HB.out.trans (ho.below HRB.out.1 HRB.out.2)); clear ht ho)
                  all_goals
                    go_wp2_with (first | (go_at_call 38; (with_reducible refine (lawv _ _).mono ?_); rintro e w3 ⟨rfl, hq⟩; subst w3) | (go_at_call 42; (with_reducible refine (at_int HT4.out (j : Int) (by omega)).mono ?_); rintro e w5 ⟨rfl, hq⟩; subst w5) | (go_at_call 43; (with_reducible refine (left_int HT4.out (by have := HK.out; omega) HM.out (j : Int) (by omega)).mono ?_); rintro e w6 ⟨rfl, n6, hq⟩; have HT6 := Aside0.mk (HT4.out.drewN hq); have HB6 := Aside0.mk (show Below w.heap.size w w6 by rw [hq]; exact pw_below_drewN HB4.out _); clear hq) | (go_at_call 44; (with_reducible refine (kind_lit HT6.out hlt3 HM.out).mono ?_); rintro e w7 ⟨rfl, n7, hq⟩; have HT7 := Aside0.mk (HT6.out.drewN hq); have HB7 := Aside0.mk (show Below w.heap.size w w7 by rw [hq]; exact pw_below_drewN HB6.out _); clear hq))
                    go_roundg k1
                    case measure => omega
                    case rel => exact ⟨i + 1, j, by go_num, rfl, ⟨by have := HI.out; omega⟩, ⟨by have := HE.out.2.1; omega⟩, HT7, HB7⟩
                · by_cases hk : k < T.size
                  · by_cases hk1 : k + 1 < T.size
                    · go_wp2_with (first | (go_at_call 38; (with_reducible refine (lawv _ _).mono ?_); rintro e w3 ⟨rfl, hq⟩; subst w3) | (go_at_call 40; (with_reducible refine (byte_lit HT.out hk HM.out).mono ?_); rintro e w4 ⟨rfl, ht, ho⟩; have HT4 := Aside0.mk ht; have HB4 := Aside0.mk (HB.out.trans (ho.below HRB.out.1 HRB.out.2)); clear ht ho) | (go_at_call 42; (with_reducible refine (at_int HT4.out ((k : Int) + 1) (by omega)).mono ?_); rintro e w5 ⟨rfl, hq⟩; subst w5) | (go_at_call 43; (with_reducible refine (left_int HT4.out (by have := HK.out; omega) HM.out ((k : Int) + 1) (by omega)).mono ?_); rintro e w6 ⟨rfl, n6, hq⟩; have HT6 := Aside0.mk (HT4.out.drewN hq); have HB6 := Aside0.mk (show Below w.heap.size w w6 by rw [hq]; exact pw_below_drewN HB4.out _); clear hq) | (go_at_call 44; (with_reducible refine (kind_lit HT6.out hk1 HM.out).mono ?_); rintro e w7 ⟨rfl, n7, hq⟩; have HT7 := Aside0.mk (HT6.out.drewN hq); have HB7 := Aside0.mk (show Below w.heap.size w w7 by rw [hq]; exact pw_below_drewN HB6.out _); clear hq))
                      go_roundg k1
                      case measure => omega
                      case rel => exact ⟨i + 1, k + 1, by go_num, by go_num, ⟨by have := HI.out; omega⟩, ⟨by omega⟩, HT7, HB7⟩
                    · go_wp2_with (first | (go_at_call 38; (with_reducible refine (lawv _ _).mono ?_); rintro e w3 ⟨rfl, hq⟩; subst w3) | (go_at_call 40; (with_reducible refine (byte_lit HT.out hk HM.out).mono ?_); rintro e w4 ⟨rfl, ht, ho⟩; have HT4 := Aside0.mk ht; have HB4 := Aside0.mk (HB.out.trans (ho.below HRB.out.1 HRB.out.2)); clear ht ho) | (go_at_call 42; (with_reducible refine (at_int HT4.out ((k : Int) + 1) (by omega)).mono ?_); rintro e w5 ⟨rfl, hq⟩; subst w5) | (go_at_call 43; (with_reducible refine (left_int HT4.out (by have := HK.out; omega) HM.out ((k : Int) + 1) (by omega)).mono ?_); rintro e w6 ⟨rfl, n6, hq⟩; have HT6 := Aside0.mk (HT4.out.drewN hq); have HB6 := Aside0.mk (show Below w.heap.size w w6 by rw [hq]; exact pw_below_drewN HB4.out _); clear hq) | (go_at_call 44; (with_reducible refine (kind_end HT6.out (by have := HK.out; omega) HM.out).mono ?_); rintro e w7 ⟨rfl, n7, hq⟩; have HT7 := Aside0.mk (HT6.out.drewN hq); have HB7 := Aside0.mk (show Below w.heap.size w w7 by rw [hq]; exact pw_below_drewN HB6.out _); clear hq))
                      go_roundg k1
                      case measure => omega
                      case rel => exact ⟨i + 1, k + 1, by go_num, by go_num, ⟨by have := HI.out; omega⟩, ⟨by omega⟩, HT7, HB7⟩
                  · exfalso
                    have := HJ.out.2
                    omega
          | zero =>
            have hge : ¬ ((j : Int) < (T.size : Int)) := by have := HJ.out; omega
            have HE : Aside0 (Runs T [a, b] k j) := ⟨HJ.out.2, by have := HJ.out; omega, HMJ.out, fun h => by have := HJ.out; omega⟩
            have hcell := HCW.out
            have HRB := Aside0.mk (show w.heap.size ≤ r ∧ r < wr.heap.size from ⟨HR.out, blk_lt HT.out⟩)
            obtain ⟨e6, he6⟩ : ∃ e, (bits .and .i64 (z / 64) 3 == 0) = e := ⟨_, rfl⟩
            cases e6
            · have hkj : (k : Int) ≤ (j : Int) := by have := HE.out.1; omega
              have hjT : (j : Int) ≤ (T.size : Int) := by have := HE.out.2.1; omega
              go_wp2_with (first | (go_at_call 38; (with_reducible refine (lawv _ _).mono ?_); rintro e w3 ⟨rfl, hq⟩; subst w3))
              go_region_with (go_at_call 41; (with_reducible refine (run_twod j a b HE.out HT.out HM.out).mono ?_); rintro e w4 ⟨rfl, ht, ho⟩; have HT4 := Aside0.mk ht; have HB4 := Aside0.mk (HB.out.trans (ho.below HRB.out.1 HRB.out.2)); clear ht ho)
              all_goals
                go_wp2_with (first | (go_at_call 38; (with_reducible refine (lawv _ _).mono ?_); rintro e w3 ⟨rfl, hq⟩; subst w3) | (go_at_call 42; (with_reducible refine (at_int HT4.out (j : Int) (by omega)).mono ?_); rintro e w5 ⟨rfl, hq⟩; subst w5) | (go_at_call 43; (with_reducible refine (left_int HT4.out (by have := HK.out; omega) HM.out (j : Int) (by omega)).mono ?_); rintro e w6 ⟨rfl, n6, hq⟩; have HT6 := Aside0.mk (HT4.out.drewN hq); have HB6 := Aside0.mk (show Below w.heap.size w w6 by rw [hq]; exact pw_below_drewN HB4.out _); clear hq) | (go_at_call 44; (with_reducible refine (kind_end HT6.out (by have := HK.out; omega) HM.out).mono ?_); rintro e w7 ⟨rfl, n7, hq⟩; have HT7 := Aside0.mk (HT6.out.drewN hq); have HB7 := Aside0.mk (show Below w.heap.size w w7 by rw [hq]; exact pw_below_drewN HB6.out _); clear hq))
                go_roundg k1
                case measure => omega
                case rel => exact ⟨i + 1, j, by go_num, rfl, ⟨by have := HI.out; omega⟩, ⟨by have := HE.out.2.1; omega⟩, HT7, HB7⟩
            · by_cases hk : k < T.size
              · by_cases hk1 : k + 1 < T.size
                · go_wp2_with (first | (go_at_call 38; (with_reducible refine (lawv _ _).mono ?_); rintro e w3 ⟨rfl, hq⟩; subst w3) | (go_at_call 40; (with_reducible refine (byte_lit HT.out hk HM.out).mono ?_); rintro e w4 ⟨rfl, ht, ho⟩; have HT4 := Aside0.mk ht; have HB4 := Aside0.mk (HB.out.trans (ho.below HRB.out.1 HRB.out.2)); clear ht ho) | (go_at_call 42; (with_reducible refine (at_int HT4.out ((k : Int) + 1) (by omega)).mono ?_); rintro e w5 ⟨rfl, hq⟩; subst w5) | (go_at_call 43; (with_reducible refine (left_int HT4.out (by have := HK.out; omega) HM.out ((k : Int) + 1) (by omega)).mono ?_); rintro e w6 ⟨rfl, n6, hq⟩; have HT6 := Aside0.mk (HT4.out.drewN hq); have HB6 := Aside0.mk (show Below w.heap.size w w6 by rw [hq]; exact pw_below_drewN HB4.out _); clear hq) | (go_at_call 44; (with_reducible refine (kind_lit HT6.out hk1 HM.out).mono ?_); rintro e w7 ⟨rfl, n7, hq⟩; have HT7 := Aside0.mk (HT6.out.drewN hq); have HB7 := Aside0.mk (show Below w.heap.size w w7 by rw [hq]; exact pw_below_drewN HB6.out _); clear hq))
                  go_roundg k1
                  case measure => omega
                  case rel => exact ⟨i + 1, k + 1, by go_num, by go_num, ⟨by have := HI.out; omega⟩, ⟨by omega⟩, HT7, HB7⟩
                · go_wp2_with (first | (go_at_call 38; (with_reducible refine (lawv _ _).mono ?_); rintro e w3 ⟨rfl, hq⟩; subst w3) | (go_at_call 40; (with_reducible refine (byte_lit HT.out hk HM.out).mono ?_); rintro e w4 ⟨rfl, ht, ho⟩; have HT4 := Aside0.mk ht; have HB4 := Aside0.mk (HB.out.trans (ho.below HRB.out.1 HRB.out.2)); clear ht ho) | (go_at_call 42; (with_reducible refine (at_int HT4.out ((k : Int) + 1) (by omega)).mono ?_); rintro e w5 ⟨rfl, hq⟩; subst w5) | (go_at_call 43; (with_reducible refine (left_int HT4.out (by have := HK.out; omega) HM.out ((k : Int) + 1) (by omega)).mono ?_); rintro e w6 ⟨rfl, n6, hq⟩; have HT6 := Aside0.mk (HT4.out.drewN hq); have HB6 := Aside0.mk (show Below w.heap.size w w6 by rw [hq]; exact pw_below_drewN HB4.out _); clear hq) | (go_at_call 44; (with_reducible refine (kind_end HT6.out (by have := HK.out; omega) HM.out).mono ?_); rintro e w7 ⟨rfl, n7, hq⟩; have HT7 := Aside0.mk (HT6.out.drewN hq); have HB7 := Aside0.mk (show Below w.heap.size w w7 by rw [hq]; exact pw_below_drewN HB6.out _); clear hq))
                  go_roundg k1
                  case measure => omega
                  case rel => exact ⟨i + 1, k + 1, by go_num, by go_num, ⟨by have := HI.out; omega⟩, ⟨by omega⟩, HT7, HB7⟩
              · obtain rfl : k = T.size := by have := HK.out; omega
                go_wp2_with (first | (go_at_call 38; (with_reducible refine (lawv _ _).mono ?_); rintro e w3 ⟨rfl, hq⟩; subst w3) | (go_at_call 40; (with_reducible refine (byte_end HT.out rfl HM.out).mono ?_); rintro e w4 ⟨rfl, ht, ho⟩; have HT4 := Aside0.mk ht; have HB4 := Aside0.mk (HB.out.trans (ho.below HRB.out.1 HRB.out.2)); clear ht ho) | (go_at_call 42; (with_reducible refine (at_int HT4.out (T.size : Int) (by omega)).mono ?_); rintro e w5 ⟨rfl, hq⟩; subst w5) | (go_at_call 43; (with_reducible refine (left_int HT4.out (by have := HK.out; omega) HM.out (T.size : Int) (by omega)).mono ?_); rintro e w6 ⟨rfl, n6, hq⟩; have HT6 := Aside0.mk (HT4.out.drewN hq); have HB6 := Aside0.mk (show Below w.heap.size w w6 by rw [hq]; exact pw_below_drewN HB4.out _); clear hq) | (go_at_call 44; (with_reducible refine (kind_end HT6.out (by have := HK.out; omega) HM.out).mono ?_); rintro e w7 ⟨rfl, n7, hq⟩; have HT7 := Aside0.mk (HT6.out.drewN hq); have HB7 := Aside0.mk (show Below w.heap.size w w7 by rw [hq]; exact pw_below_drewN HB6.out _); clear hq))
                go_roundg k1
                case measure => omega
                case rel => exact ⟨i + 1, T.size, by go_num, rfl, ⟨by have := HI.out; omega⟩, ⟨by omega⟩, HT7, HB7⟩
      | zero =>
        by_cases hlt : (i : Int) < (len : Int)
        · have hge : ¬ ((i : Int) < 20) := by have := HI.out; omega
          go_wp2_with (first | (go_at_call 36; (with_reducible refine (awake_calls _).mono ?_); rintro e w2 ⟨rfl, hb⟩; have HB2 := Aside0.mk (below_step HB.out hb); clear hb))
          go_ret
          exact ⟨rfl, HB2.out⟩
        · go_wp2_with (first | (go_at_call 36; (with_reducible refine (awake_calls _).mono ?_); rintro e w2 ⟨rfl, hb⟩; have HB2 := Aside0.mk (below_step HB.out hb); clear hb))
          go_ret
          exact ⟨rfl, HB2.out⟩
end Go.Proofs.Ytmknlojgjlpgfaa.TextG
