/- The law TextQuotes walked: a text between marks is taken, with its marks; one that does not end is not. -/
import Derived.Test.YtmknlojgjlpgfaaTextE
import Derived.Test.YtmknlojgjlpgfaaTextJ
import Derived.Deep.DeepCutAuto
namespace Go.Proofs.Ytmknlojgjlpgfaa.TextI
open Go.RowKit Go.Proofs.YtmknlojgjlpgfaaW.PrintWords Go.Proofs.YtmknlojgjlpgfaaW.PrintLast Go.Proofs.YtmknlojgjlpgfaaW.PrintMore Go.Proofs.Ytmknlojgjlpgfaa.TextA Go.Proofs.Ytmknlojgjlpgfaa.TextB Go.Proofs.Ytmknlojgjlpgfaa.TextC Go.Proofs.Ytmknlojgjlpgfaa.TextD Go.Proofs.Ytmknlojgjlpgfaa.TextE Go.Proofs.Ytmknlojgjlpgfaa.TextJ
attribute [local go_sem ↓] Go.wp_at_zero Go.wp_at_succ
attribute [local go_sem] max2_int min2_int max_two min_two
set_option linter.unusedVariables false
set_option linter.unusedSimpArgs false

theorem IsT.only {w w' : World} {r g : Nat} {s : ByteArray} {k : Nat} (h : IsT w r s k) (ho : Only g w w') (hne : r ≠ g) : IsT w' r s k := ho.blk h hne

/-- What is known of the text behind the marks. -/
def Behind (M : ByteArray) : Prop := M.size ≤ 10 ∧ (M.size = 0 ∨ byte M 0 ≠ 39)

theorem behind_blank {X : ByteArray} (h : X.size ≤ 9) : Behind (⟨#[32]⟩ ++ X) := by
  refine ⟨by rw [ByteArray.size_append]; show 1 + X.size ≤ 10; omega, Or.inr ?_⟩
  rw [byte_left X (show 0 < (⟨#[32]⟩ : ByteArray).size by decide)]
  decide
theorem behind_other {X : ByteArray} (h : X.size ≤ 9) (h0 : 0 < X.size) (hb : (((X[0]'h0).toNat : Nat) : Int) ≠ 39) : Behind X :=
  ⟨by omega, Or.inr (by rw [← byte_eq h0]; exact hb)⟩
theorem behind_none {X : ByteArray} (h : ¬ 0 < X.size) : Behind X := ⟨by omega, Or.inl (by omega)⟩

/-- The law's first text. -/
theorem quoted_shut {w : World} {r : Nat} {s q M : ByteArray} {i : Nat} (hq : esc s i = q) (hi : i ≤ s.size) (hqs : q.size ≤ 41) (hM : Behind M) (h : IsT w r (q ++ ⟨#[39]⟩ ++ M) 0) :
    Calls Try.prog 45 #[.pointer (some ⟨r, 0, none⟩)] w fun e w' => e = .returned (.tuple #[.string (q ++ ⟨#[39]⟩), .bool true]) ∧ IsT w' r (q ++ ⟨#[39]⟩ ++ M) (q.size + 1) ∧ Only r w w' := by
  have hsz : (q ++ ⟨#[39]⟩ ++ M).size = q.size + 1 + M.size := by rw [ByteArray.size_append, ByteArray.size_append]; rfl
  have hf := fin_shut s M i hi hM.2
  have hc := first_cls s M i hi
  rw [hq] at hf hc
  have he : (q ++ ⟨#[39]⟩ ++ M).extract 0 (q.size + 1) = q ++ ⟨#[39]⟩ := by
    have := front (q ++ ⟨#[39]⟩) M
    rwa [ByteArray.size_append] at this
  refine (quoted_calls h (by omega) (by unfold maxLen; have := hM.1; omega) hc).mono fun e w' => ?_
  rw [show fin (q ++ ⟨#[39]⟩ ++ M) (q ++ ⟨#[39]⟩ ++ M).size (0 + 1) = some q.size from hf]
  rintro ⟨⟨h1, h2⟩, h3⟩
  rw [he] at h1
  exact ⟨h1, h2, h3⟩

theorem quoted_open {w : World} {r : Nat} {s q : ByteArray} {i : Nat} (hq : esc s i = q) (hi : i ≤ s.size) (hqs : q.size ≤ 41) (h : IsT w r q 0) :
    Calls Try.prog 45 #[.pointer (some ⟨r, 0, none⟩)] w fun e w' => e = .returned (.tuple #[.string ⟨#[]⟩, .bool false]) ∧ IsT w' r q 0 ∧ Only r w w' := by
  have hf := fin_open s i hi
  have hc := open_cls s i
  have h1 := (esc_size s i hi).2
  rw [hq] at hf hc h1
  refine (quoted_calls h (by omega) (by unfold maxLen; omega) hc).mono fun e w' => ?_
  rw [show fin q q.size (0 + 1) = none from hf]
  rintro ⟨⟨h1, h2⟩, h3⟩
  exact ⟨h1, h2, h3⟩

theorem left_shut {w : World} {r : Nat} {q M : ByteArray} (hqs : q.size ≤ 41) (hM : Behind M) (h : IsT w r (q ++ ⟨#[39]⟩ ++ M) (q.size + 1)) :
    Calls Try.prog 43 #[.pointer (some ⟨r, 0, none⟩)] w fun e w' => e = .returned (.int .i64 (M.size : Int)) ∧ ∃ n, w' = w.drewN n := by
  have hsz : (q ++ ⟨#[39]⟩ ++ M).size = q.size + 1 + M.size := by rw [ByteArray.size_append, ByteArray.size_append]; rfl
  have := left_calls h (by omega) (by unfold maxLen; have := hM.1; omega)
  rwa [show ((q ++ ⟨#[39]⟩ ++ M).size : Int) - ((q.size + 1 : Nat) : Int) = (M.size : Int) by omega] at this

theorem two_front (M : ByteArray) : (((⟨#[33, 61]⟩ : ByteArray) ++ M).extract 0 (0 + 2)) = ⟨#[33, 61]⟩ := front ⟨#[33, 61]⟩ M

theorem two_less {w : World} {r : Nat} {M : ByteArray} (hM : Behind M) (h : IsT w r (⟨#[33, 61]⟩ ++ M) 0) : Calls Try.prog 46 #[.pointer (some ⟨r, 0, none⟩), .string ⟨#[60, 61]⟩] w (Still (.bool false) w) := by
  have hsz : ((⟨#[33, 61]⟩ : ByteArray) ++ M).size = 2 + M.size := by rw [ByteArray.size_append]; rfl
  exact two_no 60 61 h (by omega) (by unfold maxLen; have := hM.1; omega) (by rw [two_front]; decide +kernel)
theorem two_neq {w : World} {r : Nat} {M : ByteArray} (hM : Behind M) (h : IsT w r (⟨#[33, 61]⟩ ++ M) 0) : Calls Try.prog 46 #[.pointer (some ⟨r, 0, none⟩), .string ⟨#[33, 61]⟩] w (TwoPost w r (⟨#[33, 61]⟩ ++ M) 2) := by
  have hsz : ((⟨#[33, 61]⟩ : ByteArray) ++ M).size = 2 + M.size := by rw [ByteArray.size_append]; rfl
  exact two_yes 33 61 h (by omega) (by unfold maxLen; have := hM.1; omega) (by rw [two_front]; decide +kernel)

set_option maxHeartbeats 8000000 in
set_option maxRecDepth 100000 in
theorem quotes_walk (s m : ByteArray) (w : World) (hs : s.size ≤ 140737488351232) (hm : m.size ≤ 140737488351232) :
    Calls Try.prog 12 #[.string s, .string m] w fun e w' => e = .returned (.bool true) ∧ Below w.heap.size w w' := by
  have HSS := Aside0.mk hs
  have HMM := Aside0.mk hm
  clear hs hm
  go_enter Try.func12, Try.ntmps12
  go_wp2_with (fail)
  go_loopg [5, 6] (min s.size 20) (fun kq v5 v6 w' => ∃ (i : Nat), v6 = .int .i64 (i : Int) ∧ v5 = .string (esc s i) ∧ Aside0 (i + kq = min s.size 20) ∧ Aside0 (w' = w))
  case atStart => exact ⟨0, rfl, rfl, ⟨by omega⟩, ⟨rfl⟩⟩
  case round =>
    obtain ⟨i, rfl, rfl, HI, HW⟩ := hrel
    have hw := HW.out
    subst hw
    obtain ⟨q, hq⟩ : ∃ q, esc s i = q := ⟨_, rfl⟩
    rw [hq]
    have hqs : q.size ≤ 41 := by rw [← hq]; have := (esc_size s i (by have := HI.out; omega)).1; have := HI.out; omega
    have HQS := Aside0.mk hqs
    have HQ := Aside0.mk hq
    clear hq hqs
    cases gk with
    | succ k1 =>
      have hlt : i < s.size := by have := HI.out; omega
      have hlt2 : (i : Int) < 20 := by have := HI.out; omega
      have hi0 : (0 : Int) ≤ (i : Int) := by omega
      have s1 : ¬ 9223372036854775807 < q.size + 1 := by have := HQS.out; omega
      have s2 : ¬ 9223372036854775807 < q.size + 1 + (min (i + 1) s.size - i) := by have := HQS.out; omega
      have s3 : ¬ 9223372036854775807 < q.size + (min (i + 1) s.size - i) := by have := HQS.out; omega
      go_wp2_with (fail)
      · have hb : byte s i = 39 := by rw [← byte_eq hlt]; simpa using ‹(((s[i].toNat : Nat) : Int) == 39) = true›
        go_roundg k1
        case measure => omega
        case rel => exact ⟨i + 1, by go_num, by unfold esc; rw [if_pos hb, HQ.out]; rfl, ⟨by have := HI.out; omega⟩, ⟨rfl⟩⟩
      · have hb : ¬ byte s i = 39 := by rw [← byte_eq hlt]; simpa using ‹(((s[i].toNat : Nat) : Int) == 39) = false›
        go_roundg k1
        case measure => omega
        case rel => exact ⟨i + 1, by go_num, by unfold esc; rw [if_neg hb, HQ.out], ⟨by have := HI.out; omega⟩, ⟨rfl⟩⟩
    | zero =>
      have hi2 : Aside0 (i ≤ s.size) := ⟨by have := HI.out; omega⟩
      have hend : ((i : Int) < (s.size : Int) ∧ ¬ ((i : Int) < 20)) ∨ ¬ ((i : Int) < (s.size : Int)) := by have := HI.out; omega
      have hmin : (9 : Int) < (m.size : Int) ∨ (m.size : Int) ≤ 9 := by omega
      rcases hend with ⟨hlt, hge⟩ | hlt
      all_goals
        rcases hmin with h9 | h9
        all_goals
          go_upto_if 55 with fail
          all_goals
            go_cut [7] (fun s7 wx => ∃ M : ByteArray, s7 = .string M ∧ Aside0 (Behind M) ∧ wx = wr)
            case first =>
              have sz9 : (m.extract 0 9).size ≤ 9 := by rw [ByteArray.size_extract]; omega
              go_wp2_with (fail)
              all_goals
               go_meet
               first
                | exact ⟨_, rfl, ⟨behind_none ‹_›⟩, rfl⟩
                | exact ⟨_, rfl, ⟨behind_other (by omega) (by first | omega | (rw [ByteArray.size_extract]; omega)) (by simpa using ‹(_ == (39 : Int)) = false›)⟩, rfl⟩
                | exact ⟨_, rfl, ⟨behind_blank (by omega)⟩, rfl⟩
            case rest =>
              obtain ⟨M, rfl, HM, hwc⟩ := hcut
              subst wc
              have s1 : ¬ 9223372036854775807 < q.size + 1 := by have := HQS.out; omega
              have s2 : ¬ 9223372036854775807 < q.size + 1 + M.size := by have := HQS.out; have := HM.out.1; omega
              have s3 : ¬ 9223372036854775807 < 2 + M.size := by have := HM.out.1; omega
              go_wp2_with (fail)
              (with_reducible refine (new_calls _ _).mono ?_)
              rintro e w1 ⟨r1, rfl, ht, hr, hb⟩
              have HT1 := Aside0.mk ht
              have HR1 := Aside0.mk hr
              have HB1 := Aside0.mk hb
              have HL1 := Aside0.mk (blk_lt ht)
              clear ht hr hb
              go_wp2_with (fail)
              (with_reducible refine (quoted_shut HQ.out hi2.out HQS.out HM.out HT1.out).mono ?_)
              rintro e w2 ⟨rfl, ht, ho⟩
              have HT2 := Aside0.mk ht
              have HB2 := Aside0.mk (HB1.out.trans (ho.below HR1.out HL1.out))
              have HL2 := Aside0.mk (blk_lt ht)
              clear ht ho
              go_wp2_with (fail)
              (with_reducible refine (new_calls _ _).mono ?_)
              rintro e w3 ⟨r2, rfl, ht, hr, hb⟩
              have HU3 := Aside0.mk ht
              have HT3 := Aside0.mk (HT2.out.below hb)
              have HR2 := Aside0.mk (show r1 < r2 ∧ wr.heap.size ≤ r2 ∧ r1 ≠ r2 by have := HL2.out; have := HB2.out.size; omega)
              have HB3 := Aside0.mk (below_step HB2.out hb)
              have HL3 := Aside0.mk (blk_lt ht)
              clear ht hr hb
              go_wp2_with (fail)
              (with_reducible refine (quoted_open HQ.out hi2.out HQS.out HU3.out).mono ?_)
              rintro e w4 ⟨rfl, ht, ho⟩
              have HU4 := Aside0.mk ht
              have HT4 := Aside0.mk (IsT.only HT3.out ho HR2.out.2.2)
              have HB4 := Aside0.mk (HB3.out.trans (ho.below HR2.out.2.1 HL3.out))
              have HL4 := Aside0.mk (blk_lt ht)
              clear ht ho
              go_wp2_with (fail)
              (with_reducible refine (new_calls _ _).mono ?_)
              rintro e w5 ⟨r3, rfl, ht, hr, hb⟩
              have HV5 := Aside0.mk ht
              have HT5 := Aside0.mk (HT4.out.below hb)
              have HU5 := Aside0.mk (HU4.out.below hb)
              have HR3 := Aside0.mk (show r1 ≠ r3 ∧ r2 ≠ r3 ∧ wr.heap.size ≤ r3 by have := HL4.out; have := HB4.out.size; have := HR2.out; omega)
              have HB5 := Aside0.mk (below_step HB4.out hb)
              have HL5 := Aside0.mk (blk_lt ht)
              clear ht hr hb
              go_wp2_with (fail)
              (with_reducible refine (two_less HM.out HV5.out).mono ?_)
              rintro e w6 ⟨rfl, n6, hq⟩
              have HV6 := Aside0.mk (HV5.out.drewN hq)
              have HU6 := Aside0.mk (HU5.out.drewN hq)
              have HT6 := Aside0.mk (HT5.out.drewN hq)
              have HB6 := Aside0.mk (show Below wr.heap.size wr w6 by rw [hq]; exact pw_below_drewN HB5.out _)
              have HL6 := Aside0.mk (blk_lt HV6.out)
              clear hq
              go_wp2_with (fail)
              (with_reducible refine (two_neq HM.out HV6.out).mono ?_)
              rintro e w7 ⟨rfl, ht, ho⟩
              have HV7 := Aside0.mk ht
              have HT7 := Aside0.mk (IsT.only HT6.out ho HR3.out.1)
              have HU7 := Aside0.mk (IsT.only HU6.out ho HR3.out.2.1)
              have HB7 := Aside0.mk (HB6.out.trans (ho.below HR3.out.2.2 HL6.out))
              clear ht ho
              go_wp2_with (fail)
              (with_reducible refine (quoted_nil _).mono ?_)
              rintro e w8 ⟨rfl, hq⟩
              subst w8
              go_wp2_with (fail)
              (with_reducible refine (awake_calls _).mono ?_)
              rintro e w8 ⟨rfl, hb⟩
              have HV8 := Aside0.mk (HV7.out.below hb)
              have HU8 := Aside0.mk (HU7.out.below hb)
              have HT8 := Aside0.mk (HT7.out.below hb)
              have HB8 := Aside0.mk (below_step HB7.out hb)
              clear hb
              go_wp2_with (fail)
              (with_reducible refine (left_shut HQS.out HM.out HT8.out).mono ?_)
              rintro e w9 ⟨rfl, n9, hq⟩
              have HU9 := Aside0.mk (HU8.out.drewN hq)
              have HV9 := Aside0.mk (HV8.out.drewN hq)
              have HB9 := Aside0.mk (show Below wr.heap.size wr w9 by rw [hq]; exact pw_below_drewN HB8.out _)
              clear hq
              go_wp2_with (fail)
              (with_reducible refine (at_calls HU9.out).mono ?_)
              rintro e w10 ⟨rfl, hq⟩
              subst w10
              go_wp2_with (fail)
              (with_reducible refine (at_calls HV9.out).mono ?_)
              rintro e w10 ⟨rfl, hq⟩
              subst w10
              go_wp2_with (fail)
              (with_reducible refine (two_three _ _ _).mono ?_)
              rintro e w10 ⟨rfl, n10, hq⟩
              have HB10 := Aside0.mk (show Below wr.heap.size wr w10 by rw [hq]; exact pw_below_drewN HB9.out _)
              clear hq
              go_wp2_with (fail)
              (with_reducible refine (byte_nil _).mono ?_)
              rintro e w11 ⟨rfl, hq⟩
              subst w11
              go_wp2_with (fail)
              (with_reducible refine (kind_nil _).mono ?_)
              rintro e w11 ⟨rfl, hq⟩
              subst w11
              go_wp2_with (fail)
              (with_reducible refine (at_nil _).mono ?_)
              rintro e w11 ⟨rfl, hq⟩
              subst w11
              go_wp2_with (fail)
              (with_reducible refine (left_nil _).mono ?_)
              rintro e w11 ⟨rfl, hq⟩
              subst w11
              go_wp2_with (fail)
              (with_reducible refine (run_nil _ _ _ _).mono ?_)
              rintro e w11 ⟨rfl, hq⟩
              have HB11 := Aside0.mk (show Below wr.heap.size wr w11 by rw [hq]; exact HB10.out.alloc HB10.out.size _)
              clear hq
              go_wp2_with (fail)
              (with_reducible refine (two_nil _ _ _).mono ?_)
              rintro e w12 ⟨rfl, n12, hq⟩
              have HB12 := Aside0.mk (show Below wr.heap.size wr w12 by rw [hq]; exact pw_below_drewN HB11.out _)
              clear hq
              go_wp2_with (fail)
              go_ret
              exact ⟨rfl, HB12.out⟩
end Go.Proofs.Ytmknlojgjlpgfaa.TextI
