/- The law GateEnds, walked. -/
import Derived.Test.YtmknlojgjlpgfaaGateB
import Derived.Test.YtmknlojgjlpgfaaBitsA
namespace Go.Proofs.Ytmknlojgjlpgfaa.GateC
open Go.RowKit Go.Maps Go.Proofs.YtmknlojgjlpgfaaW.PrintWords Go.Proofs.YtmknlojgjlpgfaaW.PrintLast Go.Proofs.YtmknlojgjlpgfaaW.PrintMore Go.Proofs.Ytmknlojgjlpgfaa.GateA Go.Proofs.Ytmknlojgjlpgfaa.GateB Go.Proofs.Ytmknlojgjlpgfaa.BitsA
set_option linter.unusedVariables false
set_option linter.unusedSimpArgs false

/-- Those below i. -/
def up : Nat → List Int
  | 0 => []
  | i + 1 => (i : Int) :: up i

theorem mem_up : ∀ (i : Nat) (x : Int), x ∈ up i → 0 ≤ x ∧ x < i
  | 0, x, h => by cases h
  | i + 1, x, h => by
    rcases List.mem_cons.1 h with rfl | h
    · omega
    · have := mem_up i x h; omega

theorem up_length : ∀ i, (up i).length = i
  | 0 => rfl
  | i + 1 => by simp [up, up_length i]

theorem enter_up (i : Nat) : enterCode (i : Int) (up i) false = 0 ∧ enterSet (i : Int) (up i) false = up (i + 1) := by
  have h : (i : Int) ∉ up i := fun h => by have := mem_up i _ h; omega
  have hc : enterCode (i : Int) (up i) false = 0 := by simp [enterCode, h]
  exact ⟨hc, by simp [enterSet, hc, up]⟩

theorem enter_at {B : Nat} {w : World} {g : Nat} (i : Nat) (hi : i < 100) (h : IsGate B w g i (up i) false) :
    Calls Try.prog 19 #[.pointer (some ⟨g, 0, none⟩), .int .i64 (i : Int)] w (Tells B w g (i + 1) (up (i + 1)) false (.int .i64 0)) := by
  have := enter_ok h (i : Int) (WalkArith.wf_i64 (by omega)) (by omega)
  rw [(enter_up i).1, (enter_up i).2] at this
  exact this

theorem leave_in {B : Nat} {w : World} {g n : Nat} {S : List Int} {c : Bool} (h : IsGate B w g n S c) (who : Int) (hw : (Lit.int .i64 who).wf = true) (hm : who ∈ S) :
    Calls Try.prog 21 #[.pointer (some ⟨g, 0, none⟩), .int .i64 who] w (Tells B w g n (S.erase who) c (.int .i64 0)) := by
  have := leave_ok h who hw
  rw [show leaveCode who S = 0 by simp [leaveCode, hm]] at this
  exact this

theorem leave_out {B : Nat} {w : World} {g n : Nat} {S : List Int} {c : Bool} (h : IsGate B w g n S c) (who : Int) (hw : (Lit.int .i64 who).wf = true) (hm : who ∉ S) :
    Calls Try.prog 21 #[.pointer (some ⟨g, 0, none⟩), .int .i64 who] w (Tells B w g n S c (.int .i64 3)) := by
  have := leave_ok h who hw
  rw [show leaveCode who S = 3 by simp [leaveCode, hm], List.erase_of_not_mem hm] at this
  exact this

theorem gate_nodup {B : Nat} {w : World} {g n : Nat} {S : List Int} {c : Bool} (h : IsGate B w g n S c) : S.Nodup := by
  obtain ⟨mb, _, _, _, _, h5⟩ := h
  exact h5.2.1

theorem done_is {B : Nat} {w : World} {g n : Nat} {S : List Int} (h : IsGate B w g n S true) (L : Int) (hL : (S.length : Int) = L) :
    Calls Try.prog 22 #[.pointer (some ⟨g, 0, none⟩)] w fun e w' => e = .returned (.bool (L == 0)) ∧ w = w' := by
  have := done_ok h
  rw [hL] at this
  simpa using this

theorem done_closed {B : Nat} {w : World} {g n : Nat} {S : List Int} (h : IsGate B w g n S true) :
    Calls Try.prog 22 #[.pointer (some ⟨g, 0, none⟩)] w fun e w' => e = .returned (.bool ((S.length : Int) == 0)) ∧ w = w' := by
  have := done_ok h
  simpa using this

set_option maxHeartbeats 8000000 in
set_option maxRecDepth 100000 in
theorem ends_walk (n : Int) (A : Option Addr) (len cap : Nat) (zs : List Int) (w : World) (hz : zs.length = len) (hlen : len ≤ 9223372036854775807) (hwf : ∀ z ∈ zs, (Lit.int .i64 z).wf = true)
    (hc : ∀ i, i < len → ∃ ad, A = some ad ∧ w.cell? (ad.add i) = some (.int .i64 (rd zs i))) :
    Calls Try.prog 5 #[.int .i64 n, .slice A len cap] w fun e w' => e = .returned (.bool true) ∧ Below w.heap.size w w' := by
  obtain ⟨k, hk⟩ : ∃ k : Nat, bits .and .i64 n 7 = (k : Int) := ⟨(n % 8).toNat, by rw [and7]; omega⟩
  have hk7 : (k : Int) < 8 := by rw [← hk, and7]; omega
  have HC := Aside0.mk hc
  have HZ := Aside0.mk hz
  have HWF := Aside0.mk hwf
  have HL := Aside0.mk hlen
  clear hc hz hwf hlen
  go_enter Try.func5, Try.ntmps5
  go_wp2_with (first | (go_at_call 18; (with_reducible refine (new_calls _).mono ?_); rintro e w1 ⟨g, rfl, hg, hb⟩; have HG := Aside0.mk hg; have HB := Aside0.mk hb; clear hg hb))
  go_loopg [7] k (fun kq v7 w' => ∃ i : Nat, v7 = .int .i64 (i : Int) ∧ Aside0 (i + kq = k) ∧ Aside0 (IsGate w.heap.size w' g i (up i) false) ∧ Aside0 (Below w.heap.size w w'))
  case atStart => exact ⟨0, rfl, ⟨by omega⟩, HG, HB⟩
  case round =>
    clear HG HB
    obtain ⟨i, rfl, HI, HG, HB⟩ := hrel
    cases gk with
    | succ k1 =>
      have hlt : (i : Int) < (k : Int) := by have := HI.out; omega
      go_wp2_with (first | (go_at_call 19; (with_reducible refine (enter_at i (by omega) HG.out).mono ?_); rintro e w2 ⟨rfl, hg2, hb2⟩; have n1 := Aside0.mk hg2; have n2 := Aside0.mk (HB.out.trans hb2); clear HG HB hg2 hb2; have HG := n1; have HB := n2; clear n1 n2))
      go_roundg k1
      case measure => omega
      case rel => exact ⟨i + 1, by go_num, ⟨by have := HI.out; omega⟩, HG, HB⟩
    | zero =>
      have hge : ¬ ((i : Int) < (k : Int)) := by have := HI.out; omega
      have hik : i = k := by have := HI.out; omega
      subst hik
      clear HI
      go_wp2_with (first | (go_at_call 20; (with_reducible refine (close_ok HG.out).mono ?_); rintro e w2 ⟨rfl, hg2, hb2⟩; have n1 := Aside0.mk hg2; have n2 := Aside0.mk (HB.out.trans hb2); clear HG HB hg2 hb2; have HG := n1; have HB := n2; clear n1 n2))
      obtain ⟨S, hS⟩ : ∃ S, S = up i := ⟨_, rfl⟩
      have HS := Aside0.mk (show ∀ x ∈ S, 0 ≤ x ∧ x < (i : Int) by rw [hS]; exact mem_up i)
      have HSL := Aside0.mk (show S.length = i by rw [hS, up_length])
      rw [← hS] at HG
      clear hS
      go_loopg [8, 9] (min len 20) (fun kq v8 v9 w' => ∃ (j L : Nat) (S : List Int), v9 = .int .i64 (j : Int) ∧ v8 = .int .i64 (L : Int) ∧ Aside0 (S.length = L ∧ L ≤ i) ∧ Aside0 (j + kq = min len 20) ∧ Aside0 (IsGate w.heap.size w' g i S true) ∧ Aside0 (∀ x ∈ S, 0 ≤ x ∧ x < (i : Int)) ∧ Aside0 (Below w.heap.size w w'))
      case atStart => exact ⟨0, i, S, rfl, rfl, ⟨HSL.out, Nat.le_refl _⟩, ⟨by omega⟩, HG, HS, HB⟩
      case round =>
        clear HG HB HS HSL
        clear S
        obtain ⟨j, L, S, rfl, rfl, HSL, HJ, HG, HS, HB⟩ := hrel
        have hLi : (L : Int) < 9 := by have := HSL.out; omega
        cases gk with
        | succ k1 =>
          have hlt1 : (j : Int) < (len : Int) := by have := HJ.out; omega
          have hlt2 : (j : Int) < 20 := by have := HJ.out; omega
          obtain ⟨ad, ead, hcell⟩ := HC.out j (by omega)
          cases ead
          replace hcell := (HB.out.cell (World.block_lt_of_cell? w _ hcell)).trans hcell
          obtain ⟨z, hz⟩ : ∃ z, rd zs j = z := ⟨_, rfl⟩
          rw [hz] at hcell
          obtain ⟨q, hq⟩ : ∃ q : Nat, bits .and .i64 z 7 = (q : Int) := ⟨(z % 8).toNat, by rw [and7]; omega⟩
          have hq7 : (q : Int) < 8 := by rw [← hq, and7]; omega
          clear hz
          by_cases hm : (q : Int) ∈ S
          · have HM := Aside0.mk hm
            have hpos : 0 < S.length := List.length_pos_of_mem hm
            have hL1 : (1 : Int) ≤ (L : Int) := by have := HSL.out; omega
            have HLEN := Aside0.mk (show (((S.erase (q : Int)).length : Nat) : Int) = (L : Int) - 1 by rw [List.length_erase_of_mem hm]; have := HSL.out; omega)
            clear hm hpos
            go_wp2_with (first | (go_at_call 21; (with_reducible refine (leave_in HG.out (q : Int) (WalkArith.wf_i64 (by omega)) HM.out).mono ?_); rintro e w3 ⟨rfl, hg2, hb2⟩; have n1 := Aside0.mk hg2; have n2 := Aside0.mk (HB.out.trans hb2); clear HG HB hg2 hb2; have HG := n1; have HB := n2; clear n1 n2) | (go_at_call 22; (with_reducible refine (done_is HG.out ((L : Int) - 1) HLEN.out).mono ?_); rintro e w4 ⟨rfl, rfl⟩))
            go_roundg k1
            case measure => omega
            case rel =>
              refine ⟨j + 1, L - 1, S.erase (q : Int), by go_num, ?_, ⟨by have := HLEN.out; have := HSL.out; omega⟩, ⟨by have := HJ.out; omega⟩, HG, ⟨fun x hx => HS.out x (List.mem_of_mem_erase hx)⟩, HB⟩
              rw [show ((L - 1 : Nat) : Int) = (L : Int) - 1 by omega]
          · have HM := Aside0.mk hm
            clear hm
            go_wp2_with (first | (go_at_call 21; (with_reducible refine (leave_out HG.out (q : Int) (WalkArith.wf_i64 (by omega)) HM.out).mono ?_); rintro e w3 ⟨rfl, hg2, hb2⟩; have n1 := Aside0.mk hg2; have n2 := Aside0.mk (HB.out.trans hb2); clear HG HB hg2 hb2; have HG := n1; have HB := n2; clear n1 n2) | (go_at_call 22; (with_reducible refine (done_is HG.out (L : Int) (by have := HSL.out; omega)).mono ?_); rintro e w4 ⟨rfl, rfl⟩))
            go_roundg k1
            case measure => omega
            case rel => exact ⟨j + 1, L, S, by go_num, rfl, HSL, ⟨by have := HJ.out; omega⟩, HG, HS, HB⟩
        | zero =>
          have hor : ((j : Int) < (len : Int) ∧ ¬ (j : Int) < 20) ∨ ¬ (j : Int) < (len : Int) := by have := HJ.out; omega
          clear HJ
          rcases hor with ⟨hge1, hge2⟩ | hge
          all_goals
            go_wp2
            go_loopg [8, 10] i (fun kq v8 v10 w' => ∃ (m L : Nat) (S : List Int), v10 = .int .i64 (m : Int) ∧ v8 = .int .i64 (L : Int) ∧ Aside0 (S.length = L ∧ L ≤ i) ∧ Aside0 (m + kq = i) ∧ Aside0 (IsGate w.heap.size w' g i S true) ∧ Aside0 (∀ x ∈ S, (m : Int) ≤ x ∧ x < (i : Int)) ∧ Aside0 (Below w.heap.size w w'))
            case atStart => exact ⟨0, L, S, rfl, rfl, HSL, ⟨by omega⟩, HG, ⟨fun x hx => by have := HS.out x hx; omega⟩, HB⟩
            case round =>
              clear HG HB HS HSL hLi
              clear S L
              obtain ⟨m, L, S, rfl, rfl, HSL, HM', HG, HS, HB⟩ := hrel
              have hLi : (L : Int) < 9 := by have := HSL.out; omega
              cases gk with
              | succ k1 =>
                have hlt3 : (m : Int) < (i : Int) := by have := HM'.out; omega
                by_cases hm : (m : Int) ∈ S
                · have HM := Aside0.mk hm
                  have hpos : 0 < S.length := List.length_pos_of_mem hm
                  have hL1 : (1 : Int) ≤ (L : Int) := by have := HSL.out; omega
                  have HLEN := Aside0.mk (show (((S.erase (m : Int)).length : Nat) : Int) = (L : Int) - 1 by rw [List.length_erase_of_mem hm]; have := HSL.out; omega)
                  clear hm hpos
                  go_wp2_with (first | (go_at_call 21; (with_reducible refine (leave_in HG.out (m : Int) (WalkArith.wf_i64 (by omega)) HM.out).mono ?_); rintro e w3 ⟨rfl, hg2, hb2⟩; have HN := Aside0.mk (gate_nodup HG.out); have n1 := Aside0.mk hg2; have n2 := Aside0.mk (HB.out.trans hb2); clear HG HB hg2 hb2; have HG := n1; have HB := n2; clear n1 n2))
                  go_roundg k1
                  case measure => omega
                  case rel =>
                    refine ⟨m + 1, L - 1, S.erase (m : Int), by go_num, ?_, ⟨by have := HLEN.out; have := HSL.out; omega⟩, ⟨by have := HM'.out; omega⟩, HG, ⟨fun x hx => ?_⟩, HB⟩
                    · rw [show ((L - 1 : Nat) : Int) = (L : Int) - 1 by omega]
                    · have h1 := HS.out x (List.mem_of_mem_erase hx)
                      have h2 : x ≠ (m : Int) := ((HN.out.mem_erase_iff).1 hx).1
                      omega
                · have HM := Aside0.mk hm
                  clear hm
                  go_wp2_with (first | (go_at_call 21; (with_reducible refine (leave_out HG.out (m : Int) (WalkArith.wf_i64 (by omega)) HM.out).mono ?_); rintro e w3 ⟨rfl, hg2, hb2⟩; have n1 := Aside0.mk hg2; have n2 := Aside0.mk (HB.out.trans hb2); clear HG HB hg2 hb2; have HG := n1; have HB := n2; clear n1 n2))
                  go_roundg k1
                  case measure => omega
                  case rel =>
                    refine ⟨m + 1, L, S, by go_num, rfl, HSL, ⟨by have := HM'.out; omega⟩, HG, ⟨fun x hx => ?_⟩, HB⟩
                    have h1 := HS.out x hx
                    have h2 : x ≠ (m : Int) := fun e => HM.out (e ▸ hx)
                    omega
              | zero =>
                have hge3 : ¬ ((m : Int) < (i : Int)) := by have := HM'.out; omega
                have hS : S = [] := by
                  cases S with
                  | nil => rfl
                  | cons x S => have := HS.out x (List.mem_cons_self); omega
                subst hS
                have hL0 : L = 0 := by have := HSL.out; simpa using this.1.symm
                subst hL0
                clear HS HSL HM' hLi
                go_wp2_with (first | (go_at_call 23; (with_reducible refine (awake_ok _).mono ?_); rintro e w3 ⟨rfl, hb2⟩; have n1 := Aside0.mk (HG.out.kept hb2); have n2 := Aside0.mk (below_step HB.out hb2); clear HG HB hb2; have HG := n1; have HB := n2; clear n1 n2) | (go_at_call 22; (with_reducible refine (done_is HG.out 0 rfl).mono ?_); rintro e w4 ⟨rfl, rfl⟩))
                go_ret
                exact ⟨rfl, HB.out⟩
end Go.Proofs.Ytmknlojgjlpgfaa.GateC
