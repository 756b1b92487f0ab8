/- The law GatePlays, walked. -/
import Derived.Test.YtmknlojgjlpgfaaGateF
namespace Go.Proofs.Ytmknlojgjlpgfaa.GateE
open Go.Proofs.Ytmknlojgjlpgfaa.GateF Go.RowKit Go.Maps Go.Proofs.YtmknlojgjlpgfaaW.PrintWords Go.Proofs.YtmknlojgjlpgfaaW.PrintLast Go.Proofs.YtmknlojgjlpgfaaW.PrintMore Go.Proofs.Ytmknlojgjlpgfaa.GateA Go.Proofs.Ytmknlojgjlpgfaa.GateB Go.Proofs.Ytmknlojgjlpgfaa.GateC Go.Proofs.Ytmknlojgjlpgfaa.BitsA
set_option linter.unusedVariables false
set_option linter.unusedSimpArgs false
attribute [local go_sem] max2_int min2_int max_two min_two

/-- Who is there, as the law's array has it. -/
def ins (S : List Int) : Array Value := ((List.range 16).map fun (j : Nat) => Value.bool (decide ((j : Int) ∈ S))).toArray

theorem ins_nil : ins [] = #[.bool false, .bool false, .bool false, .bool false, .bool false, .bool false, .bool false, .bool false, .bool false, .bool false, .bool false, .bool false, .bool false, .bool false, .bool false, .bool false] := by simp [ins, List.range_succ]

theorem ins_get (S : List Int) (j : Nat) (hj : j < 16) : (ins S)[j]? = some (.bool (decide ((j : Int) ∈ S))) := by
  simp [ins, hj]

theorem ins_cons (S : List Int) (j : Nat) (hj : j < 16) : (ins S).setIfInBounds j (.bool true) = ins ((j : Int) :: S) := by
  apply Array.ext_getElem?
  intro i
  by_cases h : i < 16
  · by_cases e : j = i
    · subst e
      rw [ins_get _ _ h, Array.getElem?_setIfInBounds_self_of_lt (by simpa [ins] using h)]
      simp
    · rw [Array.getElem?_setIfInBounds_ne e, ins_get _ _ h, ins_get _ _ h]
      have : ((i : Int) ∈ ((j : Int) :: S)) ↔ (i : Int) ∈ S := by
        rw [List.mem_cons]
        constructor
        · rintro (h | h)
          · omega
          · exact h
        · exact Or.inr
      simp [this]
  · rw [Array.getElem?_eq_none (by simp [ins]; omega), Array.getElem?_eq_none (by simp [ins]; omega)]

theorem ins_erase (S : List Int) (hn : S.Nodup) (j : Nat) (hj : j < 16) : (ins S).setIfInBounds j (.bool false) = ins (S.erase (j : Int)) := by
  apply Array.ext_getElem?
  intro i
  by_cases h : i < 16
  · by_cases e : j = i
    · subst e
      rw [ins_get _ _ h, Array.getElem?_setIfInBounds_self_of_lt (by simpa [ins] using h)]
      have : (j : Int) ∉ S.erase (j : Int) := fun hm => ((hn.mem_erase_iff).1 hm).1 rfl
      simp [this]
    · rw [Array.getElem?_setIfInBounds_ne e, ins_get _ _ h, ins_get _ _ h]
      have : ((i : Int) ∈ S.erase (j : Int)) ↔ (i : Int) ∈ S := by
        rw [hn.mem_erase_iff]
        exact ⟨fun h => h.2, fun h => ⟨by omega, h⟩⟩
      simp [this]
  · rw [Array.getElem?_eq_none (by simp [ins]; omega), Array.getElem?_eq_none (by simp [ins]; omega)]

theorem lenM {w : World} {g mb n : Nat} {S : List Int} {c : Bool} (h : GateM w g mb n S c) (L : Int) (hL : (S.length : Int) = L) :
    Calls Try.prog 24 #[.pointer (some ⟨g, 0, none⟩)] w fun e w' => e = .returned (.int .i64 L) ∧ w = w' := by
  have := len_ok (isGate_of (Nat.zero_le _) (Nat.zero_le _) h)
  rw [hL] at this
  exact this

theorem doneT {w : World} {g mb n : Nat} {S : List Int} (h : GateM w g mb n S true) (L : Int) (hL : (S.length : Int) = L) :
    Calls Try.prog 22 #[.pointer (some ⟨g, 0, none⟩)] w fun e w' => e = .returned (.bool (L == 0)) ∧ w = w' := by
  have := done_ok (isGate_of (Nat.zero_le _) (Nat.zero_le _) h)
  rw [hL] at this
  simpa using this

theorem doneF {w : World} {g mb n : Nat} {S : List Int} (h : GateM w g mb n S false) :
    Calls Try.prog 22 #[.pointer (some ⟨g, 0, none⟩)] w fun e w' => e = .returned (.bool false) ∧ w = w' := by
  have := done_ok (isGate_of (Nat.zero_le _) (Nat.zero_le _) h)
  simpa using this

theorem enter1 {w : World} {g mb n : Nat} {S : List Int} {c : Bool} (h : GateM w g mb n S c) (hn : n < 1000) :
    Calls Try.prog 19 #[.pointer (some ⟨g, 0, none⟩), .int .i64 (-1)] w (TellsM w g mb (n + 1) S c (.int .i64 1)) := by
  have := enterM h (-1) (by decide) (by omega)
  rw [show enterSet (-1) S c = S by simp [enterSet, enterCode], show enterCode (-1) S c = 1 by simp [enterCode]] at this
  exact this

theorem enter9 {w : World} {g mb n : Nat} {S : List Int} (h : GateM w g mb n S true) (hn : n < 1000) (x : Int) (h0 : 0 ≤ x) (h1 : x < 1000) :
    Calls Try.prog 19 #[.pointer (some ⟨g, 0, none⟩), .int .i64 x] w (TellsM w g mb (n + 1) S true (.int .i64 9)) := by
  have := enterM h x (WalkArith.wf_i64 (by omega)) (by omega)
  have h2 : ¬ x < 0 := by omega
  rw [show enterSet x S true = S by simp [enterSet, enterCode, h2], show enterCode x S true = 9 by simp [enterCode, h2]] at this
  exact this

theorem enter4 {w : World} {g mb n : Nat} {S : List Int} (h : GateM w g mb n S false) (hn : n < 1000) (x : Int) (h0 : 0 ≤ x) (h1 : x < 1000) (hm : x ∈ S) :
    Calls Try.prog 19 #[.pointer (some ⟨g, 0, none⟩), .int .i64 x] w (TellsM w g mb (n + 1) S false (.int .i64 4)) := by
  have := enterM h x (WalkArith.wf_i64 (by omega)) (by omega)
  have h2 : ¬ x < 0 := by omega
  rw [show enterSet x S false = S by simp [enterSet, enterCode, h2, hm], show enterCode x S false = 4 by simp [enterCode, h2, hm]] at this
  exact this

theorem enter0 {w : World} {g mb n : Nat} {S : List Int} (h : GateM w g mb n S false) (hn : n < 1000) (x : Int) (h0 : 0 ≤ x) (h1 : x < 1000) (hm : x ∉ S) :
    Calls Try.prog 19 #[.pointer (some ⟨g, 0, none⟩), .int .i64 x] w (TellsM w g mb (n + 1) (x :: S) false (.int .i64 0)) := by
  have := enterM h x (WalkArith.wf_i64 (by omega)) (by omega)
  have h2 : ¬ x < 0 := by omega
  rw [show enterSet x S false = x :: S by simp [enterSet, enterCode, h2, hm], show enterCode x S false = 0 by simp [enterCode, h2, hm]] at this
  exact this

theorem gateM_nodup {w : World} {g mb n : Nat} {S : List Int} {c : Bool} (h : GateM w g mb n S c) : S.Nodup := h.2.2.2.1

theorem gateM_up {w0 w : World} {g mb n : Nat} {S : List Int} {c : Bool} {v : Value} {e : Ending} (hn : n < 1000) (h : TellsM w0 g mb n S c v e w) : TellsM w0 g mb (n + 1) S c v e w :=
  ⟨h.1, gateM_mono h.2.1 (by omega) (by omega), h.2.2⟩

theorem leave3 {w : World} {g mb n : Nat} {S : List Int} {c : Bool} (h : GateM w g mb n S c) (hn : n < 1000) (x : Int) (h0 : -1 ≤ x) (h1 : x < 1000) (hm : x ∉ S) :
    Calls Try.prog 21 #[.pointer (some ⟨g, 0, none⟩), .int .i64 x] w (TellsM w g mb (n + 1) S c (.int .i64 3)) := by
  have := leaveM h x (WalkArith.wf_i64 (by omega))
  rw [List.erase_of_not_mem hm, show leaveCode x S = 3 by simp [leaveCode, hm]] at this
  exact this.mono fun e w' h => gateM_up hn h

theorem leave0 {w : World} {g mb n : Nat} {S : List Int} {c : Bool} (h : GateM w g mb n S c) (hn : n < 1000) (x : Int) (h0 : -1 ≤ x) (h1 : x < 1000) (hm : x ∈ S) :
    Calls Try.prog 21 #[.pointer (some ⟨g, 0, none⟩), .int .i64 x] w (TellsM w g mb (n + 1) (S.erase x) c (.int .i64 0)) := by
  have := leaveM h x (WalkArith.wf_i64 (by omega))
  rw [show leaveCode x S = 0 by simp [leaveCode, hm]] at this
  exact this.mono fun e w' h => gateM_up hn h

theorem closeU {w : World} {g mb n : Nat} {S : List Int} {c : Bool} (h : GateM w g mb n S c) (hn : n < 1000) :
    Calls Try.prog 20 #[.pointer (some ⟨g, 0, none⟩)] w (TellsM w g mb (n + 1) S true (.tuple #[])) :=
  (closeM h).mono fun e w' h => gateM_up hn h

set_option maxHeartbeats 8000000 in
set_option maxRecDepth 100000 in
theorem plays_walk (A : Option Addr) (len cap : Nat) (zs : List Int) (w : World) (hz : zs.length = len) (hlen : len ≤ 9223372036854775807) (hwf : ∀ z ∈ zs, (Lit.int .i64 z).wf = true)
    (hc : ∀ i, i < len → ∃ ad, A = some ad ∧ w.cell? (ad.add i) = some (.int .i64 (rd zs i))) :
    Calls Try.prog 6 #[.slice A len cap] w fun e w' => e = .returned (.bool true) ∧ Below w.heap.size w w' := by
  have HC := Aside0.mk hc
  have HZ := Aside0.mk hz
  have HWF := Aside0.mk hwf
  have HL := Aside0.mk hlen
  clear hc hz hwf hlen
  go_enter Try.func6, Try.ntmps6
  go_wp2_with (first | (go_at_call 18; (with_reducible refine (new_calls _).mono ?_); rintro e w1 ⟨g, rfl, hg, hb⟩; have HG := Aside0.mk hg; have HB := Aside0.mk hb; clear hg hb))
  obtain ⟨mb, hBg, hBm, hgm⟩ := gateM_of HG.out
  obtain ⟨b, hbe⟩ : ∃ b, w1.heap.size = b := ⟨_, rfl⟩
  have hgb : g < b := by rw [← hbe]; exact blk_lt hgm.2.1
  have hmb : mb < b := by rw [← hbe]; exact hgm.2.2.lt
  have hB0 : w.heap.size ≤ b := by omega
  have HI0 := Aside0.mk (show (w1.alloc (.cells (ins []) 36 (0, 0))).heap[b]? = some (.cells (ins []) 36 (0, 0)) by rw [← hbe]; exact (MapKept.heap_alloc w1 _).1)
  have HG0 := Aside0.mk (show GateM (w1.alloc (.cells (ins []) 36 (0, 0))) g mb 0 [] false from hgm.kept ((below_alloc (Below.refl _ w1) _).block g (by omega)) ((below_alloc (Below.refl _ w1) _).block mb (by omega)))
  have HB0 := Aside0.mk (show Below w.heap.size w (w1.alloc (.cells (ins []) 36 (0, 0))) from below_alloc HB.out _)
  rw [ins_nil] at HI0 HG0 HB0
  rw [hbe]
  have HX := Aside0.mk (And.intro hgb (And.intro hmb (And.intro hBg (And.intro hBm hB0))))
  clear hgm HG HB hbe hgb hmb hBg hBm hB0
  obtain ⟨W0, hW0⟩ : ∃ W0, W0 = (w1.alloc (.cells #[.bool false, .bool false, .bool false, .bool false, .bool false, .bool false, .bool false, .bool false, .bool false, .bool false, .bool false, .bool false, .bool false, .bool false, .bool false, .bool false] 36 (0, 0))) := ⟨_, rfl⟩
  rw [← hW0] at HI0 HG0 HB0
  rw [← hW0]
  clear hW0
  rw [← ins_nil] at HI0
  go_loopg [5, 6, 7] (min len 60) (fun kq v5 v6 v7 w' => ∃ (i L : Nat) (S : List Int) (c : Bool), v7 = .int .i64 (i : Int) ∧ v5 = .int .i64 (L : Int) ∧ v6 = .bool c ∧ Aside0 (S.length = L ∧ L ≤ i ∧ i ≤ 60 ∧ ∀ x ∈ S, 0 ≤ x) ∧ Aside0 (i + kq = min len 60) ∧ Aside0 (GateM w' g mb i S c) ∧ Aside0 (w'.heap[b]? = some (.cells (ins S) 36 (0, 0))) ∧ Aside0 (Below w.heap.size w w'))
  case atStart => exact ⟨0, 0, [], false, rfl, rfl, rfl, ⟨rfl, Nat.le_refl _, by omega, fun x h => by cases h⟩, ⟨by omega⟩, HG0, HI0, HB0⟩
  case round =>
    clear HG0 HI0 HB0
    obtain ⟨i, L, S, c, rfl, rfl, rfl, HSL, HI, HG, HA, HB⟩ := hrel
    cases gk with
    | succ k1 =>
      have hlt1 : (i : Int) < (len : Int) := by have := HI.out; omega
      have hlt2 : (i : Int) < 60 := by have := HI.out; omega
      obtain ⟨ad, ead, hcell⟩ := HC.out i (by omega)
      cases ead
      replace hcell := (HB.out.cell (World.block_lt_of_cell? w _ hcell)).trans hcell
      obtain ⟨z, hz⟩ : ∃ z, rd zs i = z := ⟨_, rfl⟩
      rw [hz] at hcell
      obtain ⟨y, hy⟩ : ∃ y : Int, bits .and .i64 z 15 = y := ⟨_, rfl⟩
      have hy0 : 0 ≤ y := by rw [← hy, and15]; omega
      have hy1 : y < 16 := by rw [← hy, and15]; omega
      clear hz
      have hi1000 : i < 1000 := by omega
      have HLEN := Aside0.mk (show ((S.length : Nat) : Int) = (L : Int) by have := HSL.out; omega)
      have hL0 : (L : Int) < 100 := by have := HSL.out; omega
      obtain ⟨t, ht⟩ : ∃ t : Int, bits .and .i64 (z / 16) 7 = t := ⟨_, rfl⟩
      have ht8 : (t = 0 ∨ t = 1 ∨ t = 2 ∨ t = 3) ∨ (t = 4 ∨ t = 5 ∨ t = 6) ∨ t = 7 := by rw [← ht, and7]; omega
      have hyc : y = 0 ∨ 1 ≤ y := by omega
      rcases hyc with hyz | hy2
      · subst hyz
        clear hy0 hy1
        have hnm : (-1 : Int) ∉ S := fun h => by have := (HSL.out.2.2.2 _ h); omega
        have HNM := Aside0.mk hnm
        clear hnm
        rcases ht8 with ht8 | ht8 | ht8
        · cases c with
          | true =>
            rcases ht8 with rfl | rfl | rfl | rfl
            all_goals
              go_wp2_with (first | (go_at_call 19; (with_reducible refine (enter1 HG.out hi1000).mono ?_); rintro e w3 ⟨rfl, hg2, ho⟩; have n1 := Aside0.mk hg2; have n3 := Aside0.mk ((ho.block b (by have := HX.out; omega) (by have := HX.out; omega)).trans HA.out); have n2 := Aside0.mk (HB.out.trans (ho.below HX.out.2.2.1 HX.out.2.2.2.1)); clear HG HA HB hg2 ho; have HG := n1; have HA := n3; have HB := n2; clear n1 n2 n3) | (go_at_call 24; (with_reducible refine (lenM HG.out ((L : Int)) HLEN.out).mono ?_); rintro e w4 ⟨rfl, rfl⟩) | (go_at_call 22; (with_reducible refine (doneT HG.out ((L : Int)) HLEN.out).mono ?_); rintro e w5 ⟨rfl, rfl⟩))
              go_roundg k1
              case measure => omega
              case rel => exact ⟨i + 1, L, S, true, by go_num, rfl, rfl, ⟨⟨HSL.out.1, by have := HSL.out.2.1; omega, by omega, HSL.out.2.2.2⟩⟩, ⟨by have := HI.out; omega⟩, HG, HA, HB⟩
          | false =>
            rcases ht8 with rfl | rfl | rfl | rfl
            all_goals
              go_wp2_with (first | (go_at_call 19; (with_reducible refine (enter1 HG.out hi1000).mono ?_); rintro e w3 ⟨rfl, hg2, ho⟩; have n1 := Aside0.mk hg2; have n3 := Aside0.mk ((ho.block b (by have := HX.out; omega) (by have := HX.out; omega)).trans HA.out); have n2 := Aside0.mk (HB.out.trans (ho.below HX.out.2.2.1 HX.out.2.2.2.1)); clear HG HA HB hg2 ho; have HG := n1; have HA := n3; have HB := n2; clear n1 n2 n3) | (go_at_call 24; (with_reducible refine (lenM HG.out ((L : Int)) HLEN.out).mono ?_); rintro e w4 ⟨rfl, rfl⟩) | (go_at_call 22; (with_reducible refine (doneF HG.out).mono ?_); rintro e w5 ⟨rfl, rfl⟩))
              go_roundg k1
              case measure => omega
              case rel => exact ⟨i + 1, L, S, false, by go_num, rfl, rfl, ⟨⟨HSL.out.1, by have := HSL.out.2.1; omega, by omega, HSL.out.2.2.2⟩⟩, ⟨by have := HI.out; omega⟩, HG, HA, HB⟩
        · cases c with
          | true =>
            rcases ht8 with rfl | rfl | rfl
            all_goals
              go_wp2_with (first | (go_at_call 21; (with_reducible refine (leave3 HG.out hi1000 (-1) (by omega) (by omega) HNM.out).mono ?_); rintro e w3 ⟨rfl, hg2, ho⟩; have n1 := Aside0.mk hg2; have n3 := Aside0.mk ((ho.block b (by have := HX.out; omega) (by have := HX.out; omega)).trans HA.out); have n2 := Aside0.mk (HB.out.trans (ho.below HX.out.2.2.1 HX.out.2.2.2.1)); clear HG HA HB hg2 ho; have HG := n1; have HA := n3; have HB := n2; clear n1 n2 n3) | (go_at_call 24; (with_reducible refine (lenM HG.out ((L : Int)) HLEN.out).mono ?_); rintro e w4 ⟨rfl, rfl⟩) | (go_at_call 22; (with_reducible refine (doneT HG.out ((L : Int)) HLEN.out).mono ?_); rintro e w5 ⟨rfl, rfl⟩))
              go_roundg k1
              case measure => omega
              case rel => exact ⟨i + 1, L, S, true, by go_num, rfl, rfl, ⟨⟨HSL.out.1, by have := HSL.out.2.1; omega, by omega, HSL.out.2.2.2⟩⟩, ⟨by have := HI.out; omega⟩, HG, HA, HB⟩
          | false =>
            rcases ht8 with rfl | rfl | rfl
            all_goals
              go_wp2_with (first | (go_at_call 21; (with_reducible refine (leave3 HG.out hi1000 (-1) (by omega) (by omega) HNM.out).mono ?_); rintro e w3 ⟨rfl, hg2, ho⟩; have n1 := Aside0.mk hg2; have n3 := Aside0.mk ((ho.block b (by have := HX.out; omega) (by have := HX.out; omega)).trans HA.out); have n2 := Aside0.mk (HB.out.trans (ho.below HX.out.2.2.1 HX.out.2.2.2.1)); clear HG HA HB hg2 ho; have HG := n1; have HA := n3; have HB := n2; clear n1 n2 n3) | (go_at_call 24; (with_reducible refine (lenM HG.out ((L : Int)) HLEN.out).mono ?_); rintro e w4 ⟨rfl, rfl⟩) | (go_at_call 22; (with_reducible refine (doneF HG.out).mono ?_); rintro e w5 ⟨rfl, rfl⟩))
              go_roundg k1
              case measure => omega
              case rel => exact ⟨i + 1, L, S, false, by go_num, rfl, rfl, ⟨⟨HSL.out.1, by have := HSL.out.2.1; omega, by omega, HSL.out.2.2.2⟩⟩, ⟨by have := HI.out; omega⟩, HG, HA, HB⟩
        · subst ht8
          go_wp2_with (first | (go_at_call 20; (with_reducible refine (closeU HG.out hi1000).mono ?_); rintro e w3 ⟨rfl, hg2, ho⟩; have n1 := Aside0.mk hg2; have n3 := Aside0.mk ((ho.block b (by have := HX.out; omega) (by have := HX.out; omega)).trans HA.out); have n2 := Aside0.mk (HB.out.trans (ho.below HX.out.2.2.1 HX.out.2.2.2.1)); clear HG HA HB hg2 ho; have HG := n1; have HA := n3; have HB := n2; clear n1 n2 n3) | (go_at_call 24; (with_reducible refine (lenM HG.out ((L : Int)) HLEN.out).mono ?_); rintro e w4 ⟨rfl, rfl⟩) | (go_at_call 22; (with_reducible refine (doneT HG.out ((L : Int)) HLEN.out).mono ?_); rintro e w5 ⟨rfl, rfl⟩))
          go_roundg k1
          case measure => omega
          case rel => exact ⟨i + 1, L, S, true, by go_num, rfl, rfl, ⟨⟨HSL.out.1, by have := HSL.out.2.1; omega, by omega, HSL.out.2.2.2⟩⟩, ⟨by have := HI.out; omega⟩, HG, HA, HB⟩
      · obtain ⟨q, hq⟩ : ∃ q : Nat, y.toNat - 1 = q := ⟨_, rfl⟩
        have hqy : (q : Int) = y - 1 := by omega
        have hq16 : q < 16 := by omega
        have hq15 : q < 15 := by omega
        have hcb : wr.cell? ⟨b, q, none⟩ = some (.bool (decide ((q : Int) ∈ S))) := by rw [blk_cell HA.out]; exact ins_get S q hq16
        have hfb : wr.frozen? ⟨b, q, none⟩ = false := blk_frozen HA.out q
        rw [hqy] at hcb
        have hcb' : wr.cell? ⟨b, y.toNat - 1, none⟩ = some (.bool (decide ((y - 1) ∈ S))) := by rw [hq]; exact hcb
        have hfb' : wr.frozen? ⟨b, y.toNat - 1, none⟩ = false := by rw [hq]; exact hfb
        have HQ := Aside0.mk (And.intro hq (And.intro hqy hq15))
        clear hcb hfb hq hqy hq16 hq15
        have hyn : ¬ (y - 1 < 0) := by omega
        have hyp : 0 ≤ y - 1 := by omega
        by_cases hm : (y - 1) ∈ S
        · have HM := Aside0.mk hm
          have hL1 : (1 : Int) ≤ (L : Int) := by have := HSL.out.1; have := List.length_pos_of_mem hm; omega
          rw [decide_eq_true hm] at hcb'
          clear hm
          rcases ht8 with ht8 | ht8 | ht8
          · cases c with
            | true =>
              rcases ht8 with rfl | rfl | rfl | rfl
              all_goals
                go_wp2_with (first | (go_at_call 19; (with_reducible refine (enter9 HG.out hi1000 (y - 1) (by omega) (by omega)).mono ?_); rintro e w3 ⟨rfl, hg2, ho⟩; have n1 := Aside0.mk hg2; have n3 := Aside0.mk ((ho.block b (by have := HX.out; omega) (by have := HX.out; omega)).trans HA.out); have n2 := Aside0.mk (HB.out.trans (ho.below HX.out.2.2.1 HX.out.2.2.2.1)); clear HG HA HB hg2 ho; have HG := n1; have HA := n3; have HB := n2; clear n1 n2 n3) | (go_at_call 24; (with_reducible refine (lenM HG.out ((L : Int)) HLEN.out).mono ?_); rintro e w4 ⟨rfl, rfl⟩) | (go_at_call 22; (with_reducible refine (doneT HG.out ((L : Int)) HLEN.out).mono ?_); rintro e w5 ⟨rfl, rfl⟩))
                go_roundg k1
                case measure => omega
                case rel => exact ⟨i + 1, L, S, true, by go_num, rfl, rfl, ⟨⟨HSL.out.1, by have := HSL.out.2.1; omega, by omega, HSL.out.2.2.2⟩⟩, ⟨by have := HI.out; omega⟩, HG, HA, HB⟩
            | false =>
              rcases ht8 with rfl | rfl | rfl | rfl
              all_goals
                go_wp2_with (first | (go_at_call 19; (with_reducible refine (enter4 HG.out hi1000 (y - 1) (by omega) (by omega) HM.out).mono ?_); rintro e w3 ⟨rfl, hg2, ho⟩; have n1 := Aside0.mk hg2; have n3 := Aside0.mk ((ho.block b (by have := HX.out; omega) (by have := HX.out; omega)).trans HA.out); have n2 := Aside0.mk (HB.out.trans (ho.below HX.out.2.2.1 HX.out.2.2.2.1)); clear HG HA HB hg2 ho; have HG := n1; have HA := n3; have HB := n2; clear n1 n2 n3) | (go_at_call 24; (with_reducible refine (lenM HG.out ((L : Int)) HLEN.out).mono ?_); rintro e w4 ⟨rfl, rfl⟩) | (go_at_call 22; (with_reducible refine (doneF HG.out).mono ?_); rintro e w5 ⟨rfl, rfl⟩))
                go_roundg k1
                case measure => omega
                case rel => exact ⟨i + 1, L, S, false, by go_num, rfl, rfl, ⟨⟨HSL.out.1, by have := HSL.out.2.1; omega, by omega, HSL.out.2.2.2⟩⟩, ⟨by have := HI.out; omega⟩, HG, HA, HB⟩
          · have HLEN := Aside0.mk (show (((S.erase (y - 1)).length : Nat) : Int) = (L : Int) - 1 by rw [List.length_erase_of_mem HM.out]; have := HSL.out; omega)
            cases c with
            | true =>
              rcases ht8 with rfl | rfl | rfl
              all_goals
                go_wp2_with (first | (go_at_call 21; have HA1 := Aside0.mk (show (wr.setCell ⟨b, y.toNat - 1, none⟩ (.bool false)).heap[b]? = some (.cells (ins (S.erase (y - 1))) 36 (0, 0)) by rw [blk_set HA.out, HQ.out.1, ins_erase S (gateM_nodup HG.out) q (by have := HQ.out.2.2; omega), HQ.out.2.1]); have HG1 := Aside0.mk (show GateM (wr.setCell ⟨b, y.toNat - 1, none⟩ (.bool false)) g mb i S true from HG.out.kept (Below.heap_setCell _ _ _ _ (by have := HX.out; show g ≠ b; omega)) (Below.heap_setCell _ _ _ _ (by have := HX.out; show mb ≠ b; omega))); have HB1 := Aside0.mk (show Below w.heap.size w (wr.setCell ⟨b, y.toNat - 1, none⟩ (.bool false)) from HB.out.setCell (by have := HX.out; show w.heap.size ≤ b; omega) _); clear HA HG HB; have HA := HA1; have HG := HG1; have HB := HB1; clear HA1 HG1 HB1; (with_reducible refine (leave0 HG.out hi1000 (y - 1) (by omega) (by omega) HM.out).mono ?_); rintro e w3 ⟨rfl, hg2, ho⟩; have n1 := Aside0.mk hg2; have n3 := Aside0.mk ((ho.block b (by have := HX.out; omega) (by have := HX.out; omega)).trans HA.out); have n2 := Aside0.mk (HB.out.trans (ho.below HX.out.2.2.1 HX.out.2.2.2.1)); clear HG HA HB hg2 ho; have HG := n1; have HA := n3; have HB := n2; clear n1 n2 n3) | (go_at_call 24; (with_reducible refine (lenM HG.out ((L : Int) - 1) HLEN.out).mono ?_); rintro e w4 ⟨rfl, rfl⟩) | (go_at_call 22; (with_reducible refine (doneT HG.out ((L : Int) - 1) HLEN.out).mono ?_); rintro e w5 ⟨rfl, rfl⟩))
                go_roundg k1
                case measure => omega
                case rel => refine ⟨i + 1, L - 1, S.erase (y - 1), true, by go_num, by rw [show ((L - 1 : Nat) : Int) = (L : Int) - 1 by omega], rfl, ⟨?_⟩, ⟨by have := HI.out; omega⟩, HG, HA, HB⟩; exact ⟨by have := HLEN.out; have := HSL.out.1; omega, by have := HSL.out.2.1; omega, by omega, fun x hx => HSL.out.2.2.2 x (List.mem_of_mem_erase hx)⟩
            | false =>
              rcases ht8 with rfl | rfl | rfl
              all_goals
                go_wp2_with (first | (go_at_call 21; have HA1 := Aside0.mk (show (wr.setCell ⟨b, y.toNat - 1, none⟩ (.bool false)).heap[b]? = some (.cells (ins (S.erase (y - 1))) 36 (0, 0)) by rw [blk_set HA.out, HQ.out.1, ins_erase S (gateM_nodup HG.out) q (by have := HQ.out.2.2; omega), HQ.out.2.1]); have HG1 := Aside0.mk (show GateM (wr.setCell ⟨b, y.toNat - 1, none⟩ (.bool false)) g mb i S false from HG.out.kept (Below.heap_setCell _ _ _ _ (by have := HX.out; show g ≠ b; omega)) (Below.heap_setCell _ _ _ _ (by have := HX.out; show mb ≠ b; omega))); have HB1 := Aside0.mk (show Below w.heap.size w (wr.setCell ⟨b, y.toNat - 1, none⟩ (.bool false)) from HB.out.setCell (by have := HX.out; show w.heap.size ≤ b; omega) _); clear HA HG HB; have HA := HA1; have HG := HG1; have HB := HB1; clear HA1 HG1 HB1; (with_reducible refine (leave0 HG.out hi1000 (y - 1) (by omega) (by omega) HM.out).mono ?_); rintro e w3 ⟨rfl, hg2, ho⟩; have n1 := Aside0.mk hg2; have n3 := Aside0.mk ((ho.block b (by have := HX.out; omega) (by have := HX.out; omega)).trans HA.out); have n2 := Aside0.mk (HB.out.trans (ho.below HX.out.2.2.1 HX.out.2.2.2.1)); clear HG HA HB hg2 ho; have HG := n1; have HA := n3; have HB := n2; clear n1 n2 n3) | (go_at_call 24; (with_reducible refine (lenM HG.out ((L : Int) - 1) HLEN.out).mono ?_); rintro e w4 ⟨rfl, rfl⟩) | (go_at_call 22; (with_reducible refine (doneF HG.out).mono ?_); rintro e w5 ⟨rfl, rfl⟩))
                go_roundg k1
                case measure => omega
                case rel => refine ⟨i + 1, L - 1, S.erase (y - 1), false, by go_num, by rw [show ((L - 1 : Nat) : Int) = (L : Int) - 1 by omega], rfl, ⟨?_⟩, ⟨by have := HI.out; omega⟩, HG, HA, HB⟩; exact ⟨by have := HLEN.out; have := HSL.out.1; omega, by have := HSL.out.2.1; omega, by omega, fun x hx => HSL.out.2.2.2 x (List.mem_of_mem_erase hx)⟩
          · subst ht8
            go_wp2_with (first | (go_at_call 20; (with_reducible refine (closeU HG.out hi1000).mono ?_); rintro e w3 ⟨rfl, hg2, ho⟩; have n1 := Aside0.mk hg2; have n3 := Aside0.mk ((ho.block b (by have := HX.out; omega) (by have := HX.out; omega)).trans HA.out); have n2 := Aside0.mk (HB.out.trans (ho.below HX.out.2.2.1 HX.out.2.2.2.1)); clear HG HA HB hg2 ho; have HG := n1; have HA := n3; have HB := n2; clear n1 n2 n3) | (go_at_call 24; (with_reducible refine (lenM HG.out ((L : Int)) HLEN.out).mono ?_); rintro e w4 ⟨rfl, rfl⟩) | (go_at_call 22; (with_reducible refine (doneT HG.out ((L : Int)) HLEN.out).mono ?_); rintro e w5 ⟨rfl, rfl⟩))
            go_roundg k1
            case measure => omega
            case rel => exact ⟨i + 1, L, S, true, by go_num, rfl, rfl, ⟨⟨HSL.out.1, by have := HSL.out.2.1; omega, by omega, HSL.out.2.2.2⟩⟩, ⟨by have := HI.out; omega⟩, HG, HA, HB⟩
        · have HM := Aside0.mk hm
          rw [decide_eq_false hm] at hcb'
          clear hm
          rcases ht8 with ht8 | ht8 | ht8
          · cases c with
            | true =>
              rcases ht8 with rfl | rfl | rfl | rfl
              all_goals
                go_wp2_with (first | (go_at_call 19; (with_reducible refine (enter9 HG.out hi1000 (y - 1) (by omega) (by omega)).mono ?_); rintro e w3 ⟨rfl, hg2, ho⟩; have n1 := Aside0.mk hg2; have n3 := Aside0.mk ((ho.block b (by have := HX.out; omega) (by have := HX.out; omega)).trans HA.out); have n2 := Aside0.mk (HB.out.trans (ho.below HX.out.2.2.1 HX.out.2.2.2.1)); clear HG HA HB hg2 ho; have HG := n1; have HA := n3; have HB := n2; clear n1 n2 n3) | (go_at_call 24; (with_reducible refine (lenM HG.out ((L : Int)) HLEN.out).mono ?_); rintro e w4 ⟨rfl, rfl⟩) | (go_at_call 22; (with_reducible refine (doneT HG.out ((L : Int)) HLEN.out).mono ?_); rintro e w5 ⟨rfl, rfl⟩))
                go_roundg k1
                case measure => omega
                case rel => exact ⟨i + 1, L, S, true, by go_num, rfl, rfl, ⟨⟨HSL.out.1, by have := HSL.out.2.1; omega, by omega, HSL.out.2.2.2⟩⟩, ⟨by have := HI.out; omega⟩, HG, HA, HB⟩
            | false =>
              have HLEN := Aside0.mk (show ((((y - 1) :: S).length : Nat) : Int) = (L : Int) + 1 by have := HSL.out; simp; omega)
              rcases ht8 with rfl | rfl | rfl | rfl
              all_goals
                go_wp2_with (first | (go_at_call 19; have HA1 := Aside0.mk (show (wr.setCell ⟨b, y.toNat - 1, none⟩ (.bool true)).heap[b]? = some (.cells (ins ((y - 1) :: S)) 36 (0, 0)) by rw [blk_set HA.out, HQ.out.1, ins_cons S q (by have := HQ.out.2.2; omega), HQ.out.2.1]); have HG1 := Aside0.mk (show GateM (wr.setCell ⟨b, y.toNat - 1, none⟩ (.bool true)) g mb i S false from HG.out.kept (Below.heap_setCell _ _ _ _ (by have := HX.out; show g ≠ b; omega)) (Below.heap_setCell _ _ _ _ (by have := HX.out; show mb ≠ b; omega))); have HB1 := Aside0.mk (show Below w.heap.size w (wr.setCell ⟨b, y.toNat - 1, none⟩ (.bool true)) from HB.out.setCell (by have := HX.out; show w.heap.size ≤ b; omega) _); clear HA HG HB; have HA := HA1; have HG := HG1; have HB := HB1; clear HA1 HG1 HB1; (with_reducible refine (enter0 HG.out hi1000 (y - 1) (by omega) (by omega) HM.out).mono ?_); rintro e w3 ⟨rfl, hg2, ho⟩; have n1 := Aside0.mk hg2; have n3 := Aside0.mk ((ho.block b (by have := HX.out; omega) (by have := HX.out; omega)).trans HA.out); have n2 := Aside0.mk (HB.out.trans (ho.below HX.out.2.2.1 HX.out.2.2.2.1)); clear HG HA HB hg2 ho; have HG := n1; have HA := n3; have HB := n2; clear n1 n2 n3) | (go_at_call 24; (with_reducible refine (lenM HG.out ((L : Int) + 1) HLEN.out).mono ?_); rintro e w4 ⟨rfl, rfl⟩) | (go_at_call 22; (with_reducible refine (doneF HG.out).mono ?_); rintro e w5 ⟨rfl, rfl⟩))
                go_roundg k1
                case measure => omega
                case rel => refine ⟨i + 1, L + 1, (y - 1) :: S, false, by go_num, by go_num, rfl, ⟨?_⟩, ⟨by have := HI.out; omega⟩, HG, HA, HB⟩; exact ⟨by have := HSL.out.1; simp; omega, by have := HSL.out.2.1; omega, by omega, fun x hx => (List.mem_cons.1 hx).elim (fun h => by omega) (fun h => HSL.out.2.2.2 x h)⟩
          · cases c with
            | true =>
              rcases ht8 with rfl | rfl | rfl
              all_goals
                go_wp2_with (first | (go_at_call 21; (with_reducible refine (leave3 HG.out hi1000 (y - 1) (by omega) (by omega) HM.out).mono ?_); rintro e w3 ⟨rfl, hg2, ho⟩; have n1 := Aside0.mk hg2; have n3 := Aside0.mk ((ho.block b (by have := HX.out; omega) (by have := HX.out; omega)).trans HA.out); have n2 := Aside0.mk (HB.out.trans (ho.below HX.out.2.2.1 HX.out.2.2.2.1)); clear HG HA HB hg2 ho; have HG := n1; have HA := n3; have HB := n2; clear n1 n2 n3) | (go_at_call 24; (with_reducible refine (lenM HG.out ((L : Int)) HLEN.out).mono ?_); rintro e w4 ⟨rfl, rfl⟩) | (go_at_call 22; (with_reducible refine (doneT HG.out ((L : Int)) HLEN.out).mono ?_); rintro e w5 ⟨rfl, rfl⟩))
                go_roundg k1
                case measure => omega
                case rel => exact ⟨i + 1, L, S, true, by go_num, rfl, rfl, ⟨⟨HSL.out.1, by have := HSL.out.2.1; omega, by omega, HSL.out.2.2.2⟩⟩, ⟨by have := HI.out; omega⟩, HG, HA, HB⟩
            | false =>
              rcases ht8 with rfl | rfl | rfl
              all_goals
                go_wp2_with (first | (go_at_call 21; (with_reducible refine (leave3 HG.out hi1000 (y - 1) (by omega) (by omega) HM.out).mono ?_); rintro e w3 ⟨rfl, hg2, ho⟩; have n1 := Aside0.mk hg2; have n3 := Aside0.mk ((ho.block b (by have := HX.out; omega) (by have := HX.out; omega)).trans HA.out); have n2 := Aside0.mk (HB.out.trans (ho.below HX.out.2.2.1 HX.out.2.2.2.1)); clear HG HA HB hg2 ho; have HG := n1; have HA := n3; have HB := n2; clear n1 n2 n3) | (go_at_call 24; (with_reducible refine (lenM HG.out ((L : Int)) HLEN.out).mono ?_); rintro e w4 ⟨rfl, rfl⟩) | (go_at_call 22; (with_reducible refine (doneF HG.out).mono ?_); rintro e w5 ⟨rfl, rfl⟩))
                go_roundg k1
                case measure => omega
                case rel => exact ⟨i + 1, L, S, false, by go_num, rfl, rfl, ⟨⟨HSL.out.1, by have := HSL.out.2.1; omega, by omega, HSL.out.2.2.2⟩⟩, ⟨by have := HI.out; omega⟩, HG, HA, HB⟩
          · subst ht8
            go_wp2_with (first | (go_at_call 20; (with_reducible refine (closeU HG.out hi1000).mono ?_); rintro e w3 ⟨rfl, hg2, ho⟩; have n1 := Aside0.mk hg2; have n3 := Aside0.mk ((ho.block b (by have := HX.out; omega) (by have := HX.out; omega)).trans HA.out); have n2 := Aside0.mk (HB.out.trans (ho.below HX.out.2.2.1 HX.out.2.2.2.1)); clear HG HA HB hg2 ho; have HG := n1; have HA := n3; have HB := n2; clear n1 n2 n3) | (go_at_call 24; (with_reducible refine (lenM HG.out ((L : Int)) HLEN.out).mono ?_); rintro e w4 ⟨rfl, rfl⟩) | (go_at_call 22; (with_reducible refine (doneT HG.out ((L : Int)) HLEN.out).mono ?_); rintro e w5 ⟨rfl, rfl⟩))
            go_roundg k1
            case measure => omega
            case rel => exact ⟨i + 1, L, S, true, by go_num, rfl, rfl, ⟨⟨HSL.out.1, by have := HSL.out.2.1; omega, by omega, HSL.out.2.2.2⟩⟩, ⟨by have := HI.out; omega⟩, HG, HA, HB⟩
    | zero =>
      have hor : ((i : Int) < (len : Int) ∧ ¬ (i : Int) < 60) ∨ ¬ (i : Int) < (len : Int) := by have := HI.out; omega
      clear HI HSL HA HG HX
      rcases hor with ⟨hge1, hge2⟩ | hge
      all_goals
        go_wp2_with (first | (go_at_call 20; (with_reducible refine (close_nil _).mono ?_); rintro e w3 ⟨rfl, rfl⟩) | (go_at_call 23; (with_reducible refine (awake_ok _).mono ?_); rintro e w4 ⟨rfl, hb2⟩; have HZ1 := Aside0.mk (pw_cell_below hb2 (show (wr.alloc (.cells #[.map none, .bool false] 41 (0, 0))).cell? ⟨wr.heap.size, 0, none⟩ = some (.map none) by rw [blk_cell (MapKept.heap_alloc wr _).1]; rfl)); have n2 := Aside0.mk (below_step (below_alloc HB.out _) hb2); clear HB hb2; have HB := n2; clear n2) | (go_at_call 19; (with_reducible refine (enter_nil 1 _).mono ?_); rintro e w5 ⟨rfl, rfl⟩) | (go_at_call 19; (with_reducible refine (enter_zero _ 1 _ HZ1.out).mono ?_); rintro e w6 ⟨rfl, rfl⟩) | (go_at_call 21; (with_reducible refine (leave_nil 1 _).mono ?_); rintro e w7 ⟨rfl, rfl⟩) | (go_at_call 24; (with_reducible refine (GateB.len_nil _).mono ?_); rintro e w8 ⟨rfl, rfl⟩) | (go_at_call 22; (with_reducible refine (done_nil _).mono ?_); rintro e w9 ⟨rfl, rfl⟩))
        go_ret
        exact ⟨rfl, HB.out⟩
end Go.Proofs.Ytmknlojgjlpgfaa.GateE
