/- Package text: a byte, two bytes, a text between marks. -/
import Derived.Test.YtmknlojgjlpgfaaTextB
namespace Go.Proofs.Ytmknlojgjlpgfaa.TextC
open Go.RowKit Go.Proofs.YtmknlojgjlpgfaaW.PrintWords Go.Proofs.YtmknlojgjlpgfaaW.PrintLast Go.Proofs.YtmknlojgjlpgfaaW.PrintMore Go.Proofs.Ytmknlojgjlpgfaa.TextA Go.Proofs.Ytmknlojgjlpgfaa.TextB
attribute [local go_sem ↓] Go.wp_at_zero Go.wp_at_succ
set_option linter.unusedVariables false
set_option linter.unusedSimpArgs false

set_option maxRecDepth 100000 in
theorem run_nil (A : Option Addr) (n cap : Nat) (w : World) : Calls Try.prog 41 #[.pointer none, .slice A n cap] w fun e w' => e = .returned (.string ⟨#[]⟩) ∧ w' = w := by
  go_enter Try.func41, Try.ntmps41
  go_wp2_with (first | (go_at_call 42; refine (at_nil _).mono ?_; rintro e w' ⟨rfl, hq⟩; subst w'))
  go_loopg [] 1 (fun kq w' => Aside0 (w' = w))
  case atStart => exact ⟨rfl⟩
  case round =>
    have hw := hrel.out
    subst hw
    go_wp2_with (first | (go_at_call 43; refine (left_nil _).mono ?_; rintro e w' ⟨rfl, hq⟩; subst w'))
    go_ret
    exact ⟨rfl, rfl⟩

set_option maxRecDepth 100000 in
theorem byte_nil (w : World) : Calls Try.prog 40 #[.pointer none] w fun e w' => e = .returned (.int .u8 0) ∧ w' = w := by
  go_enter Try.func40, Try.ntmps40
  go_wp2_with (first | (go_at_call 43; refine (left_nil _).mono ?_; rintro e w' ⟨rfl, hq⟩; subst w'))
  go_ret
  exact ⟨rfl, rfl⟩

/-- What is there of a byte that is taken. -/
def BytePost (w : World) (r : Nat) (s : ByteArray) (v : Int) (j : Nat) (e : Ending) (w' : World) : Prop :=
  e = .returned (.int .u8 v) ∧ IsT w' r s j ∧ Only r w w'

set_option maxRecDepth 100000 in
theorem byte_end {w : World} {r : Nat} {s : ByteArray} {k : Nat} (h : IsT w r s k) (hk : k = s.size) (hs : s.size ≤ maxLen) : Calls Try.prog 40 #[.pointer (some ⟨r, 0, none⟩)] w (BytePost w r s 0 k) := by
  have e0 : (s.size : Int) - (k : Int) = 0 := by omega
  have H := Aside0.mk (left_calls h (by omega) hs)
  have HT := Aside0.mk h
  rw [e0] at H
  clear e0 hk hs h
  go_enter Try.func40, Try.ntmps40
  go_wp2_with (first | (go_at_call 43; refine H.out.mono ?_; rintro e w1 ⟨rfl, n, hq⟩; have HT1 := Aside0.mk (HT.out.drewN hq); have HO1 := Aside0.mk ((Only.refl r w).drewN hq); clear hq))
  go_ret
  exact ⟨rfl, HT1.out, HO1.out⟩

set_option maxRecDepth 100000 in
theorem byte_at {w : World} {r : Nat} {s : ByteArray} {k : Nat} (h : IsT w r s k) (hk : k < s.size) (hs : s.size ≤ maxLen) : Calls Try.prog 40 #[.pointer (some ⟨r, 0, none⟩)] w (BytePost w r s (byte s k) (k + 1)) := by
  have h0 : (0 : Int) < (s.size : Int) - (k : Int) := by omega
  have H := Aside0.mk (left_calls h (by omega) hs)
  have HT := Aside0.mk h
  unfold maxLen at hs
  clear h
  go_enter Try.func40, Try.ntmps40
  go_wp2_with (first | (go_at_call 43; refine H.out.mono ?_; rintro e w1 ⟨rfl, n, hq⟩; have HT1 := Aside0.mk (HT.out.drewN hq); have HO1 := Aside0.mk ((Only.refl r w).drewN hq); clear hq; obtain ⟨t0, t1, t2⟩ := HT1.out.cells))
  have HT2 := Aside0.mk (HT1.out.set (k + 1))
  have HO2 := Aside0.mk (HO1.out.set 1 (.int .i64 ((k + 1 : Nat) : Int)))
  have ek : (((k + 1 : Nat) : Int)) = (k : Int) + 1 := by omega
  rw [ek] at HT2 HO2
  obtain ⟨w2, hw2⟩ : ∃ w2, w2 = w1.setCell ⟨r, 1, none⟩ (.int .i64 ((k : Int) + 1)) := ⟨_, rfl⟩
  rw [← hw2] at HT2 HO2 ⊢
  clear hw2 t0 t1 t2 ek
  obtain ⟨t0, t1, t2⟩ := HT2.out.cells
  go_quiet (fail)
  go_wp2
  go_ret
  refine ⟨?_, HT2.out.drewN rfl, HO2.out.drewN rfl⟩
  rw [byte_eq hk]
  rfl

/-- A text's reader is where it was, orders drawn. -/
def Still (v : Value) (w : World) (e : Ending) (w' : World) : Prop := e = .returned v ∧ ∃ n, w' = w.drewN n

set_option maxRecDepth 100000 in
theorem two_nil (w : World) (x y : UInt8) : Calls Try.prog 46 #[.pointer none, .string ⟨#[x, y]⟩] w (Still (.bool false) w) := by
  go_enter Try.func46, Try.ntmps46
  go_wp2_with (fail)
  go_quiet ((go_at_call 43; exact Calls.quiet_of_same (left_nil _)))
  go_wp2
  go_ret
  exact ⟨rfl, _, rfl⟩

set_option maxRecDepth 100000 in
theorem two_three {w : World} {r : Nat} (x y z : UInt8) : Calls Try.prog 46 #[.pointer (some ⟨r, 0, none⟩), .string ⟨#[x, y, z]⟩] w (Still (.bool false) w) := by
  go_enter Try.func46, Try.ntmps46
  go_wp2_with (fail)
  go_quiet (fail)
  go_wp2
  go_ret
  exact ⟨rfl, _, rfl⟩

set_option maxRecDepth 100000 in
theorem two_no {w : World} {r : Nat} {s : ByteArray} {k : Nat} (x y : UInt8) (h : IsT w r s k) (hk : k + 2 ≤ s.size) (hs : s.size ≤ maxLen) (hne : ((s.extract k (k + 2)).toList == [x, y]) = false) :
    Calls Try.prog 46 #[.pointer (some ⟨r, 0, none⟩), .string ⟨#[x, y]⟩] w (Still (.bool false) w) := by
  have h0 : ¬ ((s.size : Int) - (k : Int) < 2) := by omega
  have h1 : (k : Int) + 2 ≤ (s.size : Int) := by omega
  have hl : ∀ W, IsT W r s k → Calls Try.prog 43 #[.pointer (some ⟨r, 0, none⟩)] W fun e w' => e = .returned (.int .i64 ((s.size : Int) - (k : Int))) ∧ ∃ n, w' = W.drewN n := fun W hW => left_calls hW (by omega) hs
  have HL := Aside0.mk hl
  have HT := Aside0.mk h
  unfold maxLen at hs
  obtain ⟨t0, t1, t2⟩ := h.cells
  have q0 : decide ((s.size : Int) - (k : Int) < 2) = false := by simp; omega
  have q1 : IntKind.i64.wrap ((k : Int) + 2) = (k : Int) + 2 := IntWalk.i64_in _ (by omega)
  have q2 : (0 : Int) ≤ (k : Int) + 2 := by omega
  have q3 : ((k : Int) + 2).toNat = k + 2 := by omega
  have q4 : (k : Int) ≤ (k : Int) + 2 := by omega
  clear hl h h0
  go_enter Try.func46, Try.ntmps46
  go_wp2_with (fail)
  go_quiet ((go_at_call 43; exact Calls.quiet_of (HL.out _ (HT.out.drewN rfl))))
  go_wp2
  go_ret
  exact ⟨rfl, _, rfl⟩

/-- What is there where two bytes were taken. -/
def TwoPost (w : World) (r : Nat) (s : ByteArray) (j : Nat) (e : Ending) (w' : World) : Prop :=
  e = .returned (.bool true) ∧ IsT w' r s j ∧ Only r w w'

set_option maxRecDepth 100000 in
theorem two_yes {w : World} {r : Nat} {s : ByteArray} {k : Nat} (x y : UInt8) (h : IsT w r s k) (hk : k + 2 ≤ s.size) (hs : s.size ≤ maxLen) (hne : ((s.extract k (k + 2)).toList == [x, y]) = true) :
    Calls Try.prog 46 #[.pointer (some ⟨r, 0, none⟩), .string ⟨#[x, y]⟩] w (TwoPost w r s (k + 2)) := by
  have h0 : ¬ ((s.size : Int) - (k : Int) < 2) := by omega
  have h1 : (k : Int) + 2 ≤ (s.size : Int) := by omega
  have hl : ∀ W, IsT W r s k → Calls Try.prog 43 #[.pointer (some ⟨r, 0, none⟩)] W fun e w' => e = .returned (.int .i64 ((s.size : Int) - (k : Int))) ∧ ∃ n, w' = W.drewN n := fun W hW => left_calls hW (by omega) hs
  have HL := Aside0.mk hl
  have HT := Aside0.mk h
  unfold maxLen at hs
  obtain ⟨t0, t1, t2⟩ := h.cells
  have q0 : decide ((s.size : Int) - (k : Int) < 2) = false := by simp; omega
  have q1 : IntKind.i64.wrap ((k : Int) + 2) = (k : Int) + 2 := IntWalk.i64_in _ (by omega)
  have q2 : (0 : Int) ≤ (k : Int) + 2 := by omega
  have q3 : ((k : Int) + 2).toNat = k + 2 := by omega
  have q4 : (k : Int) ≤ (k : Int) + 2 := by omega
  clear hl h h0
  go_enter Try.func46, Try.ntmps46
  go_wp2_with (fail)
  go_quiet ((go_at_call 43; exact Calls.quiet_of (HL.out _ (HT.out.drewN rfl))))
  go_wp2
  go_ret
  refine ⟨rfl, ?_, (Only.set ((Only.refl r w).drewN rfl) _ _)⟩
  have := (HT.out.drewN (n := nq) rfl).set (k + 2)
  have e : ((k + 2 : Nat) : Int) = (k : Int) + 2 := by omega
  rw [e] at this
  exact this

/-- Where a text between marks ends, from a place on. -/
def fin (s : ByteArray) : Nat → Nat → Option Nat
  | 0, _ => none
  | f + 1, i => if s.size ≤ i then none else if byte s i = 39 then (if i + 1 < s.size ∧ byte s (i + 1) = 39 then fin s f (i + 2) else some i) else fin s f (i + 1)

set_option maxRecDepth 100000 in
theorem quoted_nil (w : World) : Calls Try.prog 45 #[.pointer none] w fun e w' => e = .returned (.tuple #[.string ⟨#[]⟩, .bool false]) ∧ w' = w := by
  go_enter Try.func45, Try.ntmps45
  go_wp2_with (first | (go_at_call 44; refine (kind_nil _).mono ?_; rintro e w' ⟨rfl, hq⟩; subst w'))
  go_ret2
  exact ⟨rfl, rfl⟩

/-- What is there of a text between marks that was looked for: a = none: there was none. -/
def QuotedPost (w : World) (r : Nat) (s : ByteArray) (k : Nat) (a : Option Nat) (e : Ending) (w' : World) : Prop :=
  (match a with
  | none => e = .returned (.tuple #[.string ⟨#[]⟩, .bool false]) ∧ IsT w' r s k
  | some j => e = .returned (.tuple #[.string (s.extract k (j + 1)), .bool true]) ∧ IsT w' r s (j + 1)) ∧ Only r w w'

theorem found {w w1 : World} {r : Nat} {s : ByteArray} {k i : Nat} (h : Aside0 (IsT w1 r s k)) (ho : Aside0 (Only r w w1)) {n : Nat} :
    QuotedPost w r s k (some i) (.returned (.tuple #[.string (s.extract k (i + 1)), .bool true])) ((w1.drewN n).setCell ⟨r, 1, none⟩ (.int .i64 ((i : Int) + 1))) := by
  refine ⟨⟨rfl, ?_⟩, (ho.out.drewN rfl).set _ _⟩
  have := (h.out.drewN (n := n) rfl).set (i + 1)
  have e : ((i + 1 : Nat) : Int) = (i : Int) + 1 := by omega
  rw [e] at this
  exact this

set_option maxHeartbeats 2000000 in
set_option maxRecDepth 100000 in
theorem quoted_calls {w : World} {r : Nat} {s : ByteArray} {k : Nat} (h : IsT w r s k) (hk : k < s.size) (hs : s.size ≤ maxLen) (hq : cls (byte s k) = 5) :
    Calls Try.prog 45 #[.pointer (some ⟨r, 0, none⟩)] w (QuotedPost w r s k (fin s s.size (k + 1))) := by
  have HK := Aside0.mk (kind_at h hk hs)
  rw [hq] at HK
  have HT := Aside0.mk h
  have HX := Aside0.mk hk
  unfold maxLen at hs
  have q1 : (k : Int) + 1 ≤ (s.size : Int) := by omega
  clear hq h
  obtain ⟨a, ha⟩ : ∃ a, fin s s.size (k + 1) = a := ⟨_, rfl⟩
  have HA := Aside0.mk ha
  rw [ha]
  clear ha
  go_enter Try.func45, Try.ntmps45
  go_wp2_with (first | (go_at_call 44; refine HK.out.mono ?_; rintro e w1 ⟨rfl, n, hq⟩; have HT1 := Aside0.mk (HT.out.drewN hq); have HO1 := Aside0.mk ((Only.refl r w).drewN hq); clear hq; obtain ⟨t0, t1, t2⟩ := HT1.out.cells))
  have e1 : (k : Int) + 1 = ((k + 1 : Nat) : Int) := by omega
  rw [e1]
  clear e1 q1 HK HT
  go_loopg [4] s.size (fun kq v4 w' => ∃ i : Nat, v4 = .int .i64 (i : Int) ∧ Aside0 (fin s kq i = a) ∧ Aside0 (s.size ≤ i + kq ∧ i ≤ s.size ∧ k + 1 ≤ i) ∧ Aside0 (w' = w1))
  case atStart => exact ⟨k + 1, rfl, HA, ⟨by have := HX.out; omega⟩, ⟨rfl⟩⟩
  case round =>
    clear HA
    obtain ⟨i, rfl, HA, HI, HW⟩ := hrel
    have hw := HW.out
    subst hw
    by_cases hlt : i < s.size
    · obtain ⟨g1, rfl⟩ : ∃ g1, gk = g1 + 1 := ⟨gk - 1, by have := HI.out; omega⟩
      have hi0 : (0 : Int) ≤ (i : Int) := by omega
      have hA := HA.out
      unfold fin at hA
      rw [if_neg (by omega)] at hA
      by_cases h39 : byte s i = 39
      · rw [if_pos h39] at hA
        by_cases hn : i + 1 < s.size
        · have hb1 : ((s[i + 1].toNat : Nat) : Int) = byte s (i + 1) := byte_eq hn
          have hb : ((s[i].toNat : Nat) : Int) = byte s i := byte_eq hlt
          by_cases h2 : byte s (i + 1) = 39
          · rw [if_pos ⟨hn, h2⟩] at hA
            have c1 : s[i] = 39 := by have : s[i].toNat = 39 := by omega
                                      exact UInt8.toNat_inj.1 this
            have c2 : s[i + 1] = 39 := by have : s[i + 1].toNat = 39 := by omega
                                          exact UInt8.toNat_inj.1 this
            have HA2 := Aside0.mk hA
            clear hA hb hb1 h2 h39
            go_wp2
            go_roundg g1
            case measure => omega
            case rel => exact ⟨i + 2, by rw [show ((i + 2 : Nat) : Int) = (i : Int) + 1 + 1 by omega], HA2, ⟨by have := HI.out; omega⟩, ⟨rfl⟩⟩
          · rw [if_neg (fun h => h2 h.2)] at hA
            subst hA
            have c1 : s[i] = 39 := by have : s[i].toNat = 39 := by omega
                                      exact UInt8.toNat_inj.1 this
            have c2 : (((s[i + 1].toNat : Nat) : Int) == 39) = false := by simp; omega
            clear hb hb1 h2 h39
            obtain ⟨t0, t1, t2⟩ := HT1.out.cells
            have q1 : IntKind.i64.wrap ((i : Int) + 1) = (i : Int) + 1 := IntWalk.i64_in _ (by omega)
            have q2 : (0 : Int) ≤ (i : Int) + 1 := by omega
            have q3 : ((i : Int) + 1).toNat = i + 1 := by omega
            have q4 : (k : Int) ≤ (i : Int) + 1 := by have := HI.out; omega
            have q5 : (i : Int) + 1 ≤ (s.size : Int) := by omega
            go_wp2
            go_quiet (fail)
            go_wp2
            go_ret2
            exact found HT1 HO1
        · rw [if_neg (fun h => hn h.1)] at hA
          subst hA
          have hb : ((s[i].toNat : Nat) : Int) = byte s i := byte_eq hlt
          have c1 : s[i] = 39 := by have : s[i].toNat = 39 := by omega
                                    exact UInt8.toNat_inj.1 this
          have hn2 : ¬ ((i : Int) + 1 < (s.size : Int)) := by omega
          clear hb h39
          obtain ⟨t0, t1, t2⟩ := HT1.out.cells
          have q1 : IntKind.i64.wrap ((i : Int) + 1) = (i : Int) + 1 := IntWalk.i64_in _ (by omega)
          have q2 : (0 : Int) ≤ (i : Int) + 1 := by omega
          have q3 : ((i : Int) + 1).toNat = i + 1 := by omega
          have q4 : (k : Int) ≤ (i : Int) + 1 := by have := HI.out; omega
          have q5 : (i : Int) + 1 ≤ (s.size : Int) := by omega
          go_wp2
          go_quiet (fail)
          go_wp2
          go_ret2
          exact found HT1 HO1
      · rw [if_neg h39] at hA
        have hb : ((s[i].toNat : Nat) : Int) = byte s i := byte_eq hlt
        have c2 : (((s[i].toNat : Nat) : Int) != 39) = true := by simp; omega
        have c1 : (((s[i].toNat : Nat) : Int) == 39) = false := by simp; omega
        have HA2 := Aside0.mk hA
        clear hA hb h39
        go_wp2
        go_roundg g1
        case measure => omega
        case rel => exact ⟨i + 1, by go_num, HA2, ⟨by have := HI.out; omega⟩, ⟨rfl⟩⟩
    · have hge : ¬ ((i : Int) < (s.size : Int)) := by omega
      have hA : none = a := by
        rw [← HA.out]
        cases gk with
        | zero => rfl
        | succ g => unfold fin; rw [if_pos (by omega)]
      subst hA
      go_wp2
      go_ret2
      exact ⟨⟨rfl, HT1.out⟩, HO1.out⟩
end Go.Proofs.Ytmknlojgjlpgfaa.TextC
