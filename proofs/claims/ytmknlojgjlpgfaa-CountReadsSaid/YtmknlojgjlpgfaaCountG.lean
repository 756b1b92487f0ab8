/- The law CountPlays: what it counts, in plain Lean. -/
import Derived.Test.YtmknlojgjlpgfaaCountE
namespace Go.Proofs.Ytmknlojgjlpgfaa.CountG
open Go.RowKit Go.Proofs.Ytmknlojgjlpgfaa.CountA Go.Proofs.Ytmknlojgjlpgfaa.CountB Go.Proofs.Ytmknlojgjlpgfaa.CountC
set_option linter.unusedVariables false

/-- All together, of a kind. -/
def total (f : Nat → Int) (k : Nat) : Nat → Int
  | 0 => 0
  | n + 1 => total f k n + f (n * 6 + k)

theorem sumTo_total (f : Nat → Int) (k : Nat) (hk : k < 6) : ∀ n, sumTo f n k = wrap64 (total f k n)
  | 0 => by simp only [sumTo, total]; unfold wrap64; decide
  | n + 1 => by
    have ih := sumTo_total f k hk n
    simp only [sumTo, total, plusTo, if_pos hk]
    rw [ih]
    generalize total f k n = a
    generalize f (n * 6 + k) = b
    unfold wrap64
    omega

theorem total_upd (f : Nat → Int) (a c : Nat) (hc : c < 6) (v : Int) (k : Nat) (hk : k < 6) : ∀ n, total (upd f (a * 6 + c) v) k n = total f k n + (if a < n ∧ k = c then v - f (a * 6 + c) else 0)
  | 0 => by simp [total]
  | n + 1 => by
    have ih := total_upd f a c hc v k hk n
    simp only [total, ih]
    by_cases he : n = a ∧ k = c
    · obtain ⟨rfl, rfl⟩ := he
      have h1 : ¬ (n < n ∧ k = k) := by omega
      have h2 : n < n + 1 ∧ k = k := ⟨by omega, rfl⟩
      rw [if_neg h1, if_pos h2]
      simp only [upd, if_true]
      omega
    · have hne : n * 6 + k ≠ a * 6 + c := by omega
      simp only [upd, if_neg hne]
      by_cases h1 : a < n ∧ k = c
      · rw [if_pos h1, if_pos ⟨by omega, h1.2⟩]; omega
      · have h2 : ¬ (a < n + 1 ∧ k = c) := by omega
        rw [if_neg h1, if_neg h2]; omega

/-- The law's own sum goes with the counts. -/
def Goes (f s : Nat → Int) (n : Nat) : Prop := ∀ k, k < 6 → s k = wrap64 (total f k n)

theorem goes_zero (n : Nat) : Goes (fun _ => 0) (fun _ => 0) n := by
  intro k hk
  have : ∀ n, total (fun _ => 0) k n = 0 := by
    intro n
    induction n with
    | zero => rfl
    | succ n ih => simp [total, ih]
  rw [this]
  show (0 : Int) = wrap64 0
  unfold wrap64
  decide

theorem goes_step {f s : Nat → Int} {n : Nat} (h : Goes f s n) (a c : Nat) (ha : a < n) (hc : c < 6) : Goes (upd f (a * 6 + c) (wrap64 (f (a * 6 + c) + 1))) (upd s c (wrap64 (s c + 1))) n := by
  intro k hk
  rw [total_upd f a c hc _ k hk]
  by_cases e : k = c
  · subst e
    have h1 := h k hk
    rw [if_pos ⟨ha, rfl⟩]
    simp only [upd, if_true]
    rw [h1]
    generalize total f k n = x
    generalize f (a * 6 + k) = y
    unfold wrap64
    omega
  · have h2 : ¬ (a < n ∧ k = c) := fun h => e h.2
    simp only [upd, if_neg e, if_neg h2]
    rw [h k hk]
    congr 1
    omega

theorem goes_sum {f s : Nat → Int} {n : Nat} (h : Goes f s n) (k : Nat) (hk : k < 6) : s k = sumTo f n k := by
  rw [sumTo_total f k hk n]
  exact h k hk

end Go.Proofs.Ytmknlojgjlpgfaa.CountG
