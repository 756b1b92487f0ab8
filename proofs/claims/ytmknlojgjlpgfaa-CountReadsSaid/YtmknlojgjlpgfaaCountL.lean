/- The law CountReads: what is read lies between, in plain Lean. -/
import Derived.Test.YtmknlojgjlpgfaaCountK
namespace Go.Proofs.Ytmknlojgjlpgfaa.CountL
open Go.RowKit Go.Proofs.Ytmknlojgjlpgfaa.CountA Go.Proofs.Ytmknlojgjlpgfaa.CountB Go.Proofs.Ytmknlojgjlpgfaa.CountC Go.Proofs.Ytmknlojgjlpgfaa.CountG
set_option linter.unusedVariables false

/-- All counts are from 0 to m. -/
def Within (f : Nat → Int) (m : Nat) : Prop := ∀ j, 0 ≤ f j ∧ f j ≤ (m : Int)

theorem within_zero : Within (fun _ => 0) 0 := fun _ => ⟨Int.le_refl _, by simp⟩

theorem added_ge {f : Nat → Int} {m : Nat} (h : Within f m) (hm : m < 1000) (n : Nat) (who kind : Int) : Within (added f n who kind) (m + 1) ∧ ∀ j, f j ≤ added f n who kind j := by
  unfold added
  split
  · have e : wrap64 (f (who.toNat * 6 + kind.toNat) + 1) = f (who.toNat * 6 + kind.toNat) + 1 := by
      have := h (who.toNat * 6 + kind.toNat)
      unfold wrap64
      omega
    rw [e]
    refine ⟨fun j => ?_, fun j => ?_⟩
    · unfold upd
      by_cases hj : j = who.toNat * 6 + kind.toNat
      · subst hj; simp; have := h (who.toNat * 6 + kind.toNat); omega
      · simp [hj]; have := h j; omega
    · unfold upd
      by_cases hj : j = who.toNat * 6 + kind.toNat
      · subst hj; simp; omega
      · simp [hj]
  · exact ⟨fun j => by have := h j; omega, fun j => Int.le_refl _⟩

theorem total_mono {f g : Nat → Int} (h : ∀ j, f j ≤ g j) (k : Nat) : ∀ n, total f k n ≤ total g k n
  | 0 => Int.le_refl _
  | n + 1 => by have := total_mono h k n; have := h (n * 6 + k); simp only [total]; omega

theorem total_bounds {f : Nat → Int} {m : Nat} (h : Within f m) (hm : m < 1000) (k : Nat) : ∀ n, 0 ≤ total f k n ∧ total f k n ≤ 1000 * (n : Int)
  | 0 => by simp [total]
  | n + 1 => by have := total_bounds h hm k n; have := h (n * 6 + k); simp only [total]; omega

/-- While it is read: of the first a. -/
def Mid (f0 f g : Nat → Int) (a : Nat) : Prop := ∀ k, k < 6 → total f0 k a ≤ g k ∧ g k ≤ total f k a

theorem mid_zero (f0 f : Nat → Int) : Mid f0 f (fun _ => 0) 0 := fun k _ => ⟨Int.le_refl _, Int.le_refl _⟩

theorem mid_add {f0 f f' g : Nat → Int} {a : Nat} (h : Mid f0 f g a) (hf : ∀ j, f j ≤ f' j) : Mid f0 f' g a := fun k hk => ⟨(h k hk).1, Int.le_trans (h k hk).2 (total_mono hf k a)⟩

theorem mid_step {f0 f g : Nat → Int} {a m : Nat} (h : Mid f0 f g a) (hw : Within f m) (hm : m < 1000) (h0 : ∀ j, 0 ≤ f0 j ∧ f0 j ≤ f j) (ha : a < 1000) : Mid f0 f (plusTo g (fun j => f (a * 6 + j)) 6) (a + 1) := by
  intro k hk
  have h1 := h k hk
  have h2 := total_bounds hw hm k a
  have h3 := hw (a * 6 + k)
  have h4 := h0 (a * 6 + k)
  have h5 : 0 ≤ total f0 k a := by
    have : ∀ n, 0 ≤ total f0 k n := by
      intro n
      induction n with
      | zero => simp [total]
      | succ n ih => have := h0 (n * 6 + k); simp only [total]; omega
    exact this a
  have e : plusTo g (fun j => f (a * 6 + j)) 6 k = g k + f (a * 6 + k) := by
    unfold plusTo
    rw [if_pos hk]
    show wrap64 (g k + f (a * 6 + k)) = _
    unfold wrap64
    omega
  rw [e]
  simp only [total]
  omega

theorem sum_total {f : Nat → Int} {m n : Nat} (hw : Within f m) (hm : m < 1000) (hn : n < 1000) (k : Nat) (hk : k < 6) : sumTo f n k = total f k n := by
  have h2 := total_bounds hw hm k n
  rw [sumTo_total f k hk n]
  unfold wrap64
  omega

end Go.Proofs.Ytmknlojgjlpgfaa.CountL
