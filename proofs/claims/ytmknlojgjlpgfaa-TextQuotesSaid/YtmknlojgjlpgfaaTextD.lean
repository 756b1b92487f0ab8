/- Package text, and the law's own words: what a byte is, there and here. -/
import Derived.Test.YtmknlojgjlpgfaaTextC
namespace Go.Proofs.Ytmknlojgjlpgfaa.TextD
open Go.RowKit Go.Proofs.YtmknlojgjlpgfaaW.PrintWords Go.Proofs.YtmknlojgjlpgfaaW.PrintLast Go.Proofs.YtmknlojgjlpgfaaW.PrintMore Go.Proofs.Ytmknlojgjlpgfaa.TextA Go.Proofs.Ytmknlojgjlpgfaa.TextB Go.Proofs.Ytmknlojgjlpgfaa.TextC
attribute [local go_sem ↓] Go.wp_at_zero Go.wp_at_succ
set_option linter.unusedVariables false
set_option linter.unusedSimpArgs false

theorem sig_all : ∀ c : Fin 256, (0 ≤ sig (c.val : Int)) ↔ c.val ∈ [40, 41, 123, 125, 44, 46, 59, 58, 124, 33, 43, 45, 42, 61, 60, 62, 47] := by decide +kernel

theorem sig_iff (c : Int) (h0 : 0 ≤ c) (h1 : c ≤ 255) : 0 ≤ sig c ↔ (c = 40 ∨ c = 41 ∨ c = 123 ∨ c = 125 ∨ c = 44 ∨ c = 46 ∨ c = 59 ∨ c = 58 ∨ c = 124 ∨ c = 33 ∨ c = 43 ∨ c = 45 ∨ c = 42 ∨ c = 61 ∨ c = 60 ∨ c = 62 ∨ c = 47) := by
  obtain ⟨n, rfl⟩ : ∃ n : Nat, c = (n : Int) := ⟨c.toNat, by omega⟩
  have := sig_all ⟨n, by omega⟩
  simp only [List.mem_cons, List.mem_nil_iff, or_false] at this
  rw [this]
  omega

set_option maxHeartbeats 4000000 in
set_option maxRecDepth 100000 in
theorem law_calls (c : Int) (w : World) (h0 : 0 ≤ c) (h1 : c ≤ 255) : Calls Try.prog 38 #[.int .u8 c] w fun e w' => e = .returned (.int .i64 (cls c)) ∧ w' = w := by
  have hs := sig_iff c h0 h1
  have HS := Aside0.mk hs
  clear hs
  go_enter Try.func38, Try.ntmps38
  go_wp2
  all_goals
    simp only [beq_iff_eq, beq_eq_false_iff_ne] at *
    have hs := HS.out
    go_ret
    refine ⟨ret_i ?_, rfl⟩
    unfold cls
    repeat' split
    all_goals first | rfl | omega

/-- A check that bytes from k on up to e are of some classes. -/
def endsB (s : ByteArray) (cl : List Int) (k e : Nat) : Bool :=
  decide (k ≤ e) && decide (e ≤ s.size) && (List.range e).all (fun i => decide (i < k) || memTo cl (cls (byte s i)) cl.length) && (decide (s.size ≤ e) || !(memTo cl (cls (byte s e)) cl.length))

theorem ends_of {s : ByteArray} {cl : List Int} {k e : Nat} (h : endsB s cl k e = true) : Runs s cl k e := by
  simp only [endsB, Bool.and_eq_true, Bool.or_eq_true, decide_eq_true_eq, List.all_eq_true, List.mem_range, Bool.not_eq_true'] at h
  obtain ⟨⟨⟨h1, h2⟩, h3⟩, h4⟩ := h
  refine ⟨h1, h2, fun i hi he => ?_, fun hl => ?_⟩
  · rcases h3 i he with h | h
    · omega
    · exact h
  · rcases h4 with h | h
    · omega
    · exact h

/-- .. where it is known how far it goes. -/
def RunTo (w : World) (r : Nat) (s : ByteArray) (k j : Nat) (e : Ending) (w' : World) : Prop :=
  e = .returned (.string (s.extract k j)) ∧ IsT w' r s j ∧ Only r w w'

theorem run_to {w : World} {r : Nat} {s : ByteArray} {k : Nat} (j : Nat) (cl : List Int) (he : Runs s cl k j) (A : Option Addr) (cap : Nat) (h : IsT w r s k) (hs : s.size ≤ maxLen) (hn : cl.length ≤ 60)
    (hc : ∀ i, i < cl.length → ∃ ad, A = some ad ∧ (ad.add i).block ≠ r ∧ w.cell? (ad.add i) = some (.int .i64 (rd cl i))) :
    Calls Try.prog 41 #[.pointer (some ⟨r, 0, none⟩), .slice A cl.length cap] w (RunTo w r s k j) :=
  (run_calls cl A cap h (Nat.le_trans he.1 he.2.1) hs hn hc).mono fun e w' ⟨j', hj, h1, h2, h3⟩ => by
    obtain rfl := he.unique hj
    exact ⟨h1, h2, h3⟩

/-- A slice of one number, new. -/
theorem one_cell {w : World} {r : Nat} {s : ByteArray} {k : Nat} (h : IsT w r s k) (x : Int) : ∀ i, i < [x].length → ∃ ad, (some (⟨w.heap.size, 0, none⟩ : Addr)) = some ad ∧ (ad.add i).block ≠ r ∧ (w.alloc (.cells #[.int .i64 x] 3 (0, 0))).cell? (ad.add i) = some (.int .i64 (rd [x] i)) := by
  intro i hi
  have : i = 0 := by simpa using hi
  subst this
  refine ⟨_, rfl, ?_, ?_⟩
  · have := blk_lt h
    show w.heap.size ≠ r
    omega
  · exact (blk_cell (blk_new w _) 0)

end Go.Proofs.Ytmknlojgjlpgfaa.TextD
