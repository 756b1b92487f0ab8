/- What the functions of package hash come to, in plain Lean: the sum of a text, by the code and by the law's own halves, is one fold; the part that it belongs to. -/
import Derived.Test.YtmknlojgjlpgfaaHashA
namespace Go.Proofs.Ytmknlojgjlpgfaa.HashB
set_option linter.unusedVariables false
open Go.RowKit Go.Proofs.YtmknlojgjlpgfaaW.PrintWords Go.Proofs.YtmknlojgjlpgfaaW.PrintLast Go.Proofs.YtmknlojgjlpgfaaW.PrintMore Go.Proofs.Ytmknlojgjlpgfaa.HashA

/-- One byte more. -/
def stepF (h c : Int) : Int := IntKind.u64.wrap (Go.bits .xor .u64 h (IntKind.u64.wrap c) * 1099511628211)

/-- The sum from a place on, d bytes to go. -/
def fnvFrom (s : ByteArray) : Nat → Nat → Int → Int
  | 0, _, h => h
  | d + 1, i, h => fnvFrom s d (i + 1) (stepF h (bt s i))

/-- A text's sum. -/
def fnv (s : ByteArray) : Int := fnvFrom s s.size 0 14695981039346656037

theorem u64_wrap (n : Int) : IntKind.u64.wrap n = n % 18446744073709551616 := by simp [IntKind.wrap, IntKind.bits, IntKind.signed]

theorem u64_lo (n : Int) : 0 ≤ IntKind.u64.wrap n := by rw [u64_wrap]; omega
theorem u64_hi (n : Int) : IntKind.u64.wrap n < 18446744073709551616 := by rw [u64_wrap]; omega

theorem bits_lo (x y : Int) : 0 ≤ Go.bits .xor .u64 x y := by unfold Go.bits; exact u64_lo _
theorem bits_hi (x y : Int) : Go.bits .xor .u64 x y < 18446744073709551616 := by unfold Go.bits; exact u64_hi _

theorem fnvFrom_range (s : ByteArray) : ∀ (d i : Nat) (h : Int), 0 ≤ h → h < 18446744073709551616 → 0 ≤ fnvFrom s d i h ∧ fnvFrom s d i h < 18446744073709551616
  | 0, _, _, h0, h1 => ⟨h0, h1⟩
  | d + 1, i, h, _, _ => fnvFrom_range s d (i + 1) _ (u64_lo _) (u64_hi _)

theorem fnv_range (s : ByteArray) : 0 ≤ fnv s ∧ fnv s < 18446744073709551616 := fnvFrom_range s _ _ _ (by decide) (by decide)

/-- The law's product by halves is the product. -/
theorem times_eq (x c : Int) (h0 : 0 ≤ x) (h1 : x < 18446744073709551616) (hc : c = 1099511628211) : lamplighterlaw39_times.f x c = some (IntKind.u64.wrap (x * c)) := by
  subst hc
  unfold lamplighterlaw39_times.f
  simp only [u64_wrap, Option.some.injEq]
  rw [Int.tmod_eq_emod_of_nonneg h0, Int.tdiv_eq_ediv_of_nonneg h0]
  omega

theorem wrap_next (i : Nat) (n : Nat) (h : i < n) (hn : n ≤ 9223372036854775807) : wrap64 ((i : Int) + 1) = ((i + 1 : Nat) : Int) := by
  unfold wrap64; omega

theorem fnv_l0 (s : ByteArray) (hn : s.size ≤ 9223372036854775807) (d : Nat) : ∀ (k i : Nat) (h : Int), i + d = s.size → d < k →
    hash_Fnv.l0 k s h (s.size : Int) i = some (fnvFrom s d i h) := by
  induction d with
  | zero =>
    intro k i h hi hk
    obtain ⟨k, rfl⟩ : ∃ m, k = m + 1 := ⟨k - 1, by omega⟩
    simp only [hash_Fnv.l0, fnvFrom]
    rw [if_neg (by omega)]
  | succ d ih =>
    intro k i h hi hk
    obtain ⟨k, rfl⟩ : ∃ m, k = m + 1 := ⟨k - 1, by omega⟩
    simp only [hash_Fnv.l0, fnvFrom]
    rw [if_pos (by omega), if_pos (by omega), if_pos (by omega), wrap_next i s.size (by omega) hn]
    exact ih k (i + 1) _ (by omega) (by omega)

theorem fnv_f (s : ByteArray) (hn : s.size ≤ 9223372036854775807) (k : Nat) (hk : s.size < k) : hash_Fnv.f k s = some (fnv s) :=
  fnv_l0 s hn s.size k 0 _ (by omega) hk

theorem sum_l0 (s : ByteArray) (hn : s.size ≤ 9223372036854775807) (d : Nat) : ∀ (k i : Nat) (h : Int), i + d = s.size → d < k →
    lamplighterlaw39_sum.l0 k s h i = some (fnvFrom s d i h) := by
  induction d with
  | zero =>
    intro k i h hi hk
    obtain ⟨k, rfl⟩ : ∃ m, k = m + 1 := ⟨k - 1, by omega⟩
    simp only [lamplighterlaw39_sum.l0, fnvFrom]
    rw [if_neg (by omega)]
  | succ d ih =>
    intro k i h hi hk
    obtain ⟨k, rfl⟩ : ∃ m, k = m + 1 := ⟨k - 1, by omega⟩
    simp only [lamplighterlaw39_sum.l0, fnvFrom]
    rw [if_pos (by omega), if_pos (by omega), times_eq _ _ (bits_lo _ _) (bits_hi _ _) rfl, Option.bind_some, wrap_next i s.size (by omega) hn]
    exact ih k (i + 1) _ (by omega) (by omega)

theorem sum_f (s : ByteArray) (hn : s.size ≤ 9223372036854775807) (k : Nat) (hk : s.size < k) : lamplighterlaw39_sum.f k s = some (fnv s) :=
  sum_l0 s hn s.size k 0 _ (by omega) hk

/-- How many parts there are. -/
def parts (n : Int) : Int := mn (mx n 1) 64

theorem parts_range (n : Int) : 1 ≤ parts n ∧ parts n ≤ 64 := by unfold parts mn mx; (repeat' split) <;> omega

/-- The part that a text belongs to. -/
def part (s : ByteArray) (n : Int) : Int := fnv s % parts n

theorem part_range (s : ByteArray) (n : Int) : 0 ≤ part s n ∧ part s n < parts n := by
  have h := parts_range n
  unfold part
  exact ⟨Int.emod_nonneg _ (by omega), Int.emod_lt_of_pos _ (by omega)⟩

theorem tmod_part (s : ByteArray) (n : Int) : wrap64 (Int.tmod (fnv s) (parts n)) = part s n := by
  rw [Int.tmod_eq_emod_of_nonneg (fnv_range s).1]
  have h := part_range s n
  have h' := parts_range n
  unfold part at h
  unfold part wrap64
  omega

theorem part_f (s : ByteArray) (n : Int) (hn : s.size ≤ 9223372036854775807) (k : Nat) (hk : s.size < k) : hash_Part.f k s n = some (part s n) := by
  unfold hash_Part.f
  rw [fnv_f s hn k hk, Option.bind_some]
  have h := parts_range n
  show (if parts n = 0 then none else some (wrap64 (Int.tmod (fnv s) (parts n)))) = _
  rw [if_neg (by omega), tmod_part]

theorem parts3 : parts 3 = 3 := by decide
theorem parts1 : parts 1 = 1 := by decide

theorem awake_f (k : Nat) (hk : 1 < k) : lamplighterlaw39_awake.f k = some true := by
  unfold lamplighterlaw39_awake.f
  rw [fnv_f _ (by decide) k (by show 0 < k; omega), Option.bind_some, if_pos (by rfl), part_f _ _ (by decide) k (by show 1 < k; omega), Option.bind_some, if_pos (by have := part_range ⟨#[107]⟩ 1; rw [parts1] at this; omega)]
  obtain ⟨k, rfl⟩ : ∃ m, k = m + 1 := ⟨k - 1, by omega⟩
  unfold hash_Spread.f
  show (if 0 ≤ parts 3 then if (parts 3).toNat ≤ 35184372088832 then hash_Spread.l0 (k + 1) 3 (List.replicate (parts 3).toNat 0) [] (([] : List ByteArray).length : Int) 0 else none else none).bind _ = _
  rw [parts3, if_pos (by decide), if_pos (by decide)]
  simp only [hash_Spread.l0]
  rfl

/-- The calls, by what they come to. -/
theorem fnv_calls (s : ByteArray) (hn : s.size ≤ 9223372036854775807) (w : World) : Calls Try.prog 14 #[.string s] w fun e w' => e = .returned (.int .u64 (fnv s)) ∧ Drawn0 w w' :=
  hash_Fnv.calls (s.size + 1) s _ w (fnv_f s hn _ (by omega))
theorem sum_calls (s : ByteArray) (hn : s.size ≤ 9223372036854775807) (w : World) : Calls Try.prog 15 #[.string s] w fun e w' => e = .returned (.int .u64 (fnv s)) ∧ Drawn0 w w' :=
  lamplighterlaw39_sum.calls (s.size + 1) s _ w (sum_f s hn _ (by omega))
theorem part_calls (s : ByteArray) (hn : s.size ≤ 9223372036854775807) (n : Int) (w : World) : Calls Try.prog 16 #[.string s, .int .i64 n] w fun e w' => e = .returned (.int .i64 (part s n)) ∧ Below w.heap.size w w' :=
  hash_Part.calls (s.size + 1) s n _ w (part_f s n hn _ (by omega))
theorem awake_calls (w : World) : Calls Try.prog 13 #[] w fun e w' => e = .returned (.bool true) ∧ Below w.heap.size w w' :=
  lamplighterlaw39_awake.calls 2 true w (awake_f 2 (by omega))

end Go.Proofs.Ytmknlojgjlpgfaa.HashB
