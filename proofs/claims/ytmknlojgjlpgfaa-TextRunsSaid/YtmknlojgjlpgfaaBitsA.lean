/- An int's low bits: x & (2^i - 1) is x modulo 2^i, of every int, below nought too. -/
import Derived.WalkKit
import Derived.Laws.BitsLemmas
namespace Go.Proofs.Ytmknlojgjlpgfaa.BitsA
open Go

theorem i64_wrap_small (n : Int) (h0 : 0 ≤ n) (h1 : n < 9223372036854775808) : IntKind.i64.wrap n = n := by
  simp only [IntKind.wrap, IntKind.bits, IntKind.signed]
  simp
  omega

theorem i64_mask (i : Nat) (hi : i ≤ 62) (x : Int) : bits .and .i64 x (2 ^ i - 1) = x % 2 ^ i := by
  have hp : (2 : Nat) ^ i ≤ 2 ^ 62 := Nat.pow_le_pow_right (by decide) hi
  have hpos : 0 < (2 : Nat) ^ i := Nat.pow_pos (by decide)
  have e0 : ((2 : Int) ^ i - 1) = ((2 ^ i - 1 : Nat) : Int) := by
    rw [Int.natCast_sub (by omega)]; simp
  have e1 : (BitVec.ofInt 64 x).toNat % 2 ^ i = (x % 2 ^ i).toNat := by
    rw [BitVec.toNat_ofInt]
    have hd : (2 : Int) ^ i ∣ ((2 ^ 64 : Nat) : Int) := by
      have : (2 : Nat) ^ i ∣ 2 ^ 64 := Nat.pow_dvd_pow 2 (by omega)
      have h2 : ((2 ^ i : Nat) : Int) ∣ ((2 ^ 64 : Nat) : Int) := Int.natCast_dvd_natCast.2 this
      simpa using h2
    have e2 := Int.emod_emod_of_dvd x hd
    have h0 : 0 ≤ x % ((2 ^ 64 : Nat) : Int) := Int.emod_nonneg _ (by decide)
    have h1 : 0 ≤ x % (2 : Int) ^ i := Int.emod_nonneg _ (by
      have : (0 : Int) < 2 ^ i := by exact_mod_cast hpos
      omega)
    apply Int.natCast_inj.1
    rw [Int.natCast_emod, Int.toNat_of_nonneg h0, Int.toNat_of_nonneg h1]
    simpa using e2
  have h1 : 0 ≤ x % (2 : Int) ^ i := Int.emod_nonneg _ (by
      have : (0 : Int) < 2 ^ i := by exact_mod_cast hpos
      omega)
  have h2 : x % (2 : Int) ^ i < 2 ^ i := Int.emod_lt_of_pos _ (by exact_mod_cast hpos)
  have h3 : ((2 : Int) ^ i) ≤ 2 ^ 62 := by exact_mod_cast hp
  have key : ((BitVec.ofInt 64 x) &&& (BitVec.ofInt 64 ((2 : Int) ^ i - 1))).toNat = (x % 2 ^ i).toNat := by
    rw [BitVec.toNat_and, e0, BitVec.ofInt_natCast, BitVec.toNat_ofNat, Nat.mod_eq_of_lt (by omega), Nat.and_two_pow_sub_one_eq_mod, e1]
  show IntKind.i64.wrap ((((BitVec.ofInt 64 x) &&& (BitVec.ofInt 64 ((2 : Int) ^ i - 1))).toNat : Nat) : Int) = _
  rw [key, Int.toNat_of_nonneg h1]
  exact i64_wrap_small _ h1 (by omega)

theorem and7 (x : Int) : bits .and .i64 x 7 = x % 8 := i64_mask 3 (by decide) x
theorem and15 (x : Int) : bits .and .i64 x 15 = x % 16 := i64_mask 4 (by decide) x
theorem and1 (x : Int) : bits .and .i64 x 1 = x % 2 := i64_mask 1 (by decide) x
theorem and3 (x : Int) : bits .and .i64 x 3 = x % 4 := i64_mask 2 (by decide) x

end Go.Proofs.Ytmknlojgjlpgfaa.BitsA
