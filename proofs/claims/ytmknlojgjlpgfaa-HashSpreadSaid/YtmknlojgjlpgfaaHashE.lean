/- The law HashSpread, walked: whatever the keys and the number of parts, the call answers true, and nothing that was there has turned. -/
import Derived.Test.YtmknlojgjlpgfaaHashB
namespace Go.Proofs.Ytmknlojgjlpgfaa.HashE
open Go.RowKit Go.Proofs.YtmknlojgjlpgfaaW.PrintWords Go.Proofs.YtmknlojgjlpgfaaW.PrintLast Go.Proofs.YtmknlojgjlpgfaaW.PrintMore Go.Proofs.Ytmknlojgjlpgfaa.HashA Go.Proofs.Ytmknlojgjlpgfaa.HashB Go.Proofs.Ytmknlojgjlpgfaa.PHashSums
attribute [local go_sem] max2_int min2_int max_two min_two max_three min_three max_four min_four
set_option linter.unusedVariables false
set_option linter.unusedSimpArgs false

theorem info9 : (Try.prog.info? 9).map (fun i => (i.zero, i.size, i.bytes)) = some (some (.string ⟨#[]⟩), 1, 16) := by kernel_rfl

/-- One key more. -/
def bump (n : Int) (c : List Int) (s : ByteArray) : List Int := c.set (HashB.part s n).toNat (wrap64 (rd c (HashB.part s n) + 1))

/-- How many of the first i keys belong to each part. -/
def tally (n : Int) (l : List ByteArray) (i : Nat) : List Int := (l.take i).foldl (bump n) (List.replicate (parts n).toNat 0)

theorem bump_length (n : Int) (c : List Int) (s : ByteArray) : (bump n c s).length = c.length := by simp [bump]

theorem foldl_length (n : Int) : ∀ (l : List ByteArray) (c : List Int), (l.foldl (bump n) c).length = c.length
  | [], _ => rfl
  | s :: l, c => by rw [List.foldl_cons, foldl_length n l, bump_length]

theorem tally_length (n : Int) (l : List ByteArray) (i : Nat) : ((tally n l i).length : Int) = parts n := by
  unfold tally
  rw [foldl_length, List.length_replicate]
  have := parts_range n
  omega

theorem tally_succ (n : Int) (l : List ByteArray) (i : Nat) (h : i < l.length) : tally n l (i + 1) = bump n (tally n l i) (rdOf ByteArray.empty l i) := by
  unfold tally
  rw [List.take_succ_eq_append_getElem h, List.foldl_append]
  simp [rdOf, List.getD, h]

theorem rdOf_mem (l : List ByteArray) (i : Nat) (h : i < l.length) : rdOf ByteArray.empty l i ∈ l := by
  simp [rdOf, List.getD, h]

theorem spread_l0 (n : Int) (l : List ByteArray) (hl : l.length ≤ 9223372036854775807) (hs : ∀ s ∈ l, s.size ≤ 9223372036854775807) (B : Nat) (hB : ∀ s ∈ l, s.size < B) (d : Nat) : ∀ (k i : Nat), i + d = l.length → B + d ≤ k →
    hash_Spread.l0 (k + 1) n (tally n l i) l (l.length : Int) i = some (tally n l l.length) := by
  induction d with
  | zero =>
    intro k i hi hk
    simp only [hash_Spread.l0]
    rw [if_neg (by omega), show i = l.length by omega]
  | succ d ih =>
    intro k i hi hk
    have hlt : i < l.length := by omega
    have hm := rdOf_mem l i hlt
    have hp := part_range (rdOf ByteArray.empty l i) n
    have ht := tally_length n l i
    simp only [hash_Spread.l0]
    rw [if_pos (by omega), if_pos (by omega), if_pos (by omega), part_f _ _ (hs _ hm) k (by have := hB _ hm; omega), Option.bind_some, if_pos hp.1, if_pos (by omega), wrap_next i l.length hlt hl]
    obtain ⟨k, rfl⟩ : ∃ m, k = m + 1 := ⟨k - 1, by omega⟩
    have := ih k (i + 1) (by omega) (by omega)
    rw [tally_succ n l i hlt] at this
    exact this

/-- A bound on all sizes. -/
def big : List ByteArray → Nat
  | [] => 0
  | s :: l => s.size + 1 + big l

theorem lt_big : ∀ (l : List ByteArray), ∀ s ∈ l, s.size < big l
  | [], s, h => by cases h
  | x :: l, s, h => by
    rcases List.mem_cons.1 h with rfl | h
    · simp only [big]; omega
    · have := lt_big l s h; simp only [big]; omega

theorem spread_f (n : Int) (l : List ByteArray) (hl : l.length ≤ 9223372036854775807) (hs : ∀ s ∈ l, s.size ≤ 9223372036854775807) : hash_Spread.f (big l + l.length + 1) l n = some (tally n l l.length) := by
  have h := parts_range n
  unfold hash_Spread.f
  show (if 0 ≤ parts n then if (parts n).toNat ≤ 35184372088832 then hash_Spread.l0 (big l + l.length + 1) n (List.replicate (parts n).toNat 0) l (l.length : Int) 0 else none else none) = _
  rw [if_pos (by omega), if_pos (by omega)]
  exact spread_l0 n l hl hs (big l) (lt_big l) l.length (big l + l.length) 0 (by omega) (by omega)

theorem spread_calls (A0 : Option Addr) (c0 : Nat) (l : List ByteArray) (hl : l.length ≤ 9223372036854775807) (hs : ∀ s ∈ l, s.size ≤ 9223372036854775807) (n : Int) (w : World) (hr0 : Kd.C Kd.string w A0 l.length l) (hc0 : l.length ≤ c0) :
    Calls Try.prog 17 #[.slice A0 l.length c0, .int .i64 n] w fun e w' => ∃ v0_ : Value, e = .returned (v0_) ∧ Kd.R (Kd.int .i64) 3 w' w.heap.size (fun _ => True) v0_ (tally n l l.length) ∧ Below w.heap.size w w' :=
  hash_Spread.calls _ A0 c0 l n _ w hr0 hc0 (spread_f n l hl hs)

end Go.Proofs.Ytmknlojgjlpgfaa.HashE
