/- Package text: what a byte is, and a reader in memory. -/
import Derived.Test.YtmknlojgjlpgfaaPHashSumsx0
import Derived.WalkKit
import Derived.WalkSpells
import Derived.Below
import Derived.Carry
import Derived.BigGuard
import Derived.BigQuiet
import Derived.Deep.LoopGhost
import Derived.Deep.DrawnRows
import Derived.Lib.Strings
import Derived.Lib.Slices
import Derived.Lib.Walk
import Derived.Lib.Bytealg
namespace Go.Proofs.Ytmknlojgjlpgfaa.TextA
open Go.RowKit Go.Proofs.YtmknlojgjlpgfaaW.PrintWords Go.Proofs.YtmknlojgjlpgfaaW.PrintLast Go.Proofs.YtmknlojgjlpgfaaW.PrintMore
attribute [local go_sem ↓] Go.wp_at_zero Go.wp_at_succ
set_option linter.unusedVariables false
set_option linter.unusedSimpArgs false

/-- The letters that stand for themselves. -/
def sgn : List UInt8 := [40, 41, 123, 125, 44, 46, 59, 58, 124, 33, 43, 45, 42, 61, 60, 62, 47]

/-- Where a byte stands among these. -/
def sig (c : Int) : Int := Lib.indexByte sgn c.toNat.toUInt8

/-- What a byte is. -/
def cls (c : Int) : Int :=
  if c = 32 ∨ c = 9 ∨ c = 10 then 1 else if (97 ≤ c ∧ c ≤ 122) ∨ (65 ≤ c ∧ c ≤ 90) ∨ c = 95 then 2 else if 48 ≤ c ∧ c ≤ 57 then 3 else if c = 39 then 5 else if 0 ≤ sig c then 4 else 6

theorem stringslite_calls (s : ByteArray) (c : Int) (w : World) :
    Calls Try.prog 49 #[.string s, .int .u8 c] w fun e w' => e = .returned (.int .i64 (Lib.indexByte s.data.toList c.toNat.toUInt8)) ∧ w' = w := by
  go_enter Try.func49, Try.ntmps49
  go_wp2
  rw [run_callFunc_extern Try.func50 (by kernel_rfl) (by kernel_rfl) (by kernel_rfl) (e := Extern.BytealgIndexByte.indexByte) (by kernel_rfl), Lib.run_indexByteString]
  simp only [Result.andThen]
  rw [Oper.upon_value]
  go_wp2
  go_ret
  exact ⟨rfl, rfl⟩

theorem index_calls (s : ByteArray) (c : Int) (w : World) :
    Calls Try.prog 48 #[.string s, .int .u8 c] w fun e w' => e = .returned (.int .i64 (Lib.indexByte s.data.toList c.toNat.toUInt8)) ∧ w' = w := by
  go_enter Try.func48, Try.ntmps48
  go_wp2_with (go_at_call 49; refine (stringslite_calls _ _ _).mono ?_; rintro e w' ⟨rfl, rfl⟩)
  go_ret
  exact ⟨rfl, rfl⟩

theorem sign_calls (c : Int) (w : World) :
    Calls Try.prog 48 #[.string ⟨#[40, 41, 123, 125, 44, 46, 59, 58, 124, 33, 43, 45, 42, 61, 60, 62, 47]⟩, .int .u8 c] w fun e w' => e = .returned (.int .i64 (sig c)) ∧ w' = w :=
  index_calls _ _ _

theorem ret_i {a b : Int} (h : a = b) : Ending.returned (.int .i64 a) = .returned (.int .i64 b) := by rw [h]

set_option maxRecDepth 100000 in
theorem class_calls (c : Int) (w : World) : Calls Try.prog 37 #[.int .u8 c] w fun e w' => e = .returned (.int .i64 (cls c)) ∧ w' = w := by
  go_enter Try.func37, Try.ntmps37
  go_wp2_with (go_at_call 48; refine (sign_calls _ _).mono ?_; rintro e w' ⟨rfl, rfl⟩)
  all_goals
    try simp only [beq_iff_eq, beq_eq_false_iff_ne] at *
    go_ret
    refine ⟨ret_i ?_, rfl⟩
    unfold cls
    repeat' split
    all_goals first | rfl | omega

/-- A text's reader, in block r: the text, and where it is. -/
def IsT (w : World) (r : Nat) (s : ByteArray) (k : Nat) : Prop := w.heap[r]? = some (.cells #[.string s, .int .i64 (k : Int)] 75 (0, 0))

theorem IsT.below {w w' : World} {r : Nat} {s : ByteArray} {k : Nat} (h : IsT w r s k) (hb : Below w.heap.size w w') : IsT w' r s k := (hb.block r (blk_lt h)).trans h

theorem IsT.drewN {w w' : World} {r : Nat} {s : ByteArray} {k : Nat} (h : IsT w r s k) {n : Nat} (hw : w' = w.drewN n) : IsT w' r s k := by subst hw; exact blk_drewN h n

theorem IsT.set {w : World} {r : Nat} {s : ByteArray} {k : Nat} (h : IsT w r s k) (j : Nat) : IsT (w.setCell ⟨r, 1, none⟩ (.int .i64 (j : Int))) r s j := by
  have := blk_set h 1 (.int .i64 (j : Int))
  simpa [IsT] using this

theorem IsT.cells {w : World} {r : Nat} {s : ByteArray} {k : Nat} (h : IsT w r s k) : w.cell? ⟨r, 0, none⟩ = some (.string s) ∧ w.cell? ⟨r, 1, none⟩ = some (.int .i64 (k : Int)) ∧ w.frozen? ⟨r, 1, none⟩ = false :=
  ⟨blk_cell h 0, blk_cell h 1, blk_frozen h 1⟩

set_option maxRecDepth 100000 in
theorem new_calls (s : ByteArray) (w : World) : Calls Try.prog 39 #[.string s] w fun e w' => ∃ r, e = .returned (.pointer (some ⟨r, 0, none⟩)) ∧ IsT w' r s 0 ∧ w.heap.size ≤ r ∧ Below w.heap.size w w' := by
  go_enter Try.func39, Try.ntmps39
  go_wp2
  go_ret
  exact ⟨w.heap.size, rfl, (MapKept.heap_alloc w _).1, Nat.le_refl _, below_alloc (Below.refl _ _) _⟩

set_option maxRecDepth 100000 in
theorem at_calls {w : World} {r : Nat} {s : ByteArray} {k : Nat} (h : IsT w r s k) : Calls Try.prog 42 #[.pointer (some ⟨r, 0, none⟩)] w fun e w' => e = .returned (.int .i64 (k : Int)) ∧ w' = w := by
  obtain ⟨a0, a1, a2⟩ := h.cells
  clear h
  go_enter Try.func42, Try.ntmps42
  go_wp2
  go_ret
  exact ⟨rfl, rfl⟩

set_option maxRecDepth 100000 in
theorem at_nil (w : World) : Calls Try.prog 42 #[.pointer none] w fun e w' => e = .returned (.int .i64 0) ∧ w' = w := by
  go_enter Try.func42, Try.ntmps42
  go_wp2
  go_ret
  exact ⟨rfl, rfl⟩

set_option maxRecDepth 100000 in
theorem left_calls {w : World} {r : Nat} {s : ByteArray} {k : Nat} (h : IsT w r s k) (hk : k ≤ s.size) (hs : s.size ≤ maxLen) : Calls Try.prog 43 #[.pointer (some ⟨r, 0, none⟩)] w fun e w' => e = .returned (.int .i64 ((s.size : Int) - (k : Int))) ∧ ∃ n, w' = w.drewN n := by
  unfold maxLen at hs
  obtain ⟨a0, a1, a2⟩ := h.cells
  clear h
  go_enter Try.func43, Try.ntmps43
  go_wp2
  go_quiet (fail)
  go_wp2
  go_ret
  exact ⟨rfl, _, rfl⟩

set_option maxRecDepth 100000 in
theorem left_nil (w : World) : Calls Try.prog 43 #[.pointer none] w fun e w' => e = .returned (.int .i64 0) ∧ w' = w := by
  go_enter Try.func43, Try.ntmps43
  go_wp2
  go_ret
  exact ⟨rfl, rfl⟩

set_option maxRecDepth 100000 in
theorem kind_nil (w : World) : Calls Try.prog 44 #[.pointer none] w fun e w' => e = .returned (.int .i64 0) ∧ w' = w := by
  go_enter Try.func44, Try.ntmps44
  go_wp2_with (go_at_call 43; refine (left_nil _).mono ?_; rintro e w' ⟨rfl, rfl⟩)
  go_ret
  exact ⟨rfl, rfl⟩

set_option maxRecDepth 100000 in
theorem kind_end {w : World} {r : Nat} {s : ByteArray} {k : Nat} (h : IsT w r s k) (hk : k = s.size) (hs : s.size ≤ maxLen) : Calls Try.prog 44 #[.pointer (some ⟨r, 0, none⟩)] w fun e w' => e = .returned (.int .i64 0) ∧ ∃ n, w' = w.drewN n := by
  have e0 : (s.size : Int) - (k : Int) = 0 := by omega
  have H := (left_calls h (by omega) hs)
  rw [e0] at H
  clear e0 hk
  go_enter Try.func44, Try.ntmps44
  go_wp2_with (go_at_call 43; refine H.mono ?_; rintro e w' ⟨rfl, n, rfl⟩)
  go_ret
  exact ⟨rfl, _, rfl⟩

/-- The byte of a place. -/
def byte (s : ByteArray) (k : Nat) : Int := ((s.data.toList.getD k 0).toNat : Nat)

theorem byte_eq {s : ByteArray} {k : Nat} (h : k < s.size) : ((s[k].toNat : Nat) : Int) = byte s k := by
  unfold byte
  have e : s.data.toList.getD k 0 = s[k] := by
    rw [List.getD_eq_getElem?_getD, Array.getElem?_toList, Array.getElem?_eq_getElem (by exact h)]
    rfl
  rw [e]

theorem quiet_at {P : Program} {f : FuncId} {args : Array Value} {w : World} {v : Value} {x : Int} (h : Calls P f args w fun e w' => e = .returned v ∧ w' = w) : Calls P f args w fun e w' => e = .returned v ∧ ∃ m, w' = w.drewN m :=
  h.mono fun _ _ ⟨he, hm⟩ => ⟨he, 0, hm⟩

set_option maxRecDepth 100000 in
theorem kind_at {w : World} {r : Nat} {s : ByteArray} {k : Nat} (h : IsT w r s k) (hk : k < s.size) (hs : s.size ≤ maxLen) : Calls Try.prog 44 #[.pointer (some ⟨r, 0, none⟩)] w fun e w' => e = .returned (.int .i64 (cls (byte s k))) ∧ ∃ n, w' = w.drewN n := by
  have H := Aside0.mk (left_calls h (Nat.le_of_lt hk) hs)
  have hs2 := hs
  unfold maxLen at hs2
  have HT := Aside0.mk h
  clear h hs
  have h0 : (0 : Int) < (s.size : Int) - (k : Int) := by omega
  go_enter Try.func44, Try.ntmps44
  go_wp2_with (go_at_call 43; refine H.out.mono ?_; rintro e w1 ⟨rfl, n, hq⟩; obtain ⟨b0, b1, b2⟩ := (HT.out.drewN hq).cells; have HQ := Aside0.mk hq; clear hq)
  go_quiet ((go_at_call 37; exact Calls.quiet_of_same (class_calls _ _)))
  go_wp2
  go_ret
  refine ⟨ret_i (by rw [byte_eq hk]), _, by rw [HQ.out, World.drewN_drewN]⟩
end Go.Proofs.Ytmknlojgjlpgfaa.TextA
