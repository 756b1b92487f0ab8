/- Texts between marks, in plain Lean: where the law's own text ends. -/
import Derived.Test.YtmknlojgjlpgfaaTextC
namespace Go.Proofs.Ytmknlojgjlpgfaa.TextJ
open Go.Proofs.Ytmknlojgjlpgfaa.TextA Go.Proofs.Ytmknlojgjlpgfaa.TextC
set_option linter.unusedVariables false
set_option linter.unusedSimpArgs false

theorem append_list (a b : ByteArray) : (a ++ b).data.toList = a.data.toList ++ b.data.toList := by
  rw [ByteArray.data_append]; simp

theorem byte_left {a : ByteArray} (b : ByteArray) {i : Nat} (h : i < a.size) : byte (a ++ b) i = byte a i := by
  unfold byte
  have h' : i < a.data.toList.length := by rw [Array.length_toList]; exact h
  rw [append_list, List.getD_eq_getElem?_getD, List.getD_eq_getElem?_getD, List.getElem?_append_left h']

theorem byte_right (a b : ByteArray) (i : Nat) : byte (a ++ b) (a.size + i) = byte b i := by
  unfold byte
  have hl : a.data.toList.length = a.size := by rw [Array.length_toList]; rfl
  rw [append_list, List.getD_eq_getElem?_getD, List.getD_eq_getElem?_getD, List.getElem?_append_right (by omega), hl, Nat.add_sub_cancel_left]

/-- A text is the beginning of another one. -/
def Pre (a t : ByteArray) : Prop := a.size ≤ t.size ∧ ∀ i, i < a.size → byte t i = byte a i

theorem Pre.refl (a : ByteArray) : Pre a a := ⟨Nat.le_refl _, fun _ _ => rfl⟩
theorem Pre.trans {a b c : ByteArray} (h : Pre a b) (k : Pre b c) : Pre a c := ⟨Nat.le_trans h.1 k.1, fun i hi => (k.2 i (Nat.lt_of_lt_of_le hi h.1)).trans (h.2 i hi)⟩
theorem Pre.app (a b : ByteArray) : Pre a (a ++ b) := ⟨by rw [ByteArray.size_append]; omega, fun i hi => byte_left b hi⟩

/-- The one text of a mark. -/
def mk1 : ByteArray := ⟨#[39]⟩

/-- The law's text after so many bytes. -/
def esc (s : ByteArray) : Nat → ByteArray
  | 0 => mk1
  | n + 1 => if byte s n = 39 then esc s n ++ mk1 ++ s.extract n (n + 1) else esc s n ++ s.extract n (n + 1)

theorem one_size {s : ByteArray} {n : Nat} (h : n < s.size) : (s.extract n (n + 1)).size = 1 := by rw [ByteArray.size_extract]; omega
theorem one_byte {s : ByteArray} {n : Nat} (h : n < s.size) : byte (s.extract n (n + 1)) 0 = byte s n := by
  rw [← byte_eq h, ← byte_eq (by rw [one_size h]; omega)]
  congr 2
  simp [ByteArray.getElem_eq_getElem_data]

theorem esc_size (s : ByteArray) : ∀ n, n ≤ s.size → (esc s n).size ≤ 1 + 2 * n ∧ 1 ≤ (esc s n).size
  | 0, _ => ⟨Nat.le_refl 1, Nat.le_refl 1⟩
  | n + 1, h => by
    have ih := esc_size s n (by omega)
    unfold esc
    split
    · rw [ByteArray.size_append, ByteArray.size_append, one_size (by omega)]
      have : mk1.size = 1 := rfl
      omega
    · rw [ByteArray.size_append, one_size (by omega)]
      omega

theorem esc_pre (s : ByteArray) (n : Nat) : Pre (esc s n) (esc s (n + 1)) := by
  conv => rhs; unfold esc
  split
  · exact (Pre.app _ _).trans (Pre.app _ _)
  · exact Pre.app _ _

theorem esc_first (s : ByteArray) : ∀ n, byte (esc s n) 0 = 39
  | 0 => show byte mk1 0 = 39 by decide
  | n + 1 => by
    have h : 1 ≤ (esc s n).size := by
      induction n with
      | zero => exact Nat.le_refl 1
      | succ n ih => exact Nat.le_trans ih (esc_pre s n).1
    rw [(esc_pre s n).2 0 (by omega)]
    exact esc_first s n

theorem esc_pre_le (s : ByteArray) (n : Nat) : ∀ d, Pre (esc s n) (esc s (n + d))
  | 0 => Pre.refl _
  | d + 1 => (esc_pre_le s n d).trans (esc_pre s (n + d))

/-- Through the bytes of the law's text. -/
theorem fin_step {s t : ByteArray} {n : Nat} (hn : n < s.size) (hp : Pre (esc s (n + 1)) t) (f : Nat) : fin t (f + 1) (esc s n).size = fin t f (esc s (n + 1)).size := by
  have hs := one_size hn
  have hb := one_byte hn
  have hsz := hp.1
  have hpb := hp.2
  conv => lhs; unfold fin
  by_cases h : byte s n = 39
  · have e : esc s (n + 1) = esc s n ++ mk1 ++ s.extract n (n + 1) := by conv => lhs; unfold esc
                                                                         rw [if_pos h]
    have es : (esc s (n + 1)).size = (esc s n).size + 2 := by rw [e, ByteArray.size_append, ByteArray.size_append, hs]; rfl
    have m1 : mk1.size = 1 := rfl
    have b0 : byte t (esc s n).size = 39 := by
      rw [hpb _ (by omega), e, byte_left _ (by rw [ByteArray.size_append]; omega)]
      have := byte_right (esc s n) mk1 0
      rw [Nat.add_zero] at this
      rw [this]; decide
    have b1 : byte t ((esc s n).size + 1) = 39 := by
      rw [hpb _ (by omega), e]
      have := byte_right (esc s n ++ mk1) (s.extract n (n + 1)) 0
      rw [Nat.add_zero, ByteArray.size_append, m1] at this
      rw [this, hb, h]
    rw [if_neg (by omega), if_pos b0, if_pos ⟨by omega, b1⟩, es]
  · have e : esc s (n + 1) = esc s n ++ s.extract n (n + 1) := by conv => lhs; unfold esc
                                                                  rw [if_neg h]
    have es : (esc s (n + 1)).size = (esc s n).size + 1 := by rw [e, ByteArray.size_append, hs]
    have b0 : byte t (esc s n).size = byte s n := by
      rw [hpb _ (by omega), e]
      exact (byte_right (esc s n) (s.extract n (n + 1)) 0).trans hb
    rw [if_neg (by omega), if_neg (by rw [b0]; exact h), es]

theorem fin_all {s t : ByteArray} : ∀ n, n ≤ s.size → Pre (esc s n) t → ∀ f, fin t (f + n) 1 = fin t f (esc s n).size
  | 0, _, _, f => rfl
  | n + 1, h, hp, f => by
    have := fin_all n (by omega) ((esc_pre s n).trans hp) (f + 1)
    rw [show f + (n + 1) = f + 1 + n by omega, this]
    exact fin_step (by omega) hp f

theorem esc_more (s : ByteArray) : ∀ n, n ≤ s.size → n + 1 ≤ (esc s n).size
  | 0, _ => Nat.le_refl 1
  | n + 1, h => by
    have ih := esc_more s n (by omega)
    have := esc_pre s n
    unfold esc
    split
    · rw [ByteArray.size_append, ByteArray.size_append, one_size (by omega)]; omega
    · rw [ByteArray.size_append, one_size (by omega)]; omega

/-- A text that does not end. -/
theorem fin_open (s : ByteArray) (n : Nat) (h : n ≤ s.size) : fin (esc s n) (esc s n).size 1 = none := by
  have hm := esc_more s n h
  obtain ⟨f, hf⟩ : ∃ f, (esc s n).size = f + n := ⟨(esc s n).size - n, by omega⟩
  have := fin_all n h (Pre.refl _) f
  rw [hf, this]
  cases f with
  | zero => rfl
  | succ f => unfold fin; rw [if_pos (Nat.le_refl _)]

/-- One that does. -/
theorem fin_shut (s m : ByteArray) (n : Nat) (h : n ≤ s.size) (hm : m.size = 0 ∨ byte m 0 ≠ 39) : fin (esc s n ++ mk1 ++ m) (esc s n ++ mk1 ++ m).size (0 + 1) = some (esc s n).size := by
  have hp : Pre (esc s n) (esc s n ++ mk1 ++ m) := (Pre.app _ _).trans (Pre.app _ _)
  have hmo := esc_more s n h
  have m1 : mk1.size = 1 := rfl
  have hsz : (esc s n ++ mk1 ++ m).size = (esc s n).size + 1 + m.size := by rw [ByteArray.size_append, ByteArray.size_append, m1]
  obtain ⟨f, hf⟩ : ∃ f, (esc s n ++ mk1 ++ m).size = (f + 1) + n := ⟨(esc s n ++ mk1 ++ m).size - n - 1, by omega⟩
  have := fin_all n h hp (f + 1)
  rw [show (0 + 1) = 1 from rfl, hf, this]
  unfold fin
  have b0 : byte (esc s n ++ mk1 ++ m) (esc s n).size = 39 := by
    rw [byte_left _ (by rw [ByteArray.size_append]; omega)]
    have := byte_right (esc s n) mk1 0
    rw [Nat.add_zero] at this
    rw [this]; decide
  rw [if_neg (by omega), if_pos b0, if_neg]
  rintro ⟨h1, h2⟩
  rcases hm with hm | hm
  · omega
  · apply hm
    have := byte_right (esc s n ++ mk1) m 0
    rw [Nat.add_zero, ByteArray.size_append, m1] at this
    rw [← this]; exact h2

theorem first_cls (s m : ByteArray) (n : Nat) (h : n ≤ s.size) : cls (byte (esc s n ++ mk1 ++ m) 0) = 5 := by
  have hp : Pre (esc s n) (esc s n ++ mk1 ++ m) := (Pre.app _ _).trans (Pre.app _ _)
  rw [hp.2 0 (by have := (esc_size s n h).2; omega), esc_first]
  decide +kernel

theorem open_cls (s : ByteArray) (n : Nat) : cls (byte (esc s n) 0) = 5 := by rw [esc_first]; decide +kernel

theorem front (a b : ByteArray) : (a ++ b).extract 0 a.size = a := by
  apply ByteArray.ext
  simp

end Go.Proofs.Ytmknlojgjlpgfaa.TextJ
