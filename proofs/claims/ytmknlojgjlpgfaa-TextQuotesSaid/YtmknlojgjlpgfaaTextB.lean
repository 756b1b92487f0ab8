/- Package text: a reader takes bytes. -/
import Derived.Test.YtmknlojgjlpgfaaTextA
namespace Go.Proofs.Ytmknlojgjlpgfaa.TextB
open Go.RowKit Go.Proofs.YtmknlojgjlpgfaaW.PrintWords Go.Proofs.YtmknlojgjlpgfaaW.PrintLast Go.Proofs.YtmknlojgjlpgfaaW.PrintMore Go.Proofs.Ytmknlojgjlpgfaa.TextA
attribute [local go_sem ↓] Go.wp_at_zero Go.wp_at_succ
set_option linter.unusedVariables false
set_option linter.unusedSimpArgs false

/-- Only block g has turned, and what is new. -/
def Only (g : Nat) (a w : World) : Prop := a.grownBy w (some g)

theorem Only.refl (g : Nat) (a : World) : Only g a a := ⟨rfl, rfl, rfl, Nat.le_refl _, fun _ _ _ => rfl⟩
theorem Only.trans {g : Nat} {a b c : World} (h : Only g a b) (k : Only g b c) : Only g a c :=
  ⟨k.os.trans h.os, k.tape.trans h.tape, k.output.trans h.output, Nat.le_trans h.size k.size, fun i hi hn => (k.block i (Nat.lt_of_lt_of_le hi h.size) hn).trans (h.block i hi hn)⟩
theorem Only.drewN {g : Nat} {a w : World} (h : Only g a w) {n : Nat} {w' : World} (e : w' = w.drewN n) : Only g a w' := by subst e; exact ⟨h.os, h.tape, h.output, h.size, h.block⟩
theorem Only.set {g : Nat} {a w : World} (h : Only g a w) (i : Nat) (u : Value) : Only g a (w.setCell ⟨g, i, none⟩ u) :=
  ⟨h.os, h.tape, h.output, by simpa [World.setCell] using h.size, fun j hj hne => (Below.heap_setCell w ⟨g, i, none⟩ u j (by rintro rfl; exact hne rfl)).trans (h.block j hj hne)⟩
theorem Only.below {B g : Nat} {a w : World} (h : Only g a w) (hB : B ≤ g) (hg : g < a.heap.size) : Below B a w :=
  ⟨h.os, h.tape, h.output, h.size, fun i hi => h.block i (by omega) (by intro e; injection e with e; omega)⟩
theorem Only.blk {g : Nat} {a w : World} (h : Only g a w) {b : Nat} {o : Obj} (hb : a.heap[b]? = some o) (hne : b ≠ g) : w.heap[b]? = some o :=
  (h.block b (blk_lt hb) (by intro e; injection e with e; exact hne e)).trans hb
theorem Only.cell {g : Nat} {a w : World} (h : Only g a w) {p : Addr} {v : Value} (hb : a.cell? p = some v) (hne : p.block ≠ g) : w.cell? p = some v :=
  (World.cell?_of_block (h.block p.block (World.block_lt_of_cell? a p hb) (by intro e; injection e with e; exact hne e))).trans hb

/-- Is a number among the first so many of some? -/
def memTo (cl : List Int) (c : Int) : Nat → Bool
  | 0 => false
  | n + 1 => memTo cl c n || (rd cl n == c)

/-- From k on, up to e, all bytes are of some classes; the one there is not. -/
def Runs (s : ByteArray) (cl : List Int) (k e : Nat) : Prop :=
  k ≤ e ∧ e ≤ s.size ∧ (∀ i, k ≤ i → i < e → memTo cl (cls (byte s i)) cl.length = true) ∧ (e < s.size → memTo cl (cls (byte s e)) cl.length = false)

theorem Runs.unique {s : ByteArray} {cl : List Int} {k e e' : Nat} (h : Runs s cl k e) (h' : Runs s cl k e') : e = e' := by
  obtain ⟨a1, a2, a3, a4⟩ := h
  obtain ⟨b1, b2, b3, b4⟩ := h'
  rcases Nat.lt_trichotomy e e' with hl | hl | hl
  · have := a4 (by omega); rw [b3 e (by omega) hl] at this; cases this
  · exact hl
  · have := b4 (by omega); rw [a3 e' (by omega) hl] at this; cases this

/-- What is there of a run. -/
def RunPost (w : World) (r : Nat) (s : ByteArray) (cl : List Int) (k : Nat) (e : Ending) (w' : World) : Prop :=
  ∃ j, Runs s cl k j ∧ e = .returned (.string (s.extract k j)) ∧ IsT w' r s j ∧ Only r w w'

theorem run_post {w w' : World} {r : Nat} {s : ByteArray} {cl : List Int} {k j : Nat} (h1 : Aside0 (Runs s cl k j)) (h2 : Aside0 (IsT w' r s j)) (h3 : Aside0 (Only r w w')) {n : Nat} :
    RunPost w r s cl k (.returned (.string (s.extract k j))) (w'.drewN n) := ⟨j, h1.out, rfl, h2.out.drewN rfl, h3.out.drewN rfl⟩

set_option maxHeartbeats 2000000 in
set_option maxRecDepth 100000 in
theorem run_calls {w : World} {r : Nat} {s : ByteArray} {k : Nat} (cl : List Int) (A : Option Addr) (cap : Nat) (h : IsT w r s k) (hk : k ≤ s.size) (hs : s.size ≤ maxLen) (hn : cl.length ≤ 60)
    (hc : ∀ i, i < cl.length → ∃ ad, A = some ad ∧ (ad.add i).block ≠ r ∧ w.cell? (ad.add i) = some (.int .i64 (rd cl i))) :
    Calls Try.prog 41 #[.pointer (some ⟨r, 0, none⟩), .slice A cl.length cap] w (RunPost w r s cl k) := by
  have HC := Aside0.mk hc
  have HT := Aside0.mk h
  have HK := Aside0.mk hk
  have hs1 := hs
  unfold maxLen at hs1
  have HS := Aside0.mk hs
  have HN := Aside0.mk hn
  clear hc h hk hs hn
  go_enter Try.func41, Try.ntmps41
  go_wp2_with (first | (go_at_call 42; refine (at_calls HT.out).mono ?_; rintro e w' ⟨rfl, hq⟩; subst w'))
  go_loopg [] (s.size - k) (fun kq w' => ∃ k1 : Nat, Aside0 (k1 + kq = s.size ∧ k ≤ k1) ∧ Aside0 (∀ i, k ≤ i → i < k1 → memTo cl (cls (byte s i)) cl.length = true) ∧ Aside0 (IsT w' r s k1) ∧ Aside0 (Only r w w'))
  case atStart => exact ⟨k, ⟨by have := HK.out; omega⟩, ⟨fun i h1 h2 => by omega⟩, HT, ⟨Only.refl _ _⟩⟩
  case round =>
    clear HT
    obtain ⟨k1, HX, HM, HT, HO⟩ := hrel
    cases gk with
    | succ g1 =>
      have hlt : (0 : Int) < (s.size : Int) - (k1 : Int) := by have := HX.out; omega
      go_wp2_with (first | (go_at_call 43; refine (left_calls HT.out (by have := HX.out; omega) HS.out).mono ?_; rintro e w1 ⟨rfl, n1, hq⟩; have HT1 := Aside0.mk (HT.out.drewN hq); have HO1 := Aside0.mk (HO.out.drewN hq); clear HT HO hq) | (go_at_call 44; refine (kind_at HT1.out (by have := HX.out; omega) HS.out).mono ?_; rintro e w2 ⟨rfl, n2, hq⟩; have HT := Aside0.mk (HT1.out.drewN hq); have HO := Aside0.mk (HO1.out.drewN hq); clear HT1 HO1 hq))
      clear hlt
      obtain ⟨c, hcq⟩ : ∃ c, c = cls (byte s k1) := ⟨_, rfl⟩
      rw [← hcq]
      have HCQ := Aside0.mk hcq
      clear hcq
      go_loopg [7, 19] cl.length (fun kq v7 v19 w' => ∃ (i : Nat), v19 = .int .i64 (i : Int) ∧ v7 = .bool (memTo cl c i) ∧ Aside0 (i + kq = cl.length) ∧ Aside0 (w' = w2))
      case atStart => exact ⟨0, rfl, rfl, ⟨by omega⟩, ⟨rfl⟩⟩
      case round =>
        obtain ⟨i, rfl, rfl, HI, HW⟩ := hrel
        have hwr := HW.out
        subst hwr
        cases gk with
        | succ g2 =>
          have hlt : (i : Int) < (cl.length : Int) := by have := HI.out; omega
          have hi60 : (i : Int) < 60 := by have := HI.out; have := HN.out; omega
          have hi0 : (0 : Int) ≤ (i : Int) := by omega
          obtain ⟨ad, ead, hne, hcell⟩ := HC.out i (by omega)
          cases ead
          replace hcell := HO.out.cell hcell hne
          obtain ⟨x, hx⟩ : ∃ x, rd cl (i : Int) = x := ⟨_, rfl⟩
          rw [hx] at hcell
          clear hne
          obtain ⟨b, hb⟩ : ∃ b, memTo cl c i = b := ⟨_, rfl⟩
          rw [hb]
          have HB := Aside0.mk hb
          have HX2 := Aside0.mk hx
          clear hb hx
          cases b
          · go_wp2
            go_roundg g2
            case measure => omega
            case rel => exact ⟨i + 1, by go_num, by simp [memTo, HB.out, HX2.out], ⟨by have := HI.out; omega⟩, ⟨rfl⟩⟩
          · go_wp2
            go_roundg g2
            case measure => omega
            case rel => exact ⟨i + 1, by go_num, by simp [memTo, HB.out], ⟨by have := HI.out; omega⟩, ⟨rfl⟩⟩
        | zero =>
          have hge : ¬ ((i : Int) < (cl.length : Int)) := by have := HI.out; omega
          have hil : i = cl.length := by have := HI.out; omega
          obtain ⟨b, hb⟩ : ∃ b, memTo cl c i = b := ⟨_, rfl⟩
          rw [hb]
          rw [hil, HCQ.out] at hb
          have HB := Aside0.mk hb
          clear hb hil
          cases b
          · have HE : Aside0 (Runs s cl k k1) := ⟨HX.out.2, by have := HX.out; omega, HM.out, fun _ => HB.out⟩
            obtain ⟨t0, t1, t2⟩ := HT.out.cells
            have g1' : (k : Int) ≤ (k1 : Int) := by have := HX.out; omega
            have g2' : (k1 : Int) ≤ (s.size : Int) := by have := HX.out; omega
            go_wp2
            go_quiet (fail)
            go_wp2
            go_ret
            exact run_post HE HT HO
          · obtain ⟨t0, t1, t2⟩ := HT.out.cells
            have hk1 : (k1 : Int) < 9223372036854775807 := by have := HX.out; omega
            go_wp2
            have HT' := Aside0.mk (HT.out.set (k1 + 1))
            have HO' := Aside0.mk (HO.out.set 1 (.int .i64 ((k1 + 1 : Nat) : Int)))
            go_roundg g1
            case measure => omega
            case rel =>
              refine ⟨k1 + 1, ⟨by have := HX.out; omega⟩, ⟨fun i h1 h2 => ?_⟩, HT', HO'⟩
              by_cases e : i = k1
              · subst e; exact HB.out
              · exact HM.out i h1 (by omega)
    | zero =>
      have hke : k1 = s.size := by have := HX.out; omega
      have HE : Aside0 (Runs s cl k k1) := ⟨HX.out.2, by omega, HM.out, fun h => by omega⟩
      have e0 : (s.size : Int) - (k1 : Int) = 0 := by omega
      have g1' : (k : Int) ≤ (k1 : Int) := by have := HX.out; omega
      have g2' : (k1 : Int) ≤ (s.size : Int) := by have := HX.out; omega
      have HL := Aside0.mk (left_calls HT.out (by omega) HS.out)
      rw [e0] at HL
      clear hke e0
      go_wp2_with (first | (go_at_call 43; refine HL.out.mono ?_; rintro e w1 ⟨rfl, n1, hq⟩; have HT1 := Aside0.mk (HT.out.drewN hq); have HO1 := Aside0.mk (HO.out.drewN hq); clear hq; obtain ⟨t0, t1, t2⟩ := HT1.out.cells))
      go_quiet (fail)
      go_wp2
      go_ret
      exact run_post HE HT1 HO1
end Go.Proofs.Ytmknlojgjlpgfaa.TextB
