/- Package gate: a gate in memory, and what each of its methods does to it. -/
import Derived.Test.YtmknlojgjlpgfaaProg
import Derived.WalkKit
import Derived.WalkSpells
import Derived.Below
import Derived.Carry
import Derived.Maps.OwnSet
import Derived.BigGuard
import Derived.BigQuiet
import Derived.Deep.LoopGhost
import Derived.Test.YtmknlojgjlpgfaaPHashSumsx0
namespace Go.Proofs.Ytmknlojgjlpgfaa.GateA
open Go.RowKit Go.Maps Go.Proofs.YtmknlojgjlpgfaaW.PrintWords Go.Proofs.YtmknlojgjlpgfaaW.PrintLast Go.Proofs.YtmknlojgjlpgfaaW.PrintMore
attribute [local go_sem] max2_int min2_int max_two min_two
set_option linter.unusedVariables false
set_option linter.unusedSimpArgs false

theorem law : Keyed Try.prog 3 := int_keyed Try.underlying3
theorem zero4 (w : World) : (zeroValue 4).run Try.prog w = .ok (.bool false) w := by kernel_rfl

/-- Block b is a map of at most n entries: its keys are S, each with true. -/
def GMap (w : World) (b n : Nat) (S : List Int) : Prop :=
  n < 4611686018427387904 ∧ S.Nodup ∧ ∃ D : DataW Unit, w.ownsMap Try.prog 3 (plainElem Try.prog 4) b n D ∧ Maps.size D = S.length ∧
    ∀ k : Int, D.atKey (.int .i64 k) (.lit (.bool false)) = .lit (.bool (decide (k ∈ S))) ∧ Maps.has D (.int .i64 k) = decide (k ∈ S)

theorem key_of {k : Int} (hk : (Lit.int .i64 k).wf = true) : keyOf Try.prog 3 (.int .i64 k) = some (.int .i64 k) := keyOf_int_mk Try.underlying3 hk

theorem GMap.look {w : World} {b n : Nat} {S : List Int} (h : GMap w b n S) {k : Int} (hk : (Lit.int .i64 k).wf = true) :
    (Instr.lookup 39 (.map (some b)) (.int .i64 k) false).run Try.prog w = .ok (.bool (decide (k ∈ S))) w := by
  obtain ⟨_, _, D, ho, _, hs⟩ := h
  obtain ⟨v, ps, hrun, hv⟩ := ho.lookup law Try.underlying39 (zero4 w) (plainElem_bool Try.underlying4 false) (key_of hk)
  rw [(hs k).1] at hv
  unfold plainElem at hv
  rw [Try.underlying4] at hv
  cases v <;> simp at hv
  rw [hrun, hv.1]

theorem GMap.len {w : World} {b n : Nat} {S : List Int} (h : GMap w b n S) (ty : TypeId) : (Builtin.len_ #[39] ty #[.map (some b)]).run Try.prog w = .ok (.int .i64 (S.length : Int)) w := by
  obtain ⟨_, _, D, ho, hl, hs⟩ := h
  rw [ho.len Try.underlying39 ty, hl]

theorem GMap.put {w : World} {b n : Nat} {S : List Int} (h : GMap w b n S) {k : Int} (hk : (Lit.int .i64 k).wf = true) (hn : n + 1 < 4611686018427387904) (hS : k ∉ S) :
    ∃ w', (Instr.mapUpdate 39 (.map (some b)) (.int .i64 k) (.bool true)).run Try.prog w = .ok () w' ∧ GMap w' b (n + 1) (k :: S) ∧ w.mapTurned w' b := by
  obtain ⟨_, hnd, D, ho, hl, hs⟩ := h
  obtain ⟨w', hrun, ho', ht⟩ := ho.store law Try.underlying39 (by unfold maxLen; omega) (key_of hk) (plainElem_bool Try.underlying4 true)
  have hkl : WideAt.IsKeyLit (.int .i64 k) := by first | trivial | (unfold WideAt.IsKeyLit; trivial) | (simp [WideAt.IsKeyLit])
  refine ⟨w', hrun, ⟨hn, List.nodup_cons.2 ⟨hS, hnd⟩, _, ho', ?_, fun j => ?_⟩, ht⟩
  · rw [Maps.size_put (ho.tidy law), (hs k).2]
    simp [hS, hl]
  · by_cases e : j = k
    · subst e
      rw [Maps.atKey_put_same ho.isMap hkl, Maps.has_put_same ho.isMap hkl]
      simp
    · have ne : (Lit.int .i64 j) ≠ .int .i64 k := by simp [e]
      rw [Maps.atKey_put_other ne, Maps.has_put_other ne, (hs j).1, (hs j).2]
      simp [e]

theorem GMap.drop {w : World} {b n : Nat} {S : List Int} (h : GMap w b n S) {k : Int} (hk : (Lit.int .i64 k).wf = true) (hS : k ∈ S) (ty : TypeId) :
    ∃ w', (Builtin.delete_ #[39, 3] ty #[.map (some b), .int .i64 k]).run Try.prog w = .ok (.tuple #[]) w' ∧ GMap w' b n (S.erase k) ∧ w.mapTurned w' b := by
  obtain ⟨hn, hnd, D, ho, hl, hs⟩ := h
  obtain ⟨w', hrun, ho', ht⟩ := ho.drop law Try.underlying39 (key_of hk) ty
  refine ⟨w', hrun, ⟨hn, hnd.erase k, _, ho', ?_, fun j => ?_⟩, ht⟩
  · have := Maps.size_del (k := .int .i64 k) (ho.tidy law)
    rw [(hs k).2] at this
    simp only [hS, decide_true, if_true] at this
    rw [List.length_erase_of_mem hS]
    omega
  · by_cases e : j = k
    · subst e
      rw [Maps.atKey_del_same, Maps.has_del_same]
      have : j ∉ S.erase j := fun hm => ((hnd.mem_erase_iff).1 hm).1 rfl
      simp [this]
    · have ne : (Lit.int .i64 j) ≠ .int .i64 k := by simp [e]
      rw [Maps.atKey_del_other ne, Maps.has_del_other ne, (hs j).1, (hs j).2]
      have : (j ∈ S.erase k) ↔ j ∈ S := by rw [hnd.mem_erase_iff]; simp [e]
      simp [this]

/-- A gate in block g, above B. -/
def IsGate (B : Nat) (w : World) (g n : Nat) (S : List Int) (c : Bool) : Prop :=
  ∃ mb, B ≤ g ∧ B ≤ mb ∧ g ≠ mb ∧ w.heap[g]? = some (.cells #[.map (some mb), .bool c] 41 (0, 0)) ∧ GMap w mb n S

theorem GMap.lt {w : World} {b n : Nat} {S : List Int} (h : GMap w b n S) : b < w.heap.size := by
  obtain ⟨_, _, D, ho, _⟩ := h
  exact ho.lt

theorem GMap.kept {w w' : World} {b n : Nat} {S : List Int} (h : GMap w b n S) (hb : w'.heap[b]? = w.heap[b]?) : GMap w' b n S := by
  obtain ⟨h1, h2, D, ⟨es, clock, hh, r⟩, h3⟩ := h
  exact ⟨h1, h2, D, ⟨es, clock, by rw [hb]; exact hh, r⟩, h3⟩

theorem GMap.mono {w : World} {b n m : Nat} {S : List Int} (h : GMap w b n S) (hm : n ≤ m) (hm' : m < 4611686018427387904) : GMap w b m S := by
  obtain ⟨h1, h2, D, ho, h3⟩ := h
  exact ⟨hm', h2, D, ho.mono hm, h3⟩

/-- A gate stays what it is where its blocks do. -/
theorem IsGate.kept {B : Nat} {w w' : World} {g n : Nat} {S : List Int} {c : Bool} (h : IsGate B w g n S c) (hb : Below w.heap.size w w') : IsGate B w' g n S c := by
  obtain ⟨mb, h1, h2, h3, h4, h5⟩ := h
  exact ⟨mb, h1, h2, h3, (hb.block g (Array.getElem?_eq_some_iff.1 h4).1).trans h4, h5.kept (hb.block mb h5.lt)⟩

end Go.Proofs.Ytmknlojgjlpgfaa.GateA
