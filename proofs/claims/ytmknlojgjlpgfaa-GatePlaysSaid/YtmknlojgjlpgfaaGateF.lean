/- Package gate: what each of its methods does, and that it leaves all but its own two blocks. -/
import Derived.Test.YtmknlojgjlpgfaaGateC
namespace Go.Proofs.Ytmknlojgjlpgfaa.GateF
open Go.RowKit Go.Maps Go.Proofs.YtmknlojgjlpgfaaW.PrintWords Go.Proofs.YtmknlojgjlpgfaaW.PrintLast Go.Proofs.YtmknlojgjlpgfaaW.PrintMore Go.Proofs.Ytmknlojgjlpgfaa.GateA Go.Proofs.Ytmknlojgjlpgfaa.GateB
set_option linter.unusedVariables false
set_option linter.unusedSimpArgs false

/-- A gate in block g, its map in block mb. -/
def GateM (w : World) (g mb n : Nat) (S : List Int) (c : Bool) : Prop :=
  g ≠ mb ∧ w.heap[g]? = some (.cells #[.map (some mb), .bool c] 41 (0, 0)) ∧ GMap w mb n S

/-- Nothing but two blocks has turned. -/
structure Only (g mb : Nat) (w w' : World) : Prop where
  os : w'.os = w.os
  tape : w'.tape = w.tape
  output : w'.output = w.output
  size : w'.heap.size = w.heap.size
  block : ∀ b, b ≠ g → b ≠ mb → w'.heap[b]? = w.heap[b]?

theorem Only.refl (g mb : Nat) (w : World) : Only g mb w w := ⟨rfl, rfl, rfl, rfl, fun _ _ _ => rfl⟩
theorem Only.set (g mb : Nat) (w : World) (j : Nat) (u : Value) : Only g mb w (w.setCell ⟨g, j, none⟩ u) :=
  ⟨rfl, rfl, rfl, by simp [World.setCell], fun b h _ => Below.heap_setCell _ _ _ _ h⟩
theorem Only.below {g mb B : Nat} {w w' : World} (h : Only g mb w w') (hg : B ≤ g) (hm : B ≤ mb) : Below B w w' :=
  ⟨h.os, h.tape, h.output, Nat.le_of_eq h.size.symm, fun k hk => h.block k (by omega) (by omega)⟩

/-- What a call tells, the gate behind it, and that it left the rest. -/
def TellsM (w0 : World) (g mb n : Nat) (S : List Int) (c : Bool) (v : Value) (e : Ending) (w' : World) : Prop :=
  e = .returned v ∧ GateM w' g mb n S c ∧ Only g mb w0 w'

theorem gateM_mono {w : World} {g mb n m : Nat} {S : List Int} {c : Bool} (h : GateM w g mb n S c) (hm : n ≤ m) (hm' : m < 4611686018427387904) : GateM w g mb m S c := by
  obtain ⟨h3, h4, h5⟩ := h
  exact ⟨h3, h4, h5.mono hm hm'⟩

theorem gateM_turned {w w' : World} {g n mb : Nat} {S : List Int} {c : Bool} (h3 : g ≠ mb) (h4 : w.heap[g]? = some (.cells #[.map (some mb), .bool c] 41 (0, 0))) (h5 : GMap w' mb n S) (ht : w.mapTurned w' mb) :
    GateM w' g mb n S c ∧ Only g mb w w' := by
  have hg := ht.grown
  obtain ⟨es, clock, es', clock', hb, rfl⟩ := ht
  exact ⟨⟨h3, blk_grown h4 hg (by simp [h3]), h5⟩, ⟨rfl, rfl, rfl, by simp [ChangeMaps.setBlock], fun b _ hb' => ChangeMaps.heap_setBlock_other hb _ hb'⟩⟩

theorem gateM_of {B : Nat} {w : World} {g n : Nat} {S : List Int} {c : Bool} (h : IsGate B w g n S c) : ∃ mb, B ≤ g ∧ B ≤ mb ∧ GateM w g mb n S c := by
  obtain ⟨mb, h1, h2, h3, h4, h5⟩ := h
  exact ⟨mb, h1, h2, h3, h4, h5⟩

theorem isGate_of {B : Nat} {w : World} {g mb n : Nat} {S : List Int} {c : Bool} (hg : B ≤ g) (hm : B ≤ mb) (h : GateM w g mb n S c) : IsGate B w g n S c := ⟨mb, hg, hm, h.1, h.2.1, h.2.2⟩

theorem GateM.kept {w w' : World} {g mb n : Nat} {S : List Int} {c : Bool} (h : GateM w g mb n S c) (hg : w'.heap[g]? = w.heap[g]?) (hm : w'.heap[mb]? = w.heap[mb]?) : GateM w' g mb n S c :=
  ⟨h.1, hg.trans h.2.1, h.2.2.kept hm⟩

set_option maxRecDepth 100000 in
theorem enterM {w : World} {g mb n : Nat} {S : List Int} {c : Bool} (h : GateM w g mb n S c) (who : Int) (hw : (Lit.int .i64 who).wf = true) (hn : n + 1 < 4611686018427387904) :
    Calls Try.prog 19 #[.pointer (some ⟨g, 0, none⟩), .int .i64 who] w (TellsM w g mb (n + 1) (enterSet who S c) c (.int .i64 (enterCode who S c))) := by
  have hsame := gateM_mono h (Nat.le_add_right n 1) hn
  obtain ⟨h3, h4, h5⟩ := h
  have c0 : w.cell? ⟨g, 0, none⟩ = some (.map (some mb)) := by rw [blk_cell h4]; rfl
  have c1 : w.cell? ⟨g, 1, none⟩ = some (.bool c) := by rw [blk_cell h4]; rfl
  have hl := h5.look hw
  have HG := Aside0.mk h5
  have H4 := Aside0.mk h4
  have HS := Aside0.mk hsame
  have he := eql39
  clear h5 h4 hsame
  by_cases hneg : who < 0
  · have hc : enterCode who S c = 1 := by simp [enterCode, hneg]
    have hS : enterSet who S c = S := by simp [enterSet, hc]
    rw [hc, hS]
    clear hc hS
    go_enter Try.func19, Try.ntmps19
    go_wp2
    go_ret
    exact ⟨rfl, HS.out, Only.refl _ _ _⟩
  · cases c with
    | true =>
      have hc : enterCode who S true = 9 := by simp [enterCode, hneg]
      have hS : enterSet who S true = S := by simp [enterSet, hc]
      rw [hc, hS]
      clear hc hS
      go_enter Try.func19, Try.ntmps19
      go_wp2
      go_ret
      exact ⟨rfl, HS.out, Only.refl _ _ _⟩
    | false =>
      by_cases hm : who ∈ S
      · have hc : enterCode who S false = 4 := by simp [enterCode, hneg, hm]
        have hS : enterSet who S false = S := by simp [enterSet, hc]
        rw [hc, hS]
        clear hc hS
        rw [decide_eq_true hm] at hl
        clear hm
        go_enter Try.func19, Try.ntmps19
        go_wp2
        go_ret
        exact ⟨rfl, HS.out, Only.refl _ _ _⟩
      · have hc : enterCode who S false = 0 := by simp [enterCode, hneg, hm]
        have hS : enterSet who S false = who :: S := by simp [enterSet, hc]
        rw [hc, hS]
        clear hc hS
        rw [decide_eq_false hm] at hl
        obtain ⟨w1, hrun, hg1, ht⟩ := HG.out.put hw hn hm
        have HG1 := Aside0.mk hg1
        have HT := Aside0.mk ht
        clear hm hg1 ht
        go_enter Try.func19, Try.ntmps19
        go_wp2
        go_ret
        exact ⟨rfl, gateM_turned h3 H4.out HG1.out HT.out⟩


set_option maxRecDepth 100000 in
theorem leaveM {w : World} {g mb n : Nat} {S : List Int} {c : Bool} (h : GateM w g mb n S c) (who : Int) (hw : (Lit.int .i64 who).wf = true) :
    Calls Try.prog 21 #[.pointer (some ⟨g, 0, none⟩), .int .i64 who] w (TellsM w g mb n (S.erase who) c (.int .i64 (leaveCode who S))) := by
  have hsame := h
  obtain ⟨h3, h4, h5⟩ := h
  have c0 : w.cell? ⟨g, 0, none⟩ = some (.map (some mb)) := by rw [blk_cell h4]; rfl
  have hl := h5.look hw
  have HG := Aside0.mk h5
  have H4 := Aside0.mk h4
  have HS := Aside0.mk hsame
  clear h5 h4 hsame
  by_cases hm : who ∈ S
  · have hc : leaveCode who S = 0 := by simp [leaveCode, hm]
    rw [hc]
    rw [decide_eq_true hm] at hl
    obtain ⟨w1, hrun, hg1, ht⟩ := HG.out.drop hw hm 0
    have HG1 := Aside0.mk hg1
    have HT := Aside0.mk ht
    clear hm hc hg1 ht
    go_enter Try.func21, Try.ntmps21
    go_wp2
    go_ret
    exact ⟨rfl, gateM_turned h3 H4.out HG1.out HT.out⟩
  · have hc : leaveCode who S = 3 := by simp [leaveCode, hm]
    have hS : S.erase who = S := List.erase_of_not_mem hm
    rw [hc, hS]
    rw [decide_eq_false hm] at hl
    clear hm hc hS
    go_enter Try.func21, Try.ntmps21
    go_wp2
    go_ret
    exact ⟨rfl, HS.out, Only.refl _ _ _⟩

set_option maxRecDepth 100000 in
theorem closeM {w : World} {g mb n : Nat} {S : List Int} {c : Bool} (h : GateM w g mb n S c) :
    Calls Try.prog 20 #[.pointer (some ⟨g, 0, none⟩)] w (TellsM w g mb n S true (.tuple #[])) := by
  obtain ⟨h3, h4, h5⟩ := h
  have c1 : w.cell? ⟨g, 1, none⟩ = some (.bool c) := by rw [blk_cell h4]; rfl
  have f1 : w.frozen? ⟨g, 1, none⟩ = false := blk_frozen h4 1
  have HG := Aside0.mk h5
  have H4 := Aside0.mk h4
  clear h5 h4
  go_enter Try.func20, Try.ntmps20
  go_wp2
  go_end0
  refine ⟨rfl, ⟨h3, ?_, ?_⟩, Only.set _ _ _ _ _⟩
  · have := blk_set H4.out 1 (.bool true)
    simpa using this
  · exact HG.out.kept (Below.heap_setCell _ _ _ _ (fun e => h3 e.symm))


end Go.Proofs.Ytmknlojgjlpgfaa.GateF
