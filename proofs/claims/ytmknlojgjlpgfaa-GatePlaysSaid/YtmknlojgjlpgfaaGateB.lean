/- Package gate: what each of its methods does, walked. -/
import Derived.Test.YtmknlojgjlpgfaaGateA
namespace Go.Proofs.Ytmknlojgjlpgfaa.GateB
open Go.RowKit Go.Maps Go.Proofs.YtmknlojgjlpgfaaW.PrintWords Go.Proofs.YtmknlojgjlpgfaaW.PrintLast Go.Proofs.YtmknlojgjlpgfaaW.PrintMore Go.Proofs.Ytmknlojgjlpgfaa.GateA
set_option linter.unusedVariables false
set_option linter.unusedSimpArgs false

theorem eql39 (w : World) (r : Option Nat) : (binOp .eql 39 (.map r) (.map none)).run Try.prog w = .ok (.bool r.isNone) w := run_eql_map_nil w _ _ _ r Try.underlying39

/-- What a call tells, and the gate behind it. -/
def Tells (B : Nat) (w0 : World) (g n : Nat) (S : List Int) (c : Bool) (v : Value) (e : Ending) (w' : World) : Prop :=
  e = .returned v ∧ IsGate B w' g n S c ∧ Below B w0 w'

theorem gate_mono {B : Nat} {w : World} {g n m : Nat} {S : List Int} {c : Bool} (h : IsGate B w g n S c) (hm : n ≤ m) (hm' : m < 4611686018427387904) : IsGate B w g m S c := by
  obtain ⟨mb, h1, h2, h3, h4, h5⟩ := h
  exact ⟨mb, h1, h2, h3, h4, h5.mono hm hm'⟩

theorem gate_turned {B : Nat} {w w' : World} {g n mb : Nat} {S : List Int} {c : Bool} (h1 : B ≤ g) (h2 : B ≤ mb) (h3 : g ≠ mb) (h4 : w.heap[g]? = some (.cells #[.map (some mb), .bool c] 41 (0, 0))) (h5 : GMap w' mb n S) (ht : w.mapTurned w' mb) :
    IsGate B w' g n S c ∧ Below B w w' := by
  have hg := ht.grown
  obtain ⟨es, clock, _, _, hb, _⟩ := ht
  have hlt := blk_lt hb
  exact ⟨⟨mb, h1, h2, h3, blk_grown h4 hg (by simp [h3]), h5⟩, Below.grown (Below.refl B w) hg (by omega) (fun k hk => by cases hk; exact h2)⟩

set_option maxRecDepth 100000 in
theorem new_calls (w : World) : Calls Try.prog 18 #[] w fun e w' => ∃ g, e = .returned (.pointer (some ⟨g, 0, none⟩)) ∧ IsGate w.heap.size w' g 0 [] false ∧ Below w.heap.size w w' := by
  have hmm := @run_makeMap Try.prog
  have HZ := Aside0.mk (World.ownsMap_made (H := Unit) w Try.prog 3 (plainElem Try.prog 4))
  go_enter Try.func18, Try.ntmps18
  go_wp2
  go_ret
  refine ⟨w.heap.size + 1, rfl, ⟨w.heap.size, by omega, Nat.le_refl _, by omega, ?_, by omega, List.nodup_nil, _, HZ.out.alloc _, rfl, fun k => ⟨?_, ?_⟩⟩, below_alloc (below_alloc (Below.refl _ _) _) _⟩
  · have := (MapKept.heap_alloc (w.alloc (.map #[] 0)) (.cells #[.map (some w.heap.size), .bool false] 41 (0, 0))).1
    have e : (w.alloc (.map #[] 0)).heap.size = w.heap.size + 1 := by simp
    rw [e] at this
    exact this
  · simp [DataW.atKey]
  · simp [Maps.has]

/-- What entering tells. -/
def enterCode (who : Int) (S : List Int) (c : Bool) : Int := if who < 0 then 1 else if c then 9 else if who ∈ S then 4 else 0
def enterSet (who : Int) (S : List Int) (c : Bool) : List Int := if enterCode who S c = 0 then who :: S else S

set_option maxRecDepth 100000 in
theorem enter_ok {B : Nat} {w : World} {g n : Nat} {S : List Int} {c : Bool} (h : IsGate B w g n S c) (who : Int) (hw : (Lit.int .i64 who).wf = true) (hn : n + 1 < 4611686018427387904) :
    Calls Try.prog 19 #[.pointer (some ⟨g, 0, none⟩), .int .i64 who] w (Tells B w g (n + 1) (enterSet who S c) c (.int .i64 (enterCode who S c))) := by
  have hsame := gate_mono h (Nat.le_add_right n 1) hn
  obtain ⟨mb, h1, h2, h3, h4, h5⟩ := h
  have c0 : w.cell? ⟨g, 0, none⟩ = some (.map (some mb)) := by rw [blk_cell h4]; rfl
  have c1 : w.cell? ⟨g, 1, none⟩ = some (.bool c) := by rw [blk_cell h4]; rfl
  have hl := h5.look hw
  have HG := Aside0.mk h5
  have H4 := Aside0.mk h4
  have HS := Aside0.mk hsame
  have he := eql39
  clear h5 h4 hsame
  by_cases hneg : who < 0
  · have hc : enterCode who S c = 1 := by simp [enterCode, hneg]
    have hS : enterSet who S c = S := by simp [enterSet, hc]
    rw [hc, hS]
    clear hc hS
    go_enter Try.func19, Try.ntmps19
    go_wp2
    go_ret
    exact ⟨rfl, HS.out, Below.refl _ _⟩
  · cases c with
    | true =>
      have hc : enterCode who S true = 9 := by simp [enterCode, hneg]
      have hS : enterSet who S true = S := by simp [enterSet, hc]
      rw [hc, hS]
      clear hc hS
      go_enter Try.func19, Try.ntmps19
      go_wp2
      go_ret
      exact ⟨rfl, HS.out, Below.refl _ _⟩
    | false =>
      by_cases hm : who ∈ S
      · have hc : enterCode who S false = 4 := by simp [enterCode, hneg, hm]
        have hS : enterSet who S false = S := by simp [enterSet, hc]
        rw [hc, hS]
        clear hc hS
        rw [decide_eq_true hm] at hl
        clear hm
        go_enter Try.func19, Try.ntmps19
        go_wp2
        go_ret
        exact ⟨rfl, HS.out, Below.refl _ _⟩
      · have hc : enterCode who S false = 0 := by simp [enterCode, hneg, hm]
        have hS : enterSet who S false = who :: S := by simp [enterSet, hc]
        rw [hc, hS]
        clear hc hS
        rw [decide_eq_false hm] at hl
        obtain ⟨w1, hrun, hg1, ht⟩ := HG.out.put hw hn hm
        have HG1 := Aside0.mk hg1
        have HT := Aside0.mk ht
        clear hm hg1 ht
        go_enter Try.func19, Try.ntmps19
        go_wp2
        go_ret
        exact ⟨rfl, gate_turned h1 h2 h3 H4.out HG1.out HT.out⟩

/-- What leaving tells. -/
def leaveCode (who : Int) (S : List Int) : Int := if who ∈ S then 0 else 3

set_option maxRecDepth 100000 in
theorem leave_ok {B : Nat} {w : World} {g n : Nat} {S : List Int} {c : Bool} (h : IsGate B w g n S c) (who : Int) (hw : (Lit.int .i64 who).wf = true) :
    Calls Try.prog 21 #[.pointer (some ⟨g, 0, none⟩), .int .i64 who] w (Tells B w g n (S.erase who) c (.int .i64 (leaveCode who S))) := by
  have hsame := h
  obtain ⟨mb, h1, h2, h3, h4, h5⟩ := h
  have c0 : w.cell? ⟨g, 0, none⟩ = some (.map (some mb)) := by rw [blk_cell h4]; rfl
  have hl := h5.look hw
  have HG := Aside0.mk h5
  have H4 := Aside0.mk h4
  have HS := Aside0.mk hsame
  clear h5 h4 hsame
  by_cases hm : who ∈ S
  · have hc : leaveCode who S = 0 := by simp [leaveCode, hm]
    rw [hc]
    rw [decide_eq_true hm] at hl
    obtain ⟨w1, hrun, hg1, ht⟩ := HG.out.drop hw hm 0
    have HG1 := Aside0.mk hg1
    have HT := Aside0.mk ht
    clear hm hc hg1 ht
    go_enter Try.func21, Try.ntmps21
    go_wp2
    go_ret
    exact ⟨rfl, gate_turned h1 h2 h3 H4.out HG1.out HT.out⟩
  · have hc : leaveCode who S = 3 := by simp [leaveCode, hm]
    have hS : S.erase who = S := List.erase_of_not_mem hm
    rw [hc, hS]
    rw [decide_eq_false hm] at hl
    clear hm hc hS
    go_enter Try.func21, Try.ntmps21
    go_wp2
    go_ret
    exact ⟨rfl, HS.out, Below.refl _ _⟩

set_option maxRecDepth 100000 in
theorem done_ok {B : Nat} {w : World} {g n : Nat} {S : List Int} {c : Bool} (h : IsGate B w g n S c) :
    Calls Try.prog 22 #[.pointer (some ⟨g, 0, none⟩)] w fun e w' => e = .returned (.bool (c && (S.length : Int) == 0)) ∧ w = w' := by
  obtain ⟨mb, h1, h2, h3, h4, h5⟩ := h
  have c0 : w.cell? ⟨g, 0, none⟩ = some (.map (some mb)) := by rw [blk_cell h4]; rfl
  have c1 : w.cell? ⟨g, 1, none⟩ = some (.bool c) := by rw [blk_cell h4]; rfl
  have hl := h5.len
  clear h5 h4
  cases c with
  | true =>
    go_enter Try.func22, Try.ntmps22
    go_wp2
    go_ret
    exact ⟨by simp, rfl⟩
  | false =>
    go_enter Try.func22, Try.ntmps22
    go_wp2
    go_ret
    exact ⟨by simp, rfl⟩

set_option maxRecDepth 100000 in
theorem len_ok {B : Nat} {w : World} {g n : Nat} {S : List Int} {c : Bool} (h : IsGate B w g n S c) :
    Calls Try.prog 24 #[.pointer (some ⟨g, 0, none⟩)] w fun e w' => e = .returned (.int .i64 (S.length : Int)) ∧ w = w' := by
  obtain ⟨mb, h1, h2, h3, h4, h5⟩ := h
  have c0 : w.cell? ⟨g, 0, none⟩ = some (.map (some mb)) := by rw [blk_cell h4]; rfl
  have hl := h5.len
  clear h5 h4
  go_enter Try.func24, Try.ntmps24
  go_wp2
  go_ret
  exact ⟨rfl, rfl⟩

set_option maxRecDepth 100000 in
theorem close_ok {B : Nat} {w : World} {g n : Nat} {S : List Int} {c : Bool} (h : IsGate B w g n S c) :
    Calls Try.prog 20 #[.pointer (some ⟨g, 0, none⟩)] w (Tells B w g n S true (.tuple #[])) := by
  obtain ⟨mb, h1, h2, h3, h4, h5⟩ := h
  have c1 : w.cell? ⟨g, 1, none⟩ = some (.bool c) := by rw [blk_cell h4]; rfl
  have f1 : w.frozen? ⟨g, 1, none⟩ = false := blk_frozen h4 1
  have HG := Aside0.mk h5
  have H4 := Aside0.mk h4
  clear h5 h4
  go_enter Try.func20, Try.ntmps20
  go_wp2
  go_end0
  refine ⟨rfl, ⟨mb, h1, h2, h3, ?_, ?_⟩, (Below.refl _ _).setCell h1 _⟩
  · have := blk_set H4.out 1 (.bool true)
    simpa using this
  · exact HG.out.kept (Below.heap_setCell _ _ _ _ (fun e => h3 e.symm))

/-! ### none, and one that New did not give -/
set_option maxRecDepth 100000 in
theorem enter_nil (who : Int) (w : World) : Calls Try.prog 19 #[.pointer none, .int .i64 who] w fun e w' => e = .returned (.int .i64 1) ∧ w = w' := by
  go_enter Try.func19, Try.ntmps19
  go_wp2
  go_ret
  exact ⟨rfl, rfl⟩

set_option maxRecDepth 100000 in
theorem enter_zero (g : Nat) (who : Int) (w : World) (c0 : w.cell? ⟨g, 0, none⟩ = some (.map none)) : Calls Try.prog 19 #[.pointer (some ⟨g, 0, none⟩), .int .i64 who] w fun e w' => e = .returned (.int .i64 1) ∧ w = w' := by
  have he := eql39
  go_enter Try.func19, Try.ntmps19
  go_wp2
  go_ret
  exact ⟨rfl, rfl⟩

set_option maxRecDepth 100000 in
theorem leave_nil (who : Int) (w : World) : Calls Try.prog 21 #[.pointer none, .int .i64 who] w fun e w' => e = .returned (.int .i64 3) ∧ w = w' := by
  go_enter Try.func21, Try.ntmps21
  go_wp2
  go_ret
  exact ⟨rfl, rfl⟩

set_option maxRecDepth 100000 in
theorem close_nil (w : World) : Calls Try.prog 20 #[.pointer none] w fun e w' => e = .returned (.tuple #[]) ∧ w = w' := by
  go_enter Try.func20, Try.ntmps20
  go_wp2
  go_end0
  exact ⟨rfl, rfl⟩

set_option maxRecDepth 100000 in
theorem len_nil (w : World) : Calls Try.prog 24 #[.pointer none] w fun e w' => e = .returned (.int .i64 0) ∧ w = w' := by
  go_enter Try.func24, Try.ntmps24
  go_wp2
  go_ret
  exact ⟨rfl, rfl⟩

set_option maxRecDepth 100000 in
theorem done_nil (w : World) : Calls Try.prog 22 #[.pointer none] w fun e w' => e = .returned (.bool true) ∧ w = w' := by
  go_enter Try.func22, Try.ntmps22
  go_wp2
  go_ret
  exact ⟨rfl, rfl⟩

theorem aw1 {B : Nat} {w : World} {g : Nat} (h : IsGate B w g 0 [] false) : Calls Try.prog 19 #[.pointer (some ⟨g, 0, none⟩), .int .i64 1] w (Tells B w g 1 [1] false (.int .i64 0)) :=
  enter_ok h 1 (by decide) (by decide)
theorem aw2 {B : Nat} {w : World} {g : Nat} (h : IsGate B w g 1 [1] true) : Calls Try.prog 19 #[.pointer (some ⟨g, 0, none⟩), .int .i64 2] w (Tells B w g 2 [1] true (.int .i64 9)) :=
  enter_ok h 2 (by decide) (by decide)
theorem aw3 {B : Nat} {w : World} {g : Nat} (h : IsGate B w g 2 [1] true) : Calls Try.prog 21 #[.pointer (some ⟨g, 0, none⟩), .int .i64 1] w (Tells B w g 2 [] true (.int .i64 0)) :=
  leave_ok h 1 (by decide)
theorem aw4 {B : Nat} {w : World} {g : Nat} (h : IsGate B w g 2 [] true) : Calls Try.prog 22 #[.pointer (some ⟨g, 0, none⟩)] w fun e w' => e = .returned (.bool true) ∧ w = w' :=
  done_ok h

set_option maxRecDepth 100000 in
theorem awake_ok (w : World) : Calls Try.prog 23 #[] w fun e w' => e = .returned (.bool true) ∧ Below w.heap.size w w' := by
  go_enter Try.func23, Try.ntmps23
  go_wp2_with (first | (go_at_call 18; (with_reducible refine (new_calls _).mono ?_); rintro e w1 ⟨g, rfl, hg, hb⟩; have HG := Aside0.mk hg; have HB := Aside0.mk hb; clear hg hb) | (go_at_call 19; (with_reducible refine (aw1 HG.out).mono ?_); rintro e w2 ⟨rfl, hg2, hb2⟩; have n1 := Aside0.mk hg2; have n2 := Aside0.mk (HB.out.trans hb2); clear HG HB hg2 hb2; have HG := n1; have HB := n2; clear n1 n2) | (go_at_call 20; (with_reducible refine (close_ok HG.out).mono ?_); rintro e w3 ⟨rfl, hg2, hb2⟩; have n1 := Aside0.mk hg2; have n2 := Aside0.mk (HB.out.trans hb2); clear HG HB hg2 hb2; have HG := n1; have HB := n2; clear n1 n2) | (go_at_call 19; (with_reducible refine (aw2 HG.out).mono ?_); rintro e w4 ⟨rfl, hg2, hb2⟩; have n1 := Aside0.mk hg2; have n2 := Aside0.mk (HB.out.trans hb2); clear HG HB hg2 hb2; have HG := n1; have HB := n2; clear n1 n2) | (go_at_call 21; (with_reducible refine (aw3 HG.out).mono ?_); rintro e w5 ⟨rfl, hg2, hb2⟩; have n1 := Aside0.mk hg2; have n2 := Aside0.mk (HB.out.trans hb2); clear HG HB hg2 hb2; have HG := n1; have HB := n2; clear n1 n2) | (go_at_call 22; (with_reducible refine (aw4 HG.out).mono ?_); rintro e w6 ⟨rfl, rfl⟩))
  go_ret
  exact ⟨rfl, HB.out⟩
end Go.Proofs.Ytmknlojgjlpgfaa.GateB
