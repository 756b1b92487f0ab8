/- CountPlays: however many there are, and whatever list of pairs is counted, the law answers true, and its arguments read as they did. No condition. -/
import Derived.Test.YtmknlojgjlpgfaaRows
import Derived.Test.YtmknlojgjlpgfaaCountH
import Derived.WalkKit
import Derived.ProofKit
import Derived.OpenShut
import Derived.ShutString
import Derived.ChangeSlices
import Derived.ChangeOld
import Derived.Below
import Derived.SizedLaws
namespace Go.Proofs.Ytmknlojgjlpgfaa.countPlays
open Go.ChangeShapes Go.WideShapes Go.ChangeAt Go.RowKit
open Go.ChangeMaps (open_string shut_string)
set_option linter.unusedVariables false
open Go.Proofs.YtmknlojgjlpgfaaW.PrintWords Go.Proofs.YtmknlojgjlpgfaaW.PrintLast
theorem cells3 : Try.prog.cellsOf 3 = 1 := by kernel_rfl
theorem cells48 : Try.prog.cellsOf 48 = 2 := by kernel_rfl
/-- A slice of pairs, opened: its cells, by their numbers. -/
theorem open_pairs {H : Type} {enc : TypeId × Value → H} {W : World} {base : Nat} {spare : Nat → Bool} {held : Bool} {A : Option Addr} {len cap : Nat} {d : DataW H} {p : List MemPlace} (hd : DataW.Trod enc Try.prog W base spare held 43 (.slice A len cap) d p) :
    ∃ xs ys : Nat → Int, len ≤ 9223372036854775807 ∧ ∀ i, i < len → ∃ b off, A = some ⟨b, off, none⟩ ∧ W.cell? ⟨b, off + i * 2, none⟩ = some (.int .i64 (xs i)) ∧ W.cell? ⟨b, off + i * 2 + 1, none⟩ = some (.int .i64 (ys i)) := by
  obtain ⟨fuel, hf⟩ := hd
  rcases DataW.trod_slice Try.underlying43 hf with ⟨hcs, _⟩ | ⟨a, len', cap', elems, rest, n, _, hcs, _, hb, hl, hm, hlen, hel, _, _⟩
  · simp [Value.cells] at hcs
    obtain ⟨rfl, rfl, rfl⟩ := hcs
    exact ⟨fun _ => 0, fun _ => 0, by decide, fun i hi => absurd hi (Nat.not_lt_zero i)⟩
  · simp [Value.cells] at hcs
    obtain ⟨rfl, rfl, rfl⟩ := hcs
    unfold maxLen at hm
    have key : ∀ i, i < len → ∃ x y : Int, W.cell? (a.add (i * 2)) = some (.int .i64 x) ∧ W.cell? ((a.add (i * 2)).add 1) = some (.int .i64 y) := by
      intro i hi
      have h := hel i hi
      rw [cells48, List.getElem?_eq_getElem (by omega), Option.bind_eq_some_iff] at h
      obtain ⟨cs, hc, ht⟩ := h
      obtain ⟨_, hcl, hcc⟩ := World.cells?_some hc
      obtain ⟨ys, m, _, _, hl2, hys, he⟩ := DataW.trod_array Try.underlying48 ht
      rw [cells3] at he
      match cs, hcl with
      | [c0, c1], _ =>
        have e0 := he 0 (by omega)
        have e1 := he 1 (by omega)
        simp only [Nat.zero_mul, Nat.one_mul, List.drop_zero, List.take_succ_cons, List.take_zero, List.drop_succ_cons] at e0 e1
        rw [List.getElem?_eq_getElem (by omega)] at e0 e1
        obtain ⟨x, hx, _, _⟩ := DataW.trod_int Try.underlying3 e0
        obtain ⟨y, hy, _, _⟩ := DataW.trod_int Try.underlying3 e1
        have g0 := hcc 0 (by omega)
        have g1 := hcc 1 (by omega)
        simp only [List.cons.injEq] at hx hy
        refine ⟨x, y, ?_, ?_⟩
        · have : (a.add (i * 2)).add 0 = a.add (i * 2) := by simp [Addr.add]
          rw [this] at g0
          rw [g0, hx.1]; rfl
        · rw [g1, hy.1]; rfl
    by_cases h0 : len = 0
    · exact ⟨fun _ => 0, fun _ => 0, by omega, fun i hi => absurd hi (by omega)⟩
    · obtain ⟨b, off, spot⟩ := a
      obtain ⟨x, y, hx, _⟩ := key 0 (by omega)
      have hspot : spot = none := by simpa [Addr.add] using World.cell?_spot hx
      subst hspot
      have key2 : ∀ i, i < len → ∃ x y : Int, W.cell? ⟨b, off + i * 2, none⟩ = some (.int .i64 x) ∧ W.cell? ⟨b, off + i * 2 + 1, none⟩ = some (.int .i64 y) := by
        intro i hi
        obtain ⟨x, y, h1, h2⟩ := key i hi
        rw [Go.WideShapes.add_plain] at h1 h2
        rw [Go.WideShapes.add_plain] at h2
        exact ⟨x, y, h1, h2⟩
      refine ⟨fun i => if h : i < len then (key2 i h).choose else 0, fun i => if h : i < len then (key2 i h).choose_spec.choose else 0, by omega, fun i hi => ⟨b, off, rfl, ?_, ?_⟩⟩
      · simp only [dif_pos hi]
        exact (key2 i hi).choose_spec.choose_spec.1
      · simp only [dif_pos hi]
        exact (key2 i hi).choose_spec.choose_spec.2
theorem laidOut : laidOutB Try.prog = true := by kernel_rfl
theorem own : ownKnob Try.prog.godebug = none := by kernel_rfl
set_option maxRecDepth 100000 in
theorem lifted (os : Os) (started : os.Started) (H : Type) (enc : TypeId × Value → H) :
    ReturnsInHanded {} Try.checked os 7 .any (Rows.countPlaysSpec.pre6 enc Try.prog Try.f7 Rows.countPlaysRow.domain false) (Rows.countPlaysSpec.post enc Try.prog Try.f7 false true false false) := by
  refine returnsInHanded_of_change_sized (C := Try.checked) own started (by kernel_rfl) Try.func7
    (ChangeSpec.witness6 (enc := enc) (C := Try.checked) false ⟨#[], #[.int .i64 0, .slice none 0 0], []⟩ 8 (by kernel_rfl) (by kernel_rfl) (by kernel_rfl) (by kernel_rfl)) ?_
  intro W base args ds gs before hval0 hW hcnd hsz0 _
  have hsz : (DataW.weightsEach Try.prog (Try.f7.params.toList ++ Rows.countPlaysSpec.plain.varTypes Try.prog) (ds ++ gs)).all (· ≤ reachBytes) = true := hsz0
  have hval : ∀ (j : Nat) t v, Try.f7.params[j]? = some t → args[j]? = some v → Value.okWide Try.prog W .any base t v := hval0
  have hW' := hW
  obtain ⟨p, q, hA0, hV, rfl, hfz, hnd⟩ := hW
  have hA : DataW.TrodAll enc Try.prog W 0 (fun _ => true) true Try.f7.params.toList args.toList ds p := hA0
  rw [Try.params7] at hA hval hsz
  obtain ⟨v0, vs0, d0, ds0, p0, q0, hargs, rfl, rfl, h0, r0⟩ := trodAll_cons hA
  obtain ⟨v1, vs1, d1, ds1, p1, q1, rfl, rfl, rfl, h1, r1⟩ := trodAll_cons r0
  obtain ⟨rfl, rfl, rfl⟩ := trodAll_nil r1
  obtain rfl : args = #[v0, v1] := by cases args; simp_all
  obtain ⟨rfl, rfl⟩ := trodVars_none hV
  obtain ⟨a0, rfl, rfl, rfl, w0⟩ := open_int Try.underlying3 (hval 0 3 v0 rfl rfl) h0
  obtain ⟨A, len, cap, rfl⟩ := okWide_slice Try.underlying43 (hval 1 43 v1 rfl rfl)
  clear hA0 hval0 hsz0 hsz
  have hlt : ∀ x ∈ p1, x.block < W.heap.size := fun x hx => by simpa using hW'.lt x (by simp [hx])
  have hargs : ∀ (W' : World), Below W.heap.size W W' → DataW.Trod enc Try.prog W' 0 (fun b => decide (b < W.heap.size)) true 43 (.slice A len cap) d1 p1 :=
    fun W' hn => Below.trod laidOut (by kernel_rfl) (of_decide_eq_true (by kernel_rfl)) h1 hn hlt
  obtain ⟨xs, ys, hlen, hc⟩ := open_pairs h1
  refine (CountH.plays_walk a0 A len cap xs ys W hlen hc).mono ?_
  rintro e W' ⟨rfl, bel⟩
  exact ⟨_, rfl, _, _, _, [], _, [], hW', trodAll_mk1 (shut_bool Try.underlying4 _), (trodAll_cons_mk (shut_int Try.underlying3 w0) (trodAll_cons_mk (hargs _ bel) trodAll_mk0)), rfl, bel.frame _, fun h => by cases h⟩
theorem over : Rows.countPlaysRow.holds Try.pinned (OpenSpec.ofChange Rows.countPlaysSpec) :=
  OpenClaim.holds_of_wide 7 Try.f7 rfl rfl rfl rfl rfl rfl rfl ⟨rfl, rfl, rfl, rfl, rfl⟩ rfl rfl rfl rfl rfl (by kernel_rfl) Try.func7 (by kernel_rfl)
    (of_decide_eq_true (by kernel_rfl)) (by unfold Func.isWrapper; first | (rw [if_pos (by decide +kernel)]; kernel_rfl) | (rw [if_neg (by decide +kernel)]; exact ⟨rfl, rfl⟩))
    (fun os started H enc _ => lifted os started H enc)
theorem proved : Rows.CountPlaysSaid := over
#print axioms proved
end Go.Proofs.Ytmknlojgjlpgfaa.countPlays
namespace Go.Proofs.Ytmknlojgjlpgfaa
/-- The row, under a short name, for the claim. -/
theorem countPlays_holds : Rows.CountPlaysSaid := countPlays.proved
end Go.Proofs.Ytmknlojgjlpgfaa
