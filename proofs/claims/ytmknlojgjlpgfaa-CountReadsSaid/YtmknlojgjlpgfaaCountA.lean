/- Package count: the counts in memory, and what each of its functions does to them. -/
import Derived.Test.YtmknlojgjlpgfaaBitsA
import Derived.Test.YtmknlojgjlpgfaaPHashSumsx0
import Derived.BigRegion
namespace Go.Proofs.Ytmknlojgjlpgfaa.CountA
open Go.RowKit Go.Proofs.YtmknlojgjlpgfaaW.PrintWords Go.Proofs.YtmknlojgjlpgfaaW.PrintLast Go.Proofs.YtmknlojgjlpgfaaW.PrintMore Go.Proofs.Ytmknlojgjlpgfaa.BitsA
attribute [local go_sem] max2_int min2_int max_two min_two
set_option linter.unusedVariables false
set_option linter.unusedSimpArgs false

/-- Numbers, as cells. -/
def row (f : Nat → Int) (m : Nat) : Array Value := ((List.range m).map fun (j : Nat) => Value.int .i64 (f j)).toArray
def upd (f : Nat → Int) (j : Nat) (v : Int) : Nat → Int := fun i => if i = j then v else f i

theorem row_size (f : Nat → Int) (m : Nat) : (row f m).size = m := by simp [row]
theorem row_get (f : Nat → Int) (m j : Nat) (hj : j < m) : (row f m)[j]? = some (.int .i64 (f j)) := by simp [row, hj]
theorem row_set (f : Nat → Int) (m j : Nat) (v : Int) : (row f m).setIfInBounds j (.int .i64 v) = row (upd f j v) m := by
  apply Array.ext_getElem?
  intro i
  by_cases h : i < m
  · by_cases e : j = i
    · subst e
      rw [row_get _ _ _ h, Array.getElem?_setIfInBounds_self_of_lt (by simpa [row] using h)]
      simp [upd]
    · rw [Array.getElem?_setIfInBounds_ne e, row_get _ _ _ h, row_get _ _ _ h]
      have : ¬ i = j := fun h => e h.symm
      simp [upd, this]
  · rw [Array.getElem?_eq_none (by simp [row]; omega), Array.getElem?_eq_none (by simp [row]; omega)]

/-- Counts: the struct in block c, their rows in block b, n of them: row i's count k stands at 6 i + k. -/
def IsC (w : World) (c b n : Nat) (f : Nat → Int) : Prop :=
  c ≠ b ∧ n ≤ 64 ∧ w.heap[c]? = some (.cells #[.slice (some ⟨b, 0, none⟩) n n] 70 (0, 0)) ∧ w.heap[b]? = some (.cells (row f (n * 6)) 47 (0, 0))

theorem IsC.kept {w w' : World} {c b n : Nat} {f : Nat → Int} (h : IsC w c b n f) (hc : w'.heap[c]? = w.heap[c]?) (hb : w'.heap[b]? = w.heap[b]?) : IsC w' c b n f :=
  ⟨h.1, h.2.1, hc.trans h.2.2.1, hb.trans h.2.2.2⟩

theorem IsC.below {w w' : World} {c b n : Nat} {f : Nat → Int} (h : IsC w c b n f) (hb : Below w.heap.size w w') : IsC w' c b n f :=
  h.kept (hb.block c (blk_lt h.2.2.1)) (hb.block b (blk_lt h.2.2.2))

/-- A shard, as a value. -/
def sh (f : Nat → Int) : Value := .agg #[.int .i64 (f 0), .int .i64 (f 1), .int .i64 (f 2), .int .i64 (f 3), .int .i64 (f 4), .int .i64 (f 5)]

theorem info47 : (Try.prog.info? 47).map (fun i => (i.zero, i.size, i.bytes)) = some (some (.agg #[.int .i64 0, .int .i64 0, .int .i64 0, .int .i64 0, .int .i64 0, .int .i64 0]), 6, 48) := by kernel_rfl

def parts (n : Int) : Int := if 64 < (if n < 1 then 1 else n) then 64 else (if n < 1 then 1 else n)
theorem parts_range (n : Int) : 1 ≤ parts n ∧ parts n ≤ 64 := by unfold parts; (repeat' split) <;> omega

theorem made_row (n : Nat) : madeCells #[.int .i64 0, .int .i64 0, .int .i64 0, .int .i64 0, .int .i64 0, .int .i64 0] (n * 6) = row (fun _ => 0) (n * 6) := by
  apply Array.ext_getElem?
  intro i
  by_cases h : i < n * 6
  · rw [row_get _ _ _ h]
    have h6 : i % 6 < 6 := Nat.mod_lt _ (by decide)
    simp only [madeCells, Array.getElem?_map, Array.getElem?_range, h]
    simp
    obtain h0 | h0 | h0 | h0 | h0 | h0 : i % 6 = 0 ∨ i % 6 = 1 ∨ i % 6 = 2 ∨ i % 6 = 3 ∨ i % 6 = 4 ∨ i % 6 = 5 := by omega
    all_goals simp [h0]
  · rw [Array.getElem?_eq_none (by simp [madeCells]; omega), Array.getElem?_eq_none (by simp [row]; omega)]

set_option maxRecDepth 100000 in
theorem new_calls (many : Int) (w : World) : Calls Try.prog 25 #[.int .i64 many] w fun e w' => ∃ c b, e = .returned (.pointer (some ⟨c, 0, none⟩)) ∧ IsC w' c b (parts many).toNat (fun _ => 0) ∧ w.heap.size ≤ c ∧ w.heap.size ≤ b ∧ Below w.heap.size w w' := by
  have hp := parts_range many
  obtain ⟨n, hn⟩ : ∃ n : Nat, parts many = (n : Int) := ⟨(parts many).toNat, by omega⟩
  obtain ⟨i0, hi, hz0, hz1, hz2⟩ := info_parts info47
  have hmk : ∀ W : World, (Instr.makeSlice 46 (.int .i64 (n : Int)) (.int .i64 (n : Int))).run Try.prog W = .ok (.slice (some ⟨W.heap.size, 0, none⟩) n n) (W.alloc (.cells (row (fun _ => 0) (n * 6)) 47 (0, 0))) := by
    intro W
    have := run_make W 46 47 i0 _ Try.underlying46 hi hz0 .i64 .i64 (n : Int) (n : Int) (by omega) (by omega) (by rw [hz2]; omega) (by omega)
    rw [this, hz1]
    have e : ((n : Int)).toNat = n := by omega
    rw [e]
    show Result.ok _ (W.alloc (.cells (madeCells #[.int .i64 0, .int .i64 0, .int .i64 0, .int .i64 0, .int .i64 0, .int .i64 0] (n * 6)) 47 (0, 0))) = _
    rw [made_row]
  have hn0 : (parts many).toNat = n := by omega
  rw [hn0]
  have hnn : (if 64 < (if many < 1 then 1 else many) then 64 else (if many < 1 then 1 else many)) = (n : Int) := hn
  rw [hn] at hp
  obtain ⟨j, hj⟩ : ∃ j, (if many < 1 then 1 else many) = j := ⟨_, rfl⟩
  rw [hj] at hnn
  clear hn hn0 hi hz0 hz1 hz2
  go_enter Try.func25, Try.ntmps25
  go_wp2
  go_ret
  refine ⟨w.heap.size + 1, w.heap.size, rfl, ⟨by omega, by omega, ?_, ?_⟩, by omega, Nat.le_refl _, below_alloc (below_alloc (Below.refl _ _) _) _⟩
  · have := (MapKept.heap_alloc (w.alloc (.cells (row (fun _ => 0) (n * 6)) 47 (0, 0))) (.cells #[.slice (some ⟨w.heap.size, 0, none⟩) n n] 70 (0, 0))).1
    have e : (w.alloc (.cells (row (fun _ => 0) (n * 6)) 47 (0, 0))).heap.size = w.heap.size + 1 := by simp
    rw [e] at this
    exact this
  · have h1 := (MapKept.heap_alloc w (.cells (row (fun _ => 0) (n * 6)) 47 (0, 0))).1
    exact ((below_alloc (Below.refl _ (w.alloc (.cells (row (fun _ => 0) (n * 6)) 47 (0, 0)))) _).block w.heap.size (by simp)).trans h1

set_option maxRecDepth 100000 in
theorem len_calls {w : World} {c b n : Nat} {f : Nat → Int} (h : IsC w c b n f) : Calls Try.prog 30 #[.pointer (some ⟨c, 0, none⟩)] w fun e w' => e = .returned (.int .i64 (n : Int)) ∧ w' = w := by
  have c0 : w.cell? ⟨c, 0, none⟩ = some (.slice (some ⟨b, 0, none⟩) n n) := by rw [blk_cell h.2.2.1]; rfl
  clear h
  go_enter Try.func30, Try.ntmps30
  go_wp2
  go_ret
  exact ⟨rfl, rfl⟩

set_option maxRecDepth 100000 in
theorem len_nil (w : World) : Calls Try.prog 30 #[.pointer none] w fun e w' => e = .returned (.int .i64 0) ∧ w' = w := by
  go_enter Try.func30, Try.ntmps30
  go_wp2
  go_ret
  exact ⟨rfl, rfl⟩

/-- Nothing but one block has turned (draws aside). -/
structure But (b : Nat) (w w' : World) : Prop where
  os : w'.os = w.os
  tape : w'.tape = w.tape
  output : w'.output = w.output
  size : w'.heap.size = w.heap.size
  block : ∀ k, k ≠ b → w'.heap[k]? = w.heap[k]?

theorem But.refl (b : Nat) (w : World) : But b w w := ⟨rfl, rfl, rfl, rfl, fun _ _ => rfl⟩
theorem But.below {b B : Nat} {w w' : World} (h : But b w w') (hb : B ≤ b) : Below B w w' := ⟨h.os, h.tape, h.output, Nat.le_of_eq h.size.symm, fun k hk => h.block k (by omega)⟩

/-- Is there such a one, such a kind? -/
def there (who kind : Int) (n : Nat) : Bool := decide (0 ≤ who ∧ who < (n : Int) ∧ 0 ≤ kind ∧ kind < 6)

set_option maxRecDepth 100000 in
theorem add_yes {w : World} {c b n : Nat} {f : Nat → Int} (h : IsC w c b n f) (who kind : Int) (h0 : 0 ≤ who) (h1 : who < (n : Int)) (h2 : 0 ≤ kind) (h3 : kind < 6) :
    Calls Try.prog 26 #[.pointer (some ⟨c, 0, none⟩), .int .i64 who, .int .i64 kind] w fun e w' => e = .returned (.bool true) ∧ IsC w' c b n (upd f (who.toNat * 6 + kind.toNat) (wrap64 (f (who.toNat * 6 + kind.toNat) + 1))) ∧ But b w w' := by
  have c0 : w.cell? ⟨c, 0, none⟩ = some (.slice (some ⟨b, 0, none⟩) n n) := by rw [blk_cell h.2.2.1]; rfl
  have HH := Aside0.mk h
  have C3 := Aside0.mk (fun w (h : IsC w c b n f) => len_calls h)
  clear h
  go_enter Try.func26, Try.ntmps26
  go_wp2_with (first | (go_at_call 30; (with_reducible refine (C3.out _ HH.out).mono ?_); rintro e w1 ⟨rfl, rfl⟩))
  have hj : who.toNat * 6 + kind.toNat < n * 6 := by omega
  have h4 : w1.cell? ⟨b, who.toNat * 6 + kind.toNat, none⟩ = some (.int .i64 (f (who.toNat * 6 + kind.toNat))) := by rw [blk_cell HH.out.2.2.2]; exact row_get _ _ _ hj
  have h5 : w1.frozen? ⟨b, who.toNat * 6 + kind.toNat, none⟩ = false := blk_frozen HH.out.2.2.2 _
  clear hj
  go_region
  go_wp2
  go_ret
  refine ⟨rfl, ⟨HH.out.1, HH.out.2.1, ?_, ?_⟩, ⟨rfl, rfl, rfl, by simp [World.setCell, World.drew], fun k hk => Below.heap_setCell _ _ _ _ hk⟩⟩
  · exact (Below.heap_setCell _ _ _ _ (by exact HH.out.1)).trans HH.out.2.2.1
  · have := blk_set HH.out.2.2.2 (who.toNat * 6 + kind.toNat) (.int .i64 (wrap64 (f (who.toNat * 6 + kind.toNat) + 1)))
    rw [row_set] at this
    exact this

set_option maxRecDepth 100000 in
theorem add_no {w : World} {c b n : Nat} {f : Nat → Int} (h : IsC w c b n f) (who kind : Int) (h0 : ¬ (0 ≤ who ∧ who < (n : Int) ∧ 0 ≤ kind ∧ kind < 6)) :
    Calls Try.prog 26 #[.pointer (some ⟨c, 0, none⟩), .int .i64 who, .int .i64 kind] w fun e w' => e = .returned (.bool false) ∧ w' = w := by
  have C3 := Aside0.mk (len_calls h)
  clear h
  have hor : who < 0 ∨ (¬ who < 0 ∧ (n : Int) ≤ who) ∨ (¬ who < 0 ∧ ¬ (n : Int) ≤ who ∧ kind < 0) ∨ (¬ who < 0 ∧ ¬ (n : Int) ≤ who ∧ ¬ kind < 0 ∧ 6 ≤ kind) := by omega
  clear h0
  rcases hor with h1 | ⟨h1, h2⟩ | ⟨h1, h2, h3⟩ | ⟨h1, h2, h3, h4⟩
  all_goals
    go_enter Try.func26, Try.ntmps26
    go_wp2_with (first | (go_at_call 30; (with_reducible refine C3.out.mono ?_); rintro e w1 ⟨rfl, rfl⟩))
    go_ret
    exact ⟨rfl, rfl⟩

/-- Counting, whoever and whatever. -/
def added (f : Nat → Int) (n : Nat) (who kind : Int) : Nat → Int := if there who kind n then upd f (who.toNat * 6 + kind.toNat) (wrap64 (f (who.toNat * 6 + kind.toNat) + 1)) else f

theorem add_calls {w : World} {c b n : Nat} {f : Nat → Int} (h : IsC w c b n f) (who kind : Int) :
    Calls Try.prog 26 #[.pointer (some ⟨c, 0, none⟩), .int .i64 who, .int .i64 kind] w fun e w' => e = .returned (.bool (there who kind n)) ∧ IsC w' c b n (added f n who kind) ∧ But b w w' := by
  by_cases h0 : 0 ≤ who ∧ who < (n : Int) ∧ 0 ≤ kind ∧ kind < 6
  · have ht : there who kind n = true := by simp [there, h0]
    have := add_yes h who kind h0.1 h0.2.1 h0.2.2.1 h0.2.2.2
    rw [ht, show added f n who kind = upd f (who.toNat * 6 + kind.toNat) (wrap64 (f (who.toNat * 6 + kind.toNat) + 1)) by simp [added, ht]]
    exact this
  · have ht : there who kind n = false := by simp only [there, h0, decide_false]
    rw [ht, show added f n who kind = f by simp [added, ht]]
    exact (add_no h who kind h0).mono fun e w' ⟨he, hw⟩ => by subst hw; exact ⟨he, h, But.refl _ _⟩

set_option maxRecDepth 100000 in
theorem of_yes {w : World} {c b n : Nat} {f : Nat → Int} (h : IsC w c b n f) (who : Int) (h0 : 0 ≤ who) (h1 : who < (n : Int)) :
    Calls Try.prog 27 #[.pointer (some ⟨c, 0, none⟩), .int .i64 who] w fun e w' => e = .returned (sh (fun k => f (who.toNat * 6 + k))) ∧ Below w.heap.size w w' := by
  obtain ⟨O, hO⟩ : ∃ O : Obj, O = .cells #[.int .i64 0, .int .i64 0, .int .i64 0, .int .i64 0, .int .i64 0, .int .i64 0] 47 (0, 0) := ⟨_, rfl⟩
  have h' : IsC (w.alloc O) c b n f := h.below (below_alloc (Below.refl _ w) O)
  have c0 : (w.alloc O).cell? ⟨c, 0, none⟩ = some (.slice (some ⟨b, 0, none⟩) n n) := by rw [blk_cell h'.2.2.1]; rfl
  have hc : ∀ k, k < 6 → (w.alloc O).cell? ⟨b, who.toNat * 6 + k, none⟩ = some (.int .i64 (f (who.toNat * 6 + k))) := fun k hk => by rw [blk_cell h'.2.2.2]; exact row_get _ _ _ (by omega)
  subst hO
  have k0 := hc 0 (by omega)
  rw [Nat.add_zero] at k0
  have k1 := hc 1 (by omega)
  have k2 := hc 2 (by omega)
  have k3 := hc 3 (by omega)
  have k4 := hc 4 (by omega)
  have k5 := hc 5 (by omega)
  have hn0 : ¬ who < 0 := by omega
  have hn1 : ¬ (n : Int) ≤ who := by omega
  have C3 := Aside0.mk (len_calls h')
  clear hc h h'
  go_enter Try.func27, Try.ntmps27
  go_wp2_with (first | (go_at_call 30; (with_reducible refine C3.out.mono ?_); rintro e w1 ⟨rfl, rfl⟩))
  refine bodyPost_ret (v := sh (fun k => f (who.toNat * 6 + k))) (by simp [results, Try.results27, go_sem, sh]) rfl ⟨rfl, ?_⟩
  exact below_alloc (Below.refl _ w) _

set_option maxRecDepth 100000 in
theorem of_no {w : World} {c b n : Nat} {f : Nat → Int} (h : IsC w c b n f) (who : Int) (h0 : ¬ (0 ≤ who ∧ who < (n : Int))) :
    Calls Try.prog 27 #[.pointer (some ⟨c, 0, none⟩), .int .i64 who] w fun e w' => e = .returned (sh (fun _ => 0)) ∧ Below w.heap.size w w' := by
  have h' : IsC (w.alloc (.cells #[.int .i64 0, .int .i64 0, .int .i64 0, .int .i64 0, .int .i64 0, .int .i64 0] 47 (0, 0))) c b n f := h.below (below_alloc (Below.refl _ w) _)
  have C3 := Aside0.mk (len_calls h')
  have hor : who < 0 ∨ (¬ who < 0 ∧ (n : Int) ≤ who) := by omega
  clear h h' h0
  rcases hor with h1 | ⟨h1, h2⟩
  all_goals
    go_enter Try.func27, Try.ntmps27
    go_wp2_with (first | (go_at_call 30; (with_reducible refine C3.out.mono ?_); rintro e w1 ⟨rfl, rfl⟩))
    refine bodyPost_ret (v := sh (fun k => 0)) (by simp [results, Try.results27, go_sem, sh]) rfl ⟨rfl, ?_⟩
    exact below_alloc (Below.refl _ w) _

end Go.Proofs.Ytmknlojgjlpgfaa.CountA
