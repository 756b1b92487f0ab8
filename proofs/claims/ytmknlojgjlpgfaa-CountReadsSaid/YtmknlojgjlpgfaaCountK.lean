/- Package count: a reader reads what the next one counted. -/
import Derived.Test.YtmknlojgjlpgfaaCountJ
namespace Go.Proofs.Ytmknlojgjlpgfaa.CountK
open Go.RowKit Go.Proofs.YtmknlojgjlpgfaaW.PrintWords Go.Proofs.YtmknlojgjlpgfaaW.PrintLast Go.Proofs.YtmknlojgjlpgfaaW.PrintMore Go.Proofs.Ytmknlojgjlpgfaa.BitsA Go.Proofs.Ytmknlojgjlpgfaa.CountA Go.Proofs.Ytmknlojgjlpgfaa.CountB Go.Proofs.Ytmknlojgjlpgfaa.CountC Go.Proofs.Ytmknlojgjlpgfaa.CountD Go.Proofs.Ytmknlojgjlpgfaa.CountE Go.Proofs.Ytmknlojgjlpgfaa.CountG Go.Proofs.Ytmknlojgjlpgfaa.CountH Go.Proofs.Ytmknlojgjlpgfaa.CountJ
attribute [local go_sem ↓] Go.wp_at_zero Go.wp_at_succ
set_option linter.unusedVariables false
set_option linter.unusedSimpArgs false

/-- The reader's cells written anew. -/
def putR (w : World) (r : Nat) (k : Int) (g : Nat → Int) : World :=
  ((((((w.setCell ⟨r, 2, none⟩ (.int .i64 (g 0))).setCell ⟨r, 3, none⟩ (.int .i64 (g 1))).setCell ⟨r, 4, none⟩ (.int .i64 (g 2))).setCell ⟨r, 5, none⟩ (.int .i64 (g 3))).setCell ⟨r, 6, none⟩ (.int .i64 (g 4))).setCell ⟨r, 7, none⟩ (.int .i64 (g 5))).setCell ⟨r, 1, none⟩ (.int .i64 k)

theorem putR_at {w : World} {r : Nat} {c : Option Addr} {k0 : Int} {g0 : Nat → Int} (h : IsR w r c k0 g0) (k : Int) (g : Nat → Int) : IsR (putR w r k g) r c k g := by
  have := blk_set (blk_set (blk_set (blk_set (blk_set (blk_set (blk_set h 2 (.int .i64 (g 0))) 3 (.int .i64 (g 1))) 4 (.int .i64 (g 2))) 5 (.int .i64 (g 3))) 6 (.int .i64 (g 4))) 7 (.int .i64 (g 5))) 1 (.int .i64 k)
  simp only [rd8, List.setIfInBounds_toArray, List.set_cons_zero, List.set_cons_succ] at this
  unfold IsR putR rd8
  exact this

theorem putR_other (w : World) (r : Nat) (k : Int) (g : Nat → Int) (b : Nat) (h : b ≠ r) : (putR w r k g).heap[b]? = w.heap[b]? := by
  unfold putR
  rw [Below.heap_setCell _ _ _ _ h, Below.heap_setCell _ _ _ _ h, Below.heap_setCell _ _ _ _ h, Below.heap_setCell _ _ _ _ h, Below.heap_setCell _ _ _ _ h, Below.heap_setCell _ _ _ _ h, Below.heap_setCell _ _ _ _ h]

theorem putR_below {B : Nat} {w0 w : World} {r : Nat} (h : Below B w0 w) (hr : B ≤ r) (k : Int) (g : Nat → Int) : Below B w0 (putR w r k g) :=
  ((((((h.setCell hr _).setCell hr _).setCell hr _).setCell hr _).setCell hr _).setCell hr _).setCell hr _

/-- What is there of a reader's call: the counts, the reader, and that below B nothing has turned. -/
def StepPost (B : Nat) (w : World) (c b n r : Nat) (f : Nat → Int) (k : Int) (g : Nat → Int) (done : Bool) (e : Ending) (w' : World) : Prop :=
  e = .returned (.bool done) ∧ IsR w' r (some ⟨c, 0, none⟩) k g ∧ IsC w' c b n f ∧ (∀ x, x < w.heap.size → x ≠ r → w'.heap[x]? = w.heap[x]?) ∧ Below B w w'

set_option maxHeartbeats 4000000 in
set_option maxRecDepth 100000 in
theorem step_go {B : Nat} {w : World} {c b n r : Nat} {f : Nat → Int} {k : Nat} {g : Nat → Int} (hC : IsC w c b n f) (h : IsR w r (some ⟨c, 0, none⟩) (k : Int) g) (hk : k < n) (hrc : r ≠ c) (hrb : r ≠ b) (hBr : B ≤ r) :
    Calls Try.prog 34 #[.pointer (some ⟨r, 0, none⟩)] w (StepPost B w c b n r f ((k : Int) + 1) (plusTo g (fun j => f (k * 6 + j)) 6) (decide ((n : Int) ≤ (k : Int) + 1))) := by
  obtain ⟨a0, a1, a2, a3, a4, a5, a6, a7⟩ := h.cells
  have hkn : (k : Int) < (n : Int) := by omega
  have hn64 : (n : Int) ≤ 64 := by have := hC.2.1; omega
  have hk0 : (0 : Int) ≤ (k : Int) := by omega
  have HR := Aside0.mk h
  have HC := Aside0.mk hC
  have HX := Aside0.mk (And.intro hrc (And.intro hrb hBr))
  clear h hC hrc hrb hBr hk
  go_enter Try.func34, Try.ntmps34
  go_wp2_with (fail)
  go_quiet ((go_at_call 30; exact Calls.quiet_of_same (len_calls (f := f) (b := b) HC.out)))
  go_wp2
  obtain ⟨w1, hw1⟩ : ∃ w1, w1 = w.drewN nq := ⟨_, rfl⟩
  rw [← hw1]
  have HR1 := Aside0.mk (show IsR w1 r (some ⟨c, 0, none⟩) (k : Int) g by rw [hw1]; exact HR.out)
  have HC1 := Aside0.mk (show IsC w1 c b n f by rw [hw1]; exact HC.out)
  have HB1 := Aside0.mk (show w1.heap = w.heap ∧ w1.os = w.os ∧ w1.tape = w.tape ∧ w1.output = w.output by rw [hw1]; exact ⟨rfl, rfl, rfl, rfl⟩)
  clear hw1 a0 a1 a2 a3 a4 a5 a6 a7
  obtain ⟨a0, a1, a2, a3, a4, a5, a6, a7⟩ := HR1.out.cells
  have HC2 := Aside0.mk (show IsC w1.drew c b n f from HC1.out)
  have HR2 := Aside0.mk (show IsR w1.drew r (some ⟨c, 0, none⟩) (k : Int) g from HR1.out)
  go_region_with (first | (go_at_call 27; refine (of_at HC2.out k (by omega)).mono ?_; rintro e w3 ⟨rfl, hb⟩; have HB3 := Aside0.mk hb; have HR3 := Aside0.mk (HR2.out.below hb); have HC3 := Aside0.mk (HC2.out.below hb); clear hb; obtain ⟨t0, t1, t2, t3, t4, t5, t6, t7⟩ := HR3.out.cells) | (go_at_call 31; refine (plus_lit _ _ _ _ _ _ _ _ _ _ _ _ g (fun j => f (k * 6 + j)) ⟨rfl, rfl, rfl, rfl, rfl, rfl⟩ ⟨rfl, rfl, rfl, rfl, rfl, rfl⟩ _).mono ?_; rintro e w4 ⟨rfl, hb⟩; have HB4 := Aside0.mk hb; have HR4 := Aside0.mk (HR3.out.below hb); have HC4 := Aside0.mk (HC3.out.below hb); clear hb; obtain ⟨u0, u1, u2, u3, u4, u5, u6, u7⟩ := HR4.out.cells; have v2 : w4.frozen? ⟨r, 2, none⟩ = false := (blk_frozen HR4.out 2); have v3 : w4.frozen? ⟨r, 3, none⟩ = false := (blk_frozen HR4.out 3); have v4 : w4.frozen? ⟨r, 4, none⟩ = false := (blk_frozen HR4.out 4); have v5 : w4.frozen? ⟨r, 5, none⟩ = false := (blk_frozen HR4.out 5); have v6 : w4.frozen? ⟨r, 6, none⟩ = false := (blk_frozen HR4.out 6); have v7 : w4.frozen? ⟨r, 7, none⟩ = false := (blk_frozen HR4.out 7); have v1 : w4.frozen? ⟨r, 1, none⟩ = false := (blk_frozen HR4.out 1); unfold sh))
  all_goals
    go_wp2
    have HR5 := putR_at HR4.out ((k : Int) + 1) (plusTo g (fun j => f (k * 6 + j)) 6)
    have HC5 : IsC (putR w4 r ((k : Int) + 1) (plusTo g (fun j => f (k * 6 + j)) 6)) c b n f := HC4.out.kept (putR_other _ _ _ _ _ (Ne.symm HX.out.1)) (putR_other _ _ _ _ _ (Ne.symm HX.out.2.1))
    have HO5 : ∀ x, x < w.heap.size → x ≠ r → (putR w4 r ((k : Int) + 1) (plusTo g (fun j => f (k * 6 + j)) 6)).heap[x]? = w.heap[x]? := by
      intro x hx hxr
      have e1 : w1.heap = w.heap := HB1.out.1
      have hs := HB3.out.size
      have h3 := HB3.out.block x (by show x < w1.heap.size; rw [e1]; exact hx)
      have h4 := HB4.out.block x (by have : w1.heap.size ≤ w3.heap.size := hs; rw [e1] at this; omega)
      rw [putR_other _ _ _ _ _ hxr, h4, h3, ← e1]
      rfl
    have HB5 : Below B w (putR w4 r ((k : Int) + 1) (plusTo g (fun j => f (k * 6 + j)) 6)) := by
      have e1 : w1.heap = w.heap := HB1.out.1
      refine putR_below ?_ HX.out.2.2 _ _
      have hb0 : Below w.heap.size w w1.drew := ⟨HB1.out.2.1, HB1.out.2.2.1, HB1.out.2.2.2, by show w.heap.size ≤ w1.heap.size; rw [e1]; exact Nat.le_refl _, fun x hx => by show w1.heap[x]? = _; rw [e1]⟩
      have hb := below_step (below_step hb0 HB3.out) HB4.out
      have hBw : B ≤ w.heap.size := Nat.le_trans HX.out.2.2 (Nat.le_of_lt (blk_lt HR.out))
      exact ⟨hb.os, hb.tape, hb.output, hb.size, fun x hx => hb.block x (by omega)⟩
    obtain ⟨w5, hw5⟩ : ∃ w5, w5 = putR w4 r ((k : Int) + 1) (plusTo g (fun j => f (k * 6 + j)) 6) := ⟨_, rfl⟩
    rw [← hw5] at HR5 HC5 HO5 HB5
    unfold putR at hw5
    rw [← hw5]
    have HR6 := Aside0.mk HR5
    have HC6 := Aside0.mk HC5
    have HO6 := Aside0.mk HO5
    have HB6 := Aside0.mk HB5
    clear hw5 HR5 HC5 HO5 HB5
    obtain ⟨z0, z1, z2, z3, z4, z5, z6, z7⟩ := HR6.out.cells
    go_quiet ((go_at_call 30; exact Calls.quiet_of_same (len_calls (f := f) (b := b) HC6.out)))
    go_wp2
    go_ret
    exact ⟨rfl, HR6.out, HC6.out, HO6.out, pw_below_drewN HB6.out _⟩
end Go.Proofs.Ytmknlojgjlpgfaa.CountK
