/- The law HashSums, walked: whatever the text and the number of parts, the call answers true, and nothing that was there has turned. -/
import Derived.Test.YtmknlojgjlpgfaaHashB
namespace Go.Proofs.Ytmknlojgjlpgfaa.HashC
open Go.RowKit Go.Proofs.YtmknlojgjlpgfaaW.PrintWords Go.Proofs.YtmknlojgjlpgfaaW.PrintLast Go.Proofs.YtmknlojgjlpgfaaW.PrintMore Go.Proofs.Ytmknlojgjlpgfaa.HashA Go.Proofs.Ytmknlojgjlpgfaa.HashB
attribute [local go_sem] max2_int min2_int max_two min_two max_three min_three max_four min_four
set_option linter.unusedVariables false
set_option linter.unusedSimpArgs false

set_option maxHeartbeats 8000000 in
set_option maxRecDepth 100000 in
theorem sums_walk (a0 : ByteArray) (a1 : Int) (w : World) (w0 : a0.size ≤ 9223372036854775807) :
    Calls Try.prog 3 #[.string a0, .int .i64 a1] w fun e w' => e = .returned (.bool true) ∧ Below w.heap.size w w' := by
  have HB := Aside0.mk (Below.refl w.heap.size w)
  have hp := parts_range a1
  obtain ⟨ji3, hji3⟩ : ∃ j_ : Int, (mn (a0.size : Int) 60) = j_ := ⟨_, rfl⟩
  have hji3h : ji3 ≤ 60 := by rw [← hji3]; unfold mn; (repeat' split) <;> omega
  have hji3l : 0 ≤ ji3 := by rw [← hji3]; unfold mn; (repeat' split) <;> omega
  have hji3s : ji3 ≤ (a0.size : Int) := by rw [← hji3]; unfold mn; (repeat' split) <;> omega
  have hji3_ : (if 60 < (a0.size : Int) then 60 else (a0.size : Int)) = ji3 := hji3
  have hsz : (a0.extract 0 (ji3 : Int).toNat).size ≤ 9223372036854775807 := by simp only [ByteArray.size_extract]; omega
  obtain ⟨t, ht⟩ : ∃ t : ByteArray, t = a0.extract 0 (ji3 : Int).toNat := ⟨_, rfl⟩
  rw [← ht] at hsz
  have htm := Aside0.mk (tmod_part t a1)
  obtain ⟨ji6, hji6⟩ : ∃ j_ : Int, (mx a1 1) = j_ := ⟨_, rfl⟩
  have hji6_ : (if a1 < 1 then 1 else a1) = ji6 := hji6
  obtain ⟨ji7, hji7⟩ : ∃ j_ : Int, (mn (ji6) 64) = j_ := ⟨_, rfl⟩
  have hji7_ : (if 64 < (ji6) then 64 else (ji6)) = ji7 := hji7
  have hpj : parts a1 = ji7 := by unfold parts; rw [hji6, hji7]
  rw [hpj] at hp htm
  have c15b0 : ((ji7) == 0) = false := beq_eq_false_iff_ne.mpr (by omega)
  have ht' := Aside0.mk ht
  clear hji3 hji6 hji7 hpj
  have hq := (fnv_range t).1
  subst ht
  obtain ⟨fv, hfv⟩ : ∃ fv : Int, fnv (a0.extract 0 (ji3 : Int).toNat) = fv := ⟨_, rfl⟩
  obtain ⟨pv, hpv⟩ : ∃ pv : Int, HashB.part (a0.extract 0 (ji3 : Int).toNat) a1 = pv := ⟨_, rfl⟩
  have C1 := Aside0.mk (fun w => fnv_calls (a0.extract 0 (ji3 : Int).toNat) hsz w)
  have C2 := Aside0.mk (fun w => sum_calls (a0.extract 0 (ji3 : Int).toNat) hsz w)
  have C3 := Aside0.mk (fun w => part_calls (a0.extract 0 (ji3 : Int).toNat) hsz a1 w)
  rw [hfv] at hq htm C1 C2
  rw [hpv] at htm C3
  clear hfv hpv hsz ht'
  have HM := Aside0.mk (show wrap64 (fv % ji7) = pv by rw [← Int.tmod_eq_emod_of_nonneg hq]; exact htm.out)
  clear htm
  go_enter Try.func3, Try.ntmps3
  go_wp2_with (first | ((with_reducible refine gate_callee (f := 13) rfl ?_); refine goesL_ (some 15) rfl rfl Try.func13 (by kernel_rfl) rfl #[] rfl (by (try simp only [List.map_toArray, List.map_cons, List.map_nil]); first | done | rfl | (simp only [List.length_drop, List.length_take]; rfl)) ?_; (with_reducible refine (awake_calls _).mono ?_); rintro e w16 ⟨rfl, hb⟩; refine ⟨_, rfl, ?_⟩; have n0_ := Aside0.mk (below_step (by repeat (first | (with_reducible first | exact HB.out | apply below_alloc | apply pw_below_drewN | apply below_drew1) | exact HB.out)) hb); clear HB; have HB := n0_; clear n0_; (try clear hb)) | (go_at_call 14; (with_reducible refine (C1.out _).mono ?_); rintro e w' ⟨rfl, ⟨nd, rfl⟩⟩) | (go_at_call 15; (with_reducible refine (C2.out _).mono ?_); rintro e w' ⟨rfl, ⟨nd, rfl⟩⟩) | (go_at_call 16; (with_reducible refine (C3.out _).mono ?_); rintro e w17 ⟨rfl, hb⟩; have n0_ := Aside0.mk (below_step (by repeat (first | (with_reducible first | exact HB.out | apply below_alloc | apply pw_below_drewN | apply below_drew1) | exact HB.out)) hb); clear HB; have HB := n0_; clear n0_; (try clear hb)))
  go_ret
  exact ⟨by rw [HM.out]; simp, by repeat (first | (with_reducible first | exact HB.out | apply below_alloc | apply pw_below_drewN | apply below_drew1) | exact HB.out)⟩
end Go.Proofs.Ytmknlojgjlpgfaa.HashC
