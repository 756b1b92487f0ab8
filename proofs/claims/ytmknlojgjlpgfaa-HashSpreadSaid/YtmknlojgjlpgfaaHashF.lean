/- The law HashSpread, walked: whatever the keys and the number of parts, the call answers true, and nothing that was there has turned. -/
import Derived.Test.YtmknlojgjlpgfaaHashE
namespace Go.Proofs.Ytmknlojgjlpgfaa.HashF
open Go.RowKit Go.Proofs.YtmknlojgjlpgfaaW.PrintWords Go.Proofs.YtmknlojgjlpgfaaW.PrintLast Go.Proofs.YtmknlojgjlpgfaaW.PrintMore Go.Proofs.Ytmknlojgjlpgfaa.HashA Go.Proofs.Ytmknlojgjlpgfaa.HashB Go.Proofs.Ytmknlojgjlpgfaa.HashE Go.Proofs.Ytmknlojgjlpgfaa.PHashSums
attribute [local go_sem] max2_int min2_int max_two min_two max_three min_three max_four min_four
set_option linter.unusedVariables false
set_option linter.unusedSimpArgs false

set_option maxHeartbeats 8000000 in
set_option maxRecDepth 100000 in
theorem spread_walk (A0 : Option Addr) (c0 : Nat) (l0 : List ByteArray) (a1 : Int) (w : World) (hr0 : Kd.C Kd.string w A0 l0.length l0) (hc0 : l0.length ≤ c0) (hl : l0.length ≤ 9223372036854775807) (hs : ∀ s ∈ l0, s.size ≤ 9223372036854775807) :
    Calls Try.prog 4 #[.slice A0 l0.length c0, .int .i64 a1] w fun e w' => e = .returned (.bool true) ∧ Below w.heap.size w w' := by
  have HR0 := Aside0.mk hr0
  have HC0 := Aside0.mk hc0
  clear hr0 hc0
  have HB := Aside0.mk (Below.refl w.heap.size w)
  obtain ⟨m, hm⟩ : ∃ m : Nat, mn (l0.length : Int) 30 = (m : Int) := ⟨(mn (l0.length : Int) 30).toNat, by unfold mn; (repeat' split) <;> omega⟩
  have hml : (m : Int) ≤ (l0.length : Int) := by rw [← hm]; unfold mn; (repeat' split) <;> omega
  have hml' : m ≤ l0.length := by omega
  have hm30 : (m : Int) ≤ 30 := by rw [← hm]; unfold mn; (repeat' split) <;> omega
  have hm_ : (if 30 < (l0.length : Int) then 30 else (l0.length : Int)) = (m : Int) := hm
  obtain ⟨x, hx⟩ : ∃ x, x = l0.take m := ⟨_, rfl⟩
  have hxl : x.length = m := by rw [hx, List.length_take]; omega
  have hxs : ∀ s ∈ x, s.size ≤ 9223372036854775807 := fun s h => hs s (List.mem_of_mem_take (hx ▸ h))
  obtain ⟨i010, hi010, _, hsz10, _⟩ := info_parts info9
  obtain ⟨hcut10, hA10, hC10⟩ := print_take_of (P := Try.prog) Value.string (⟨#[]⟩ : ByteArray) 27 9 .i64 Try.underlying27 hi010 hsz10 A0 c0 l0 (m : Int) (by omega) hml HC0.out
  have HX0 := Aside0.mk (Kd.C_of_reads (h1 := fun _ => rfl) (hA10 _ (Kd.reads_of_C HR0.out)))
  have HX1 := Aside0.mk hC10
  clear hA10 hC10 hi010 hsz10 HR0 hm
  have hp := parts_range a1
  have HP := Aside0.mk (show (if 64 < (if a1 < 1 then 1 else a1) then 64 else (if a1 < 1 then 1 else a1)) = parts a1 from rfl)
  obtain ⟨ji6, hji6⟩ : ∃ j_ : Int, (if a1 < 1 then 1 else a1) = j_ := ⟨_, rfl⟩
  obtain ⟨n, hn⟩ : ∃ j_ : Int, parts a1 = j_ := ⟨_, rfl⟩
  have HN := Aside0.mk hn
  have hji7 : (if 64 < ji6 then 64 else ji6) = n := by rw [← hji6, ← hn]; exact HP.out
  rw [hn] at hp
  clear HP hn
  have hp1 : 0 ≤ n := by omega
  go_enter Try.func4, Try.ntmps4
  go_wp2_with (first | ((with_reducible refine gate_dst (N := 20) rfl ?_); refine Kd.R_make (Kd.int .i64) _ 3 rfl (N := 20) rfl 28 _ _ rfl n rfl rfl Try.underlying28 (.int .i64 0) 8 info3 rfl (by decide) (by omega) 0 (ok := fun _ => True) (okp := fun _ => True) rfl (fun _ hk => hk) trivial hp1 (by omega) (Below.refl _ _) (Nat.le_refl _) ?_; intro v117 w11 ho12 hb hg_ hnew_; clear hg_ hnew_; have HO := Aside0.mk (Kd.R_lower ho12 (below_size (by repeat (first | (with_reducible first | exact HB.out | apply below_alloc | apply pw_below_drewN | apply below_drew1) | exact HB.out)))); have n1_ := Aside0.mk (below_step (by repeat (first | (with_reducible first | exact HB.out | apply below_alloc | apply pw_below_drewN | apply below_drew1) | exact HB.out)) hb); clear HB; have HB := n1_; clear n1_ hb ho12))
  have HO1 := Aside0.mk (show Kd.R (Kd.int .i64) 3 w11 w.heap.size (fun _ => True) v117 (tally a1 x 0) by have h := HO.out; rw [← HN.out] at h; exact h)
  have HX2 := Aside0.mk (show Kd.C Kd.string w A0 m x by have h := HX0.out; rw [show ((m : Int)).toNat = m from by omega, ← hx, hxl] at h; exact h)
  clear HO HX0 HX1 hcut10 hji7 hji6 hm_ hml hx
  have HXL := Aside0.mk hxl
  have HXS := Aside0.mk hxs
  have HML := Aside0.mk hml'
  clear hxl hxs hml' hl hs
  go_loopg [8] m (fun kq v8 w' => ∃ (i : Nat), v8 = .int .i64 (i : Int) ∧ Aside0 (i + kq = m) ∧ Aside0 (Kd.R (Kd.int .i64) 3 w' w.heap.size (fun _ => True) v117 (tally a1 x i)) ∧ Aside0 (Below w.heap.size w w'))
  case atStart => exact ⟨0, rfl, ⟨by omega⟩, HO1, HB⟩
  case round =>
    clear HO1 HB
    obtain ⟨i, rfl, HI, HO, HB⟩ := hrel
    cases gk with
    | succ k1 =>
      have hlt : (i : Int) < (m : Int) := by have := HI.out; omega
      have hle := HML.out
      have hix : i < x.length := by have := HI.out; have := HXL.out; omega
      have hm := rdOf_mem x i hix
      obtain ⟨s, hs⟩ : ∃ s, rdOf ByteArray.empty x i = s := ⟨_, rfl⟩
      obtain ⟨ad, ead, hc⟩ := Kd.at_string HX2.out (i : Int) (by omega) hlt
      have ei : ((i : Int)).toNat = i := by omega
      rw [ei] at hc
      cases ead
      rw [hs] at hc
      replace hc := (HB.out.cell (World.block_lt_of_cell? w _ hc)).trans hc
      have C2 := Aside0.mk (fun w => sum_calls s (HXS.out s (hs ▸ hm)) w)
      have hq := (fnv_range s).1
      have hpr := part_range s a1
      have HM := tmod_part s a1
      have hT := tally_length a1 x i
      rw [HN.out] at hpr HM hT
      obtain ⟨fv, hfv⟩ : ∃ fv : Int, fnv s = fv := ⟨_, rfl⟩
      obtain ⟨pv, hpv⟩ : ∃ pv : Int, HashB.part s a1 = pv := ⟨_, rfl⟩
      have HPV := Aside0.mk hpv
      have HS := Aside0.mk hs
      rw [hfv] at hq C2 HM
      rw [Int.tmod_eq_emod_of_nonneg hq] at HM
      rw [hpv] at hpr HM
      obtain ⟨hp2, hp3⟩ := hpr
      obtain ⟨c, hcc⟩ : ∃ c, tally a1 x i = c := ⟨_, rfl⟩
      have HO' := HO.out
      rw [hcc] at HO' hT
      obtain ⟨g, cap, ev, hgb, _, _⟩ := Kd.R_form HO' (by omega)
      subst ev
      have hp4 : pv < (c.length : Int) := by omega
      obtain ⟨hcell, hfro⟩ := Kd.R_celln 0 HO' pv hp2 hp4
      have HPUT := Aside0.mk (Kd.R_putg HO' pv (wrap64 (rd c pv + 1)))
      have HC := Aside0.mk hcc
      have HT := Aside0.mk hT
      have HG := Aside0.mk hgb
      clear hfv hpv hcc hT HO' hm hgb hs HO hix
      have hrd : rdOf 0 c pv = rd c pv := rfl
      rw [hrd] at hcell
      clear hrd
      go_wp2_with (first | (go_at_call 15; (with_reducible refine (C2.out _).mono ?_); rintro e w' ⟨rfl, ⟨nd, rfl⟩⟩))
      go_roundg k1
      case measure => omega
      case rel =>
        refine ⟨i + 1, by go_num, ⟨by have := HI.out; omega⟩, ⟨?_⟩, ⟨?_⟩⟩
        · have e : tally a1 x (i + 1) = c.set pv.toNat (wrap64 (rd c pv + 1)) := by
            rw [tally_succ a1 x i (by have := HI.out; have := HXL.out; omega), HS.out, HC.out]
            unfold bump
            rw [HPV.out]
          rw [e]
          (with_reducible repeat (first | apply Kd.R_alloc | apply Kd.R_drewN | apply Kd.R_drew))
          have h := HPUT.out.1
          first | exact h | (go_goals; sorry)
        · first | exact below_set (pw_below_drewN HB.out _) HG.out | exact pw_below_drewN (below_set HB.out HG.out) _ | exact below_set HB.out HG.out
    | zero =>
      have hge : ¬ ((i : Int) < (m : Int)) := by have := HI.out; omega
      have him : i = m := by have := HI.out; omega
      subst him
      clear HI
      have HR := Aside0.mk (show Kd.C Kd.string wr A0 i x by exact Kd.C_below HX2.out HB.out)
      have HO1 := HO
      have C3 := Aside0.mk (fun (w : World) (h : Kd.C Kd.string w A0 i x) (hic : i ≤ c0) => by
        have e := HXL.out
        have := spread_calls A0 c0 x (by omega) HXS.out a1 w (e ▸ h) (e ▸ hic)
        rw [e] at this
        exact this)
      obtain ⟨T, hT⟩ : ∃ T, tally a1 x i = T := ⟨_, rfl⟩
      have hTl := tally_length a1 x i
      rw [HN.out, hT] at hTl
      have hbn : (((T.length : Nat) : Int) != n) = false := by simp [hTl]
      have HO1 := Aside0.mk (show Kd.R (Kd.int .i64) 3 wr w.heap.size (fun _ => True) v117 T by rw [← hT]; exact HO.out)
      have C4 := Aside0.mk (show ∀ w, Kd.C Kd.string w A0 i x → i ≤ c0 → Calls Try.prog 17 #[.slice A0 i c0, .int .i64 a1] w fun e w' => ∃ v0_ : Value, e = .returned (v0_) ∧ Kd.R (Kd.int .i64) 3 w' w.heap.size (fun _ => True) v0_ T ∧ Below w.heap.size w w' by rw [← hT]; exact C3.out)
      clear C3 HO
      have HTL := Aside0.mk hTl
      clear hTl hT
      go_wp2_with (first | (go_at_call 17; (with_reducible refine (C4.out _ HR.out (by have := HML.out; have := HC0.out; omega)).mono ?_); rintro e w37 ⟨v124, rfl, ho0, hb⟩; have HO2 := Aside0.mk (Kd.R_below HO1.out hb); have HO3 := Aside0.mk (Kd.R_lower ho0 (below_size HB.out)); have n1_ := Aside0.mk (below_step (by repeat (first | (with_reducible first | exact HB.out | apply below_alloc | apply pw_below_drewN | apply below_drew1) | exact HB.out)) hb); clear HB HO1 ho0 hb; have HB := n1_; clear n1_; obtain ⟨Ao, co, eo⟩ := Kd.R_slice HO3.out; subst eo; clear HR C4; obtain ⟨Aw, cw, ew⟩ := Kd.R_slice HO2.out; subst ew))
      clear hbn
      go_loopg [10] T.length (fun kq v10 w' => ∃ (j : Nat), v10 = .int .i64 (j : Int) ∧ Aside0 (j + kq = T.length) ∧ Aside0 (Kd.R (Kd.int .i64) 3 w' w.heap.size (fun _ => True) (.slice Ao T.length co) T) ∧ Aside0 (Kd.R (Kd.int .i64) 3 w' w.heap.size (fun _ => True) (.slice Aw T.length cw) T) ∧ Aside0 (Below w.heap.size w w'))
      case atStart => exact ⟨0, rfl, ⟨by omega⟩, HO3, HO2, HB⟩
      case round =>
        clear HO2 HO3 HB
        obtain ⟨j, rfl, HJ, HO3, HO2, HB⟩ := hrel
        cases gk with
        | succ k1 =>
          have hlt : (j : Int) < n := by have := HJ.out; have := HTL.out; omega
          have hltT : (j : Int) < (T.length : Int) := by have := HJ.out; omega
          obtain ⟨a3, e3, h3⟩ := Kd.at_int (Kd.R_reads' HO3.out).2.2 (j : Int) (by omega) hltT
          obtain ⟨a2, e2, h2⟩ := Kd.at_int (Kd.R_reads' HO2.out).2.2 (j : Int) (by omega) hltT
          cases e3
          cases e2
          have ei : ((j : Int)).toNat = j := by omega
          rw [ei] at h3 h2
          have hj0 : (0 : Int) ≤ (j : Int) := by omega
          go_wp2
          go_quiet (fail)
          go_wp2
          go_roundg k1
          case measure => omega
          case rel =>
            refine ⟨j + 1, by go_num, ⟨by have := HJ.out; omega⟩, ⟨?_⟩, ⟨?_⟩, ⟨?_⟩⟩
            · (with_reducible repeat (first | apply Kd.R_alloc | apply Kd.R_drewN | apply Kd.R_drew)); exact HO3.out
            · (with_reducible repeat (first | apply Kd.R_alloc | apply Kd.R_drewN | apply Kd.R_drew)); exact HO2.out
            · repeat (first | (with_reducible first | exact HB.out | apply below_alloc | apply pw_below_drewN | apply below_drew1) | exact HB.out)
        | zero =>
          have hge : ¬ ((j : Int) < n) := by have := HJ.out; have := HTL.out; omega
          go_wp2_with (first | (go_at_call 13; (with_reducible refine (awake_calls _).mono ?_); rintro e w16 ⟨rfl, hb⟩; have n0_ := Aside0.mk (below_step (by repeat (first | (with_reducible first | exact HB.out | apply below_alloc | apply pw_below_drewN | apply below_drew1) | exact HB.out)) hb); clear HB; have HB := n0_; clear n0_ hb))
          go_ret
          exact ⟨rfl, by repeat (first | (with_reducible first | exact HB.out | apply below_alloc | apply pw_below_drewN | apply below_drew1) | exact HB.out)⟩
end Go.Proofs.Ytmknlojgjlpgfaa.HashF
