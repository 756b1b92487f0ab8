/- The law CountReads, walked. -/
import Derived.Test.YtmknlojgjlpgfaaCountL
import Derived.Deep.RegionWith
import Derived.Deep.RegionHeld3
import Derived.Deep.DrawnRows
namespace Go.Proofs.Ytmknlojgjlpgfaa.CountM
open Go.RowKit Go.Proofs.YtmknlojgjlpgfaaW.PrintWords Go.Proofs.YtmknlojgjlpgfaaW.PrintLast Go.Proofs.YtmknlojgjlpgfaaW.PrintMore Go.Proofs.Ytmknlojgjlpgfaa.BitsA Go.Proofs.Ytmknlojgjlpgfaa.CountA Go.Proofs.Ytmknlojgjlpgfaa.CountB Go.Proofs.Ytmknlojgjlpgfaa.CountC Go.Proofs.Ytmknlojgjlpgfaa.CountD Go.Proofs.Ytmknlojgjlpgfaa.CountE Go.Proofs.Ytmknlojgjlpgfaa.CountG Go.Proofs.Ytmknlojgjlpgfaa.CountH Go.Proofs.Ytmknlojgjlpgfaa.CountJ Go.Proofs.Ytmknlojgjlpgfaa.CountK Go.Proofs.Ytmknlojgjlpgfaa.CountL
attribute [local go_sem ↓] Go.wp_at_zero Go.wp_at_succ
set_option linter.unusedVariables false
set_option linter.unusedSimpArgs false

/-- What is held through the law's last test. -/
theorem keepR {w0 w w' : World} {q c b n r : Nat} {f s g : Nat → Int} {k : Int} (hb : Below w.heap.size w w') (h : ((w.cell? ⟨q, 0, none⟩ = some (.int .i64 (s 0)) ∧ w.cell? ⟨q, 1, none⟩ = some (.int .i64 (s 1)) ∧ w.cell? ⟨q, 2, none⟩ = some (.int .i64 (s 2)) ∧ w.cell? ⟨q, 3, none⟩ = some (.int .i64 (s 3)) ∧ w.cell? ⟨q, 4, none⟩ = some (.int .i64 (s 4)) ∧ w.cell? ⟨q, 5, none⟩ = some (.int .i64 (s 5))) ∧ IsC w c b n f ∧ IsR w r (some ⟨c, 0, none⟩) k g ∧ Below w0.heap.size w0 w)) : ((w'.cell? ⟨q, 0, none⟩ = some (.int .i64 (s 0)) ∧ w'.cell? ⟨q, 1, none⟩ = some (.int .i64 (s 1)) ∧ w'.cell? ⟨q, 2, none⟩ = some (.int .i64 (s 2)) ∧ w'.cell? ⟨q, 3, none⟩ = some (.int .i64 (s 3)) ∧ w'.cell? ⟨q, 4, none⟩ = some (.int .i64 (s 4)) ∧ w'.cell? ⟨q, 5, none⟩ = some (.int .i64 (s 5))) ∧ IsC w' c b n f ∧ IsR w' r (some ⟨c, 0, none⟩) k g ∧ Below w0.heap.size w0 w') :=
  ⟨⟨pw_cell_below hb h.1.1, pw_cell_below hb h.1.2.1, pw_cell_below hb h.1.2.2.1, pw_cell_below hb h.1.2.2.2.1, pw_cell_below hb h.1.2.2.2.2.1, pw_cell_below hb h.1.2.2.2.2.2⟩, h.2.1.below hb, h.2.2.1.below hb, below_step h.2.2.2 hb⟩

/-- .. the counts of it, the reader, and the world. -/
theorem heldC {w0 w : World} {q c b n r : Nat} {f s g : Nat → Int} {k : Int} (h : ((w.cell? ⟨q, 0, none⟩ = some (.int .i64 (s 0)) ∧ w.cell? ⟨q, 1, none⟩ = some (.int .i64 (s 1)) ∧ w.cell? ⟨q, 2, none⟩ = some (.int .i64 (s 2)) ∧ w.cell? ⟨q, 3, none⟩ = some (.int .i64 (s 3)) ∧ w.cell? ⟨q, 4, none⟩ = some (.int .i64 (s 4)) ∧ w.cell? ⟨q, 5, none⟩ = some (.int .i64 (s 5))) ∧ IsC w c b n f ∧ IsR w r (some ⟨c, 0, none⟩) k g ∧ Below w0.heap.size w0 w)) : IsC w c b n f := h.2.1
theorem heldR {w0 w : World} {q c b n r : Nat} {f s g : Nat → Int} {k : Int} (h : ((w.cell? ⟨q, 0, none⟩ = some (.int .i64 (s 0)) ∧ w.cell? ⟨q, 1, none⟩ = some (.int .i64 (s 1)) ∧ w.cell? ⟨q, 2, none⟩ = some (.int .i64 (s 2)) ∧ w.cell? ⟨q, 3, none⟩ = some (.int .i64 (s 3)) ∧ w.cell? ⟨q, 4, none⟩ = some (.int .i64 (s 4)) ∧ w.cell? ⟨q, 5, none⟩ = some (.int .i64 (s 5))) ∧ IsC w c b n f ∧ IsR w r (some ⟨c, 0, none⟩) k g ∧ Below w0.heap.size w0 w)) : IsR w r (some ⟨c, 0, none⟩) k g := h.2.2.1
theorem heldB {w0 w : World} {q c b n r : Nat} {f s g : Nat → Int} {k : Int} (h : ((w.cell? ⟨q, 0, none⟩ = some (.int .i64 (s 0)) ∧ w.cell? ⟨q, 1, none⟩ = some (.int .i64 (s 1)) ∧ w.cell? ⟨q, 2, none⟩ = some (.int .i64 (s 2)) ∧ w.cell? ⟨q, 3, none⟩ = some (.int .i64 (s 3)) ∧ w.cell? ⟨q, 4, none⟩ = some (.int .i64 (s 4)) ∧ w.cell? ⟨q, 5, none⟩ = some (.int .i64 (s 5))) ∧ IsC w c b n f ∧ IsR w r (some ⟨c, 0, none⟩) k g ∧ Below w0.heap.size w0 w)) : Below w0.heap.size w0 w := h.2.2.2

set_option maxHeartbeats 8000000 in
set_option maxRecDepth 100000 in
theorem reads_walk (many : Int) (A : Option Addr) (len cap : Nat) (zs : List Int) (w : World) (hlen : len ≤ 9223372036854775807)
    (hc : ∀ i, i < len → ∃ ad, A = some ad ∧ w.cell? (ad.add i) = some (.int .i64 (rd zs i))) :
    Calls Try.prog 9 #[.int .i64 many, .slice A len cap] w fun e w' => e = .returned (.bool true) ∧ Below w.heap.size w w' := by
  have HC := Aside0.mk hc
  have HL := Aside0.mk hlen
  clear hc hlen
  obtain ⟨m7, hm7⟩ : ∃ x, bits .and .i64 many 7 = x := ⟨_, rfl⟩
  have hm0 : 0 ≤ m7 := by rw [← hm7, and7]; omega
  have hm1 : m7 < 8 := by rw [← hm7, and7]; omega
  have HN := Aside0.mk (show (parts (m7 + 1)).toNat = (m7 + 1).toNat by
    have : parts (m7 + 1) = m7 + 1 := by unfold parts; (repeat' split) <;> omega
    rw [this])
  go_enter Try.func9, Try.ntmps9
  go_wp2_with (first | (go_at_call 25; (with_reducible refine (new_calls _ _).mono ?_); rintro e w1 ⟨c, b, rfl, hcc, hcl, hbl, hb⟩; rw [HN.out] at hcc; have HI := Aside0.mk hcc; have HX := Aside0.mk (And.intro hcl hbl); have HB := Aside0.mk hb; clear hcc hcl hbl hb))
  obtain ⟨n, hn⟩ : ∃ n : Nat, m7 + 1 = (n : Int) := ⟨(m7 + 1).toNat, by omega⟩
  rw [hn]
  have hn0 : (m7 + 1).toNat = n := by omega
  rw [hn0] at HI
  have hn8 : (n : Int) ≤ 8 := by omega
  have hn1 : (1 : Int) ≤ (n : Int) := by omega
  clear hn hn0
  go_loopg [7] (min len 20) (fun kq v7 w' => ∃ (i : Nat) (f : Nat → Int), v7 = .int .i64 (i : Int) ∧ Aside0 (i + kq = min len 20) ∧ Aside0 (IsC w' c b n f) ∧ Aside0 (Within f i) ∧ Aside0 (Below w.heap.size w w'))
  case atStart => exact ⟨0, _, rfl, ⟨by omega⟩, HI, ⟨within_zero⟩, HB⟩
  case round =>
    clear HI HB
    obtain ⟨i, f, rfl, HI, HC', HF, HB⟩ := hrel
    cases gk with
    | succ k1 =>
      have hlt1 : (i : Int) < (len : Int) := by have := HI.out; omega
      have hlt2 : (i : Int) < 20 := by have := HI.out; omega
      have h0 : (0 : Int) ≤ (i : Int) := by omega
      obtain ⟨ad, ead, hcx⟩ := HC.out i (by omega)
      cases ead
      replace hcx := (HB.out.cell (World.block_lt_of_cell? w _ hcx)).trans hcx
      obtain ⟨z, hz⟩ : ∃ z, rd zs i = z := ⟨_, rfl⟩
      rw [hz] at hcx
      clear hz
      obtain ⟨who, hwho⟩ : ∃ x, bits .and .i64 z 7 = x := ⟨_, rfl⟩
      obtain ⟨kind, hkind⟩ : ∃ x, bits .and .i64 (z / 8) 7 = x := ⟨_, rfl⟩
      go_wp2
      go_still_tail 12, (by kernel_rfl)
      change wpList _ _ _ _ _ wr.drew
      obtain ⟨w2, hw2⟩ : ∃ w2, w2 = wr.drew := ⟨_, rfl⟩
      rw [← hw2]
      have HC2 := Aside0.mk (show IsC w2 c b n f by rw [hw2]; exact HC'.out)
      have HB2 := Aside0.mk (show Below w.heap.size w w2 by rw [hw2]; exact below_drew HB.out)
      clear hw2 HC' HB hcx
      go_wp2_with (first | (go_at_call 26; (with_reducible refine (add_calls HC2.out who kind).mono ?_); rintro e w3 ⟨rfl, hc3, hu⟩; have HC3 := Aside0.mk hc3; have HB3 := Aside0.mk (HB2.out.trans (hu.below HX.out.2)); clear hc3 hu))
      go_roundg k1
      case measure => omega
      case rel => exact ⟨i + 1, _, by go_num, ⟨by have := HI.out; omega⟩, HC3, ⟨(added_ge HF.out (by omega) n who kind).1⟩, HB3⟩
    | zero =>
      have hor : ((i : Int) < (len : Int) ∧ ¬ (i : Int) < 20) ∨ ¬ (i : Int) < (len : Int) := by have := HI.out; omega
      have HI20 := Aside0.mk (show i ≤ 20 by have := HI.out; omega)
      obtain ⟨s0, hs0⟩ : ∃ s0, s0 = sumTo f n := ⟨_, rfl⟩
      have HS0 := Aside0.mk hs0
      have CS := Aside0.mk (show ∀ w', IsC w' c b n f → Calls Try.prog 29 #[.pointer (some ⟨c, 0, none⟩)] w' fun e w'' => e = .returned (.agg #[.int .i64 (s0 0), .int .i64 (s0 1), .int .i64 (s0 2), .int .i64 (s0 3), .int .i64 (s0 4), .int .i64 (s0 5)]) ∧ Below w'.heap.size w' w'' by rw [hs0]; exact fun w' h => sum_calls h)
      clear HI hs0
      rcases hor with ⟨hge1, hge2⟩ | hge
      all_goals
        go_wp2_with (first | (go_at_call 29; (with_reducible refine (CS.out _ HC'.out).mono ?_); rintro e w3 ⟨rfl, hb⟩; have HC3 := Aside0.mk (HC'.out.below hb); have HB3 := Aside0.mk (below_step HB.out hb); clear hb) | (go_at_call 33; (with_reducible refine (read_calls _ _).mono ?_); rintro e w4 ⟨r, rfl, hr, hrl, hb⟩; have HR4 := Aside0.mk hr; have HC4 := Aside0.mk (HC3.out.below hb); have HRN := Aside0.mk (show r ≠ c ∧ r ≠ b ∧ w.heap.size ≤ r from ⟨fun e => by have := blk_lt HC3.out.2.2.1; omega, fun e => by have := blk_lt HC3.out.2.2.2; omega, Nat.le_trans HB3.out.size hrl⟩); have HB4 := Aside0.mk (below_step HB3.out hb); clear hr hrl hb))
        obtain ⟨W5, e5, h5, s5, b5⟩ := lay w4 (.cells (row s0 6) 47 (0, 0))
        rw [six s0, ← e5]
        obtain ⟨q, hq⟩ : ∃ q, w4.heap.size = q := ⟨_, rfl⟩
        rw [hq] at h5
        have HQ5 := Aside0.mk h5
        have HC5 := Aside0.mk (HC4.out.below b5)
        have HR5 := Aside0.mk (HR4.out.below b5)
        have HQN := Aside0.mk (show q ≠ c ∧ q ≠ b ∧ q ≠ r ∧ w.heap.size ≤ q from ⟨fun e => by have := blk_lt HC4.out.2.2.1; omega, fun e => by have := blk_lt HC4.out.2.2.2; omega, fun e => by have := blk_lt HR4.out; omega, by rw [← hq]; exact HB4.out.size⟩)
        have HB5 := Aside0.mk (below_step HB4.out b5)
        rw [hq]
        clear e5 h5 s5 b5 hq HR4 HC4 HB4 HC3 HB3 HC' HB CS
        go_loopg [10, 11, 12] 60 (fun kq v10 v11 v12 w' => ∃ (j k : Nat) (d : Bool) (f' g : Nat → Int), v12 = .int .i64 (j : Int) ∧ v10 = .int .i64 (k : Int) ∧ v11 = .bool d ∧ Aside0 (d = decide ((n : Int) ≤ (k : Int)) ∧ k ≤ n) ∧ Aside0 (j + kq = 60) ∧ Aside0 (IsC w' c b n f') ∧ Aside0 (IsR w' r (some ⟨c, 0, none⟩) (k : Int) g) ∧ Aside0 (w'.heap[q]? = some (.cells (row s0 6) 47 (0, 0))) ∧ Aside0 (Within f' (20 + j) ∧ (∀ x, 0 ≤ f x ∧ f x ≤ f' x) ∧ Mid f f' g k) ∧ Aside0 (Below w.heap.size w w'))
        case atStart => exact ⟨0, 0, false, f, _, rfl, rfl, rfl, ⟨by simp; omega⟩, ⟨by omega⟩, HC5, HR5, HQ5, ⟨⟨fun x => by have := HF.out x; have := HI20.out; omega, fun x => ⟨(HF.out x).1, Int.le_refl _⟩, mid_zero f f⟩⟩, HB5⟩
        case round =>
          clear HC5 HR5 HQ5 HB5
          obtain ⟨j, k, d, f', g, rfl, rfl, rfl, HD, HJ, HC', HR, HQ, HM, HB⟩ := hrel
          have hway : (∃ k1, gk = k1 + 1 ∧ d = false) ∨ ((j : Int) < 60 ∧ d = true) ∨ ¬ ((j : Int) < 60) := by
            cases gk with
            | zero => right; right; have := HJ.out; omega
            | succ k1 =>
              cases d with
              | false => exact Or.inl ⟨k1, rfl, rfl⟩
              | true => right; left; exact ⟨by have := HJ.out; omega, rfl⟩
          rcases hway with ⟨k1, rfl, rfl⟩ | hway
          · have hj60 : (j : Int) < 60 := by have := HJ.out; omega
            have hj0 : (0 : Int) ≤ (j : Int) := by omega
            have hkn : k < n := by have := HD.out.1; simp at this; omega
            by_cases hl : (j : Int) < (len : Int)
            · obtain ⟨ad, ead, hcx⟩ := HC.out j (by omega)
              cases ead
              replace hcx := (HB.out.cell (World.block_lt_of_cell? w _ hcx)).trans hcx
              obtain ⟨z, hz⟩ : ∃ z, rd zs j = z := ⟨_, rfl⟩
              rw [hz] at hcx
              clear hz
              obtain ⟨e1, he1⟩ : ∃ x, (bits .and .i64 (z / 64) 1 == 1) = x := ⟨_, rfl⟩
              obtain ⟨who, hwho⟩ : ∃ x, bits .and .i64 (z / 128) 7 = x := ⟨_, rfl⟩
              obtain ⟨kind, hkind⟩ : ∃ x, bits .and .i64 (z / 1024) 7 = x := ⟨_, rfl⟩
              cases e1
              · go_wp2_with (first | (go_at_call 34; (with_reducible refine (step_go (B := w.heap.size) HC'.out HR.out hkn HRN.out.1 HRN.out.2.1 HRN.out.2.2).mono ?_); rintro e w3 ⟨rfl, hr3, hc3, ho3, hb3⟩; have HC6 := Aside0.mk hc3; have HR6 := Aside0.mk hr3; have HQ6 := Aside0.mk ((ho3 q (blk_lt HQ.out) HQN.out.2.2.1).trans HQ.out); have HB6 := Aside0.mk (HB.out.trans hb3); clear hr3 hc3 ho3 hb3))
                go_roundg k1
                case measure => omega
                case rel => exact ⟨j + 1, k + 1, decide ((n : Int) ≤ (k : Int) + 1), f', _, by go_num, by go_num, rfl, ⟨rfl, by omega⟩, ⟨by have := HJ.out; omega⟩, HC6, HR6, HQ6, ⟨⟨fun x => by have := HM.out.1 x; omega, HM.out.2.1, mid_step HM.out.2.2 HM.out.1 (by omega) HM.out.2.1 (by omega)⟩⟩, HB6⟩
              · go_wp2_with (first | (go_at_call 26; (with_reducible refine (add_calls HC'.out who kind).mono ?_); rintro e w3 ⟨rfl, hc3, hu⟩; have HC6 := Aside0.mk hc3; have HR6 := Aside0.mk (show IsR w3 r (some ⟨c, 0, none⟩) (k : Int) g from (hu.block r HRN.out.2.1).trans HR.out); have HQ6 := Aside0.mk ((hu.block q HQN.out.2.1).trans HQ.out); have HB6 := Aside0.mk (HB.out.trans (hu.below HX.out.2)); clear hc3 hu))
                go_roundg k1
                case measure => omega
                case rel =>
                  have ha := added_ge HM.out.1 (by omega) n who kind
                  exact ⟨j + 1, k, false, _, g, by go_num, rfl, rfl, HD, ⟨by have := HJ.out; omega⟩, HC6, HR6, HQ6, ⟨⟨ha.1, fun x => ⟨(HM.out.2.1 x).1, Int.le_trans (HM.out.2.1 x).2 (ha.2 x)⟩, mid_add HM.out.2.2 ha.2⟩⟩, HB6⟩
            · obtain ⟨e1, he1⟩ : ∃ x, (bits .and .i64 (((j : Int) * 31) / 64) 1 == 1) = x := ⟨_, rfl⟩
              obtain ⟨who, hwho⟩ : ∃ x, bits .and .i64 (((j : Int) * 31) / 128) 7 = x := ⟨_, rfl⟩
              obtain ⟨kind, hkind⟩ : ∃ x, bits .and .i64 (((j : Int) * 31) / 1024) 7 = x := ⟨_, rfl⟩
              cases e1
              · go_wp2_with (first | (go_at_call 34; (with_reducible refine (step_go (B := w.heap.size) HC'.out HR.out hkn HRN.out.1 HRN.out.2.1 HRN.out.2.2).mono ?_); rintro e w3 ⟨rfl, hr3, hc3, ho3, hb3⟩; have HC6 := Aside0.mk hc3; have HR6 := Aside0.mk hr3; have HQ6 := Aside0.mk ((ho3 q (blk_lt HQ.out) HQN.out.2.2.1).trans HQ.out); have HB6 := Aside0.mk (HB.out.trans hb3); clear hr3 hc3 ho3 hb3))
                go_roundg k1
                case measure => omega
                case rel => exact ⟨j + 1, k + 1, decide ((n : Int) ≤ (k : Int) + 1), f', _, by go_num, by go_num, rfl, ⟨rfl, by omega⟩, ⟨by have := HJ.out; omega⟩, HC6, HR6, HQ6, ⟨⟨fun x => by have := HM.out.1 x; omega, HM.out.2.1, mid_step HM.out.2.2 HM.out.1 (by omega) HM.out.2.1 (by omega)⟩⟩, HB6⟩
              · go_wp2_with (first | (go_at_call 26; (with_reducible refine (add_calls HC'.out who kind).mono ?_); rintro e w3 ⟨rfl, hc3, hu⟩; have HC6 := Aside0.mk hc3; have HR6 := Aside0.mk (show IsR w3 r (some ⟨c, 0, none⟩) (k : Int) g from (hu.block r HRN.out.2.1).trans HR.out); have HQ6 := Aside0.mk ((hu.block q HQN.out.2.1).trans HQ.out); have HB6 := Aside0.mk (HB.out.trans (hu.below HX.out.2)); clear hc3 hu))
                go_roundg k1
                case measure => omega
                case rel =>
                  have ha := added_ge HM.out.1 (by omega) n who kind
                  exact ⟨j + 1, k, false, _, g, by go_num, rfl, rfl, HD, ⟨by have := HJ.out; omega⟩, HC6, HR6, HQ6, ⟨⟨ha.1, fun x => ⟨(HM.out.2.1 x).1, Int.le_trans (HM.out.2.1 x).2 (ha.2 x)⟩, mid_add HM.out.2.2 ha.2⟩⟩, HB6⟩
          · have HJ60 := Aside0.mk (show j ≤ 60 by have := HJ.out; omega)
            have HX0 := Aside0.mk (show (0 : Nat) ≤ k from Nat.zero_le _)
            clear HJ
            rcases hway with ⟨hw1, rfl⟩ | hw1
            all_goals
              go_wp2
              go_loopg [10, 11, 14] n (fun kq v10 v11 v14 w' => ∃ (x k : Nat) (d : Bool) (g : Nat → Int), v14 = .int .i64 (x : Int) ∧ v10 = .int .i64 (k : Int) ∧ v11 = .bool d ∧ Aside0 (d = decide ((n : Int) ≤ (k : Int)) ∧ k ≤ n ∧ x ≤ k) ∧ Aside0 (x + kq = n) ∧ Aside0 (IsC w' c b n f') ∧ Aside0 (IsR w' r (some ⟨c, 0, none⟩) (k : Int) g) ∧ Aside0 (w'.heap[q]? = some (.cells (row s0 6) 47 (0, 0))) ∧ Aside0 (Mid f f' g k) ∧ Aside0 (Below w.heap.size w w'))
              case atStart => exact ⟨0, k, _, g, rfl, rfl, rfl, ⟨HD.out.1, HD.out.2, Nat.zero_le _⟩, ⟨by omega⟩, HC', HR, HQ, ⟨HM.out.2.2⟩, HB⟩
              case round =>
                have HM2 := Aside0.mk (And.intro HM.out.1 HM.out.2.1)
                clear HC' HR HQ HB HD HM HX0
                clear g k
                obtain ⟨x, k, d2, g, rfl, rfl, rfl, HD, HJ, HC', HR, HQ, HM, HB⟩ := hrel
                have hway2 : (∃ k1, gk = k1 + 1 ∧ d2 = false) ∨ ((x : Int) < (n : Int) ∧ d2 = true ∧ k = n) ∨ (¬ ((x : Int) < (n : Int)) ∧ d2 = true ∧ k = n) := by
                  have h1 := HD.out.1
                  have h2 := HD.out.2
                  cases gk with
                  | zero => right; right; have := HJ.out; exact ⟨by omega, by rw [h1]; exact decide_eq_true (by omega), by omega⟩
                  | succ k1 =>
                    cases d2 with
                    | false => exact Or.inl ⟨k1, rfl, rfl⟩
                    | true => right; left; have := HJ.out; have h3 := of_decide_eq_true h1.symm; exact ⟨by omega, rfl, by omega⟩
                rcases hway2 with ⟨k1, rfl, rfl⟩ | hway2
                · have hxn : (x : Int) < (n : Int) := by have := HJ.out; omega
                  have hkn : k < n := by have := HD.out.1; simp at this; omega
                  go_wp2_with (first | (go_at_call 34; (with_reducible refine (step_go (B := w.heap.size) HC'.out HR.out hkn HRN.out.1 HRN.out.2.1 HRN.out.2.2).mono ?_); rintro e w3 ⟨rfl, hr3, hc3, ho3, hb3⟩; have HC6 := Aside0.mk hc3; have HR6 := Aside0.mk hr3; have HQ6 := Aside0.mk ((ho3 q (blk_lt HQ.out) HQN.out.2.2.1).trans HQ.out); have HB6 := Aside0.mk (HB.out.trans hb3); clear hr3 hc3 ho3 hb3))
                  go_roundg k1
                  case measure => omega
                  case rel => exact ⟨x + 1, k + 1, decide ((n : Int) ≤ (k : Int) + 1), _, by go_num, by go_num, rfl, ⟨rfl, by omega, by have := HD.out.2.2; omega⟩, ⟨by have := HJ.out; omega⟩, HC6, HR6, HQ6, ⟨mid_step HM.out HM2.out.1 (by have := HJ60.out; omega) HM2.out.2 (by omega)⟩, HB6⟩
                · clear HJ HD
                  rcases hway2 with ⟨hx1, rfl, rfl⟩ | ⟨hx1, rfl, rfl⟩
                  all_goals
                    go_wp2_with (fail)
                    have hq : ∀ j, j < 6 → wr.cell? ⟨q, j, none⟩ = some (.int .i64 (s0 j)) := fun j hj => by rw [blk_cell HQ.out]; exact row_get _ _ _ hj
                    have HS1 := Aside0.mk (show (fun w' : World => ((w'.cell? ⟨q, 0, none⟩ = some (.int .i64 (s0 0)) ∧ w'.cell? ⟨q, 1, none⟩ = some (.int .i64 (s0 1)) ∧ w'.cell? ⟨q, 2, none⟩ = some (.int .i64 (s0 2)) ∧ w'.cell? ⟨q, 3, none⟩ = some (.int .i64 (s0 3)) ∧ w'.cell? ⟨q, 4, none⟩ = some (.int .i64 (s0 4)) ∧ w'.cell? ⟨q, 5, none⟩ = some (.int .i64 (s0 5))) ∧ IsC w' c b k f' ∧ IsR w' r (some ⟨c, 0, none⟩) (k : Int) g ∧ Below w.heap.size w w')) wr.drew from ⟨⟨hq 0 (by omega), hq 1 (by omega), hq 2 (by omega), hq 3 (by omega), hq 4 (by omega), hq 5 (by omega)⟩, HC'.out, HR.out, below_drew HB.out⟩)
                    obtain ⟨s1, hs1⟩ : ∃ s1, s1 = sumTo f' k := ⟨_, rfl⟩
                    have B1 := Aside0.mk (show ∀ w' : World, Calls Try.prog 32 #[.agg #[.int .i64 (s0 0), .int .i64 (s0 1), .int .i64 (s0 2), .int .i64 (s0 3), .int .i64 (s0 4), .int .i64 (s0 5)], .agg #[.int .i64 (g 0), .int .i64 (g 1), .int .i64 (g 2), .int .i64 (g 3), .int .i64 (g 4), .int .i64 (g 5)]] w' fun e w'' => e = .returned (.bool true) ∧ Below w'.heap.size w' w'' from fun w' => below_lit (s0 0) (s0 1) (s0 2) (s0 3) (s0 4) (s0 5) (g 0) (g 1) (g 2) (g 3) (g 4) (g 5) s0 g ⟨rfl, rfl, rfl, rfl, rfl, rfl⟩ ⟨rfl, rfl, rfl, rfl, rfl, rfl⟩ true (belowB_of fun x hx => by rw [HS0.out, sum_total HF.out (by have := HI20.out; omega) (by omega) x hx]; exact (HM.out x hx).1) w')
                    have B2 := Aside0.mk (show ∀ w' : World, Calls Try.prog 32 #[.agg #[.int .i64 (g 0), .int .i64 (g 1), .int .i64 (g 2), .int .i64 (g 3), .int .i64 (g 4), .int .i64 (g 5)], .agg #[.int .i64 (s1 0), .int .i64 (s1 1), .int .i64 (s1 2), .int .i64 (s1 3), .int .i64 (s1 4), .int .i64 (s1 5)]] w' fun e w'' => e = .returned (.bool true) ∧ Below w'.heap.size w' w'' from fun w' => below_lit (g 0) (g 1) (g 2) (g 3) (g 4) (g 5) (s1 0) (s1 1) (s1 2) (s1 3) (s1 4) (s1 5) g s1 ⟨rfl, rfl, rfl, rfl, rfl, rfl⟩ ⟨rfl, rfl, rfl, rfl, rfl, rfl⟩ true (belowB_of fun x hx => by rw [hs1, sum_total HM2.out.1 (by have := HJ60.out; omega) (by omega) x hx]; exact (HM.out x hx).2) w')
                    have CS := Aside0.mk (show ∀ w', IsC w' c b k f' → Calls Try.prog 29 #[.pointer (some ⟨c, 0, none⟩)] w' fun e w'' => e = .returned (.agg #[.int .i64 (s1 0), .int .i64 (s1 1), .int .i64 (s1 2), .int .i64 (s1 3), .int .i64 (s1 4), .int .i64 (s1 5)]) ∧ Below w'.heap.size w' w'' by rw [hs1]; exact fun w' h => sum_calls h)
                    have CN := Aside0.mk (show ∀ w' : World, Calls Try.prog 29 #[.pointer none] w' fun e w'' => e = .returned (.agg #[.int .i64 0, .int .i64 0, .int .i64 0, .int .i64 0, .int .i64 0, .int .i64 0]) ∧ Below w'.heap.size w' w'' from fun w' => sum_nil w')
                    have RS := Aside0.mk (show ∀ w', IsR w' r (some ⟨c, 0, none⟩) (k : Int) g → Calls Try.prog 35 #[.pointer (some ⟨r, 0, none⟩)] w' fun e w'' => e = .returned (.agg #[.int .i64 (g 0), .int .i64 (g 1), .int .i64 (g 2), .int .i64 (g 3), .int .i64 (g 4), .int .i64 (g 5)]) ∧ Below w'.heap.size w' w'' from fun w' h => sum_reader h)
                    have RE := Aside0.mk (show ∀ w', IsC w' c b k f' → IsR w' r (some ⟨c, 0, none⟩) (k : Int) g → Calls Try.prog 34 #[.pointer (some ⟨r, 0, none⟩)] w' fun e w'' => e = .returned (.bool true) ∧ Below w'.heap.size w' w'' from fun w' h1 h2 => (CountJ.step_end h1 h2 (Int.le_refl _)).mono fun e w'' h => ⟨h.1, h.2.2⟩)
                    clear HC' HR HQ HB hq hs1 HM HM2 HJ60 HF HI20 HS0 HRN HQN
                    have heq0 := fun w => eql_same w 0 0 0 0 0 0
                    go_region_held3 (fun w' => ((w'.cell? ⟨q, 0, none⟩ = some (.int .i64 (s0 0)) ∧ w'.cell? ⟨q, 1, none⟩ = some (.int .i64 (s0 1)) ∧ w'.cell? ⟨q, 2, none⟩ = some (.int .i64 (s0 2)) ∧ w'.cell? ⟨q, 3, none⟩ = some (.int .i64 (s0 3)) ∧ w'.cell? ⟨q, 4, none⟩ = some (.int .i64 (s0 4)) ∧ w'.cell? ⟨q, 5, none⟩ = some (.int .i64 (s0 5))) ∧ IsC w' c b k f' ∧ IsR w' r (some ⟨c, 0, none⟩) (k : Int) g ∧ Below w.heap.size w w')) (first | exact HS1.out | exact keepR hb (by assumption) | assumption) (first | (go_at_call 28; refine (awake_calls _).mono ?_; rintro e w3 ⟨rfl, hb⟩) | (go_at_call 35; (with_reducible refine (RS.out _ (heldR (w0 := w) (q := q) (c := c) (b := b) (n := k) (r := r) (f := f') (s := s0) (g := g) (k := (k : Int)) (by assumption))).mono ?_); rintro e w4 ⟨rfl, hb⟩) | (go_at_call 32; (first | (with_reducible refine (B1.out _).mono ?_) | (with_reducible refine (B2.out _).mono ?_)); rintro e w5 ⟨rfl, hb⟩) | (go_at_call 29; (first | (with_reducible refine (CS.out _ (heldC (w0 := w) (q := q) (c := c) (b := b) (n := k) (r := r) (f := f') (s := s0) (g := g) (k := (k : Int)) (by assumption))).mono ?_) | (with_reducible refine (CN.out _).mono ?_)); rintro e w6 ⟨rfl, hb⟩) | (go_at_call 34; (first | (with_reducible refine (RE.out _ (heldC (w0 := w) (q := q) (c := c) (b := b) (n := k) (r := r) (f := f') (s := s0) (g := g) (k := (k : Int)) (by assumption)) (heldR (w0 := w) (q := q) (c := c) (b := b) (n := k) (r := r) (f := f') (s := s0) (g := g) (k := (k : Int)) (by assumption))).mono ?_) | (with_reducible refine (step_none HR2.out).mono ?_)); rintro e w7 ⟨rfl, hb⟩) | (go_at_call 30; refine (len_nil _).mono ?_; rintro e w8 ⟨rfl, rfl⟩) | (go_at_call 33; refine (read_calls none _).mono ?_; rintro e w9 ⟨r2, rfl, hr2, hrl, hb⟩; have HR2 := Aside0.mk hr2; clear hr2 hrl))
                    all_goals
                      go_wp2
                      go_ret
                      exact ⟨rfl, heldB (w0 := w) (q := q) (c := c) (b := b) (n := k) (r := r) (f := f') (s := s0) (g := g) (k := (k : Int)) (by assumption)⟩
end Go.Proofs.Ytmknlojgjlpgfaa.CountM
