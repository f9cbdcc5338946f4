-- Written by a program of this session (wip/tools), out of the translation. Not trusted: Lean checks it.
import Derived.Test.YtcicjbgfahdejaaPx1
import Derived.Test.YtcicjbgfahdejaaPD
namespace Go.Proofs.Ytcicjbgfahdejaa.P
open Go.RowKit Go.Proofs.YtcicjbgfahdejaaW.PrintWords Go.Proofs.YtcicjbgfahdejaaW.PrintLast Go.Proofs.YtcicjbgfahdejaaW.PrintMore
attribute [local go_sem] max2_int min2_int max_two min_two max_three min_three max_four min_four   -- for this text's walks alone
set_option linter.unusedVariables false
set_option linter.unusedSimpArgs false

/-! ### worldmintref03_Amount -/
set_option maxHeartbeats 8000000 in
set_option maxRecDepth 100000 in
theorem worldmintref03_Amount.calls (a0 : Int) (r : Bool) (w : World) (h : worldmintref03_Amount.f a0 = some r) :
  Calls Try.prog 92 #[.int .i64 a0] w fun e w' => e = .returned (.bool r) ∧ Drawn0 w w' := by
 have H : (if a0 ≥ 0 then (some (decide (a0 ≤ 1099511627776))) else (some false)) = some r := h
 clear h
 by_cases c2 : a0 ≥ 0
 ·rw [if_pos c2] at H
  have c2b0 : decide (0 ≤ a0) = true := decide_eq_true c2
  clear c2
  obtain rfl := Option.some.inj H
  go_enter Try.func92, Try.ntmps92
  go_wp2
  go_ret
  exact ⟨by first | rfl | (simp only [i64_w]; done) | (simp; done) | (simp [*]; done), by repeat (first | exact Drawn0.refl _ | apply Drawn0.step)⟩
 ·rw [if_neg c2] at H
  have c2b0 : decide (0 ≤ a0) = false := decide_eq_false c2
  clear c2
  obtain rfl := Option.some.inj H
  go_enter Try.func92, Try.ntmps92
  go_wp2
  go_ret
  exact ⟨by first | rfl | (simp only [i64_w]; done) | (simp; done) | (simp [*]; done), by repeat (first | exact Drawn0.refl _ | apply Drawn0.step)⟩
/-! ### worldmintref03_Divide -/
set_option maxHeartbeats 8000000 in
set_option maxRecDepth 100000 in
theorem worldmintref03_Divide.calls (k : Nat) (a0 : Int) (a1 : Int) (a2 : Int) (r1 : Int) (r2 : Int) (r3 : Bool) (w : World) (h : worldmintref03_Divide.f k a0 a1 a2 = some (r1, r2, r3)) :
  Calls Try.prog 93 #[.int .i64 a0, .int .i64 a1, .int .i64 a2] w fun e w' => e = .returned (.tuple #[.int .i64 r1, .int .i64 r2, .bool r3]) ∧ Drawn0 w w' := by
 have H : (worldmintref03_Divide.l0 k a0 a1 a2 0 0 1152921504606846976) = some (r1, r2, r3) := h
 clear h
 have H' := Aside0.mk H
 clear H
 go_enter Try.func93, Try.ntmps93
 go_wp2
 go_loopg [0, 9, 10, 11] k (fun kq v0 v9 v10 v11 w' => ∃ (x0_1 : Int) (x9_1 : Int) (x10_1 : Int) (x11_1 : Int), v0 = .int .i64 x0_1 ∧ v9 = .int .i64 x9_1 ∧ v10 = .int .i64 x10_1 ∧ v11 = .int .i64 x11_1 ∧ Aside0 (worldmintref03_Divide.l0 kq x0_1 a1 a2 x9_1 x10_1 x11_1 = some (r1, r2, r3)) ∧ Aside0 (kq ≤ k) ∧ Drawn0 w w')
 case atStart => exact ⟨(a0), (0), (0), (1152921504606846976), eqs, eqs, eqs, eqs, H', ⟨Nat.le_refl _⟩, by repeat (first | exact Drawn0.refl _ | apply Drawn0.step)⟩
 case round =>
  clear H'
  obtain ⟨x0_1, x9_1, x10_1, x11_1, rfl, rfl, rfl, rfl, HA, HK1, ⟨m1, rfl⟩⟩ := hrel
  cases gk with
  | zero => exact absurd HA.out (by simp [worldmintref03_Divide.l0])
  | succ k1 =>
   have H := HA.out
   clear HA
   simp only [worldmintref03_Divide.l0] at H
   by_cases c4 : x11_1 > 0
   ·rw [if_pos c4] at H
    have c4b0 : decide (0 < x11_1) = true := decide_eq_true c4
    clear c4
    have HC5 := Aside0.mk H
    clear H
    go_upto_if 20 with (fail)
    go_cut [9, 10] (fun v9 v10 wc => ∃ (kq : Nat) (x9_4 : Int) (x10_4 : Int), v9 = .int .i64 x9_4 ∧ v10 = .int .i64 x10_4 ∧ Aside0 (worldmintref03_Divide.j1 kq x0_1 a1 a2 x9_4 x10_4 x11_1 = some (r1, r2, r3)) ∧ Aside0 (kq ≤ k1) ∧ Drawn0 w wc)
    case first =>
     have H := HC5.out
     clear HC5
     by_cases c6 : (wrap64 (2 * x10_1)) ≥ a2
     ·rw [if_pos c6] at H
      have c6b0 : decide (a2 ≤ (wrap64 (2 * x10_1))) = true := decide_eq_true c6
      clear c6
      (first | rw [c6b0] | (simp only [i64_w, i32_w]; rw [c6b0]) | skip)
      have H' := Aside0.mk H
      clear H
      go_wp2
      go_meet
      case rel => exact ⟨_, (wrap64 ((wrap64 (2 * x9_1)) + 1)), (wrap64 ((wrap64 (2 * x10_1)) - a2)), eqs, eqs, H', ⟨by have := HK1.out; first | omega | exact Nat.le_refl _⟩, by repeat (first | exact Drawn0.refl _ | apply Drawn0.step)⟩
     ·rw [if_neg c6] at H
      have c6b0 : decide (a2 ≤ (wrap64 (2 * x10_1))) = false := decide_eq_false c6
      clear c6
      (first | rw [c6b0] | (simp only [i64_w, i32_w]; rw [c6b0]) | skip)
      have H' := Aside0.mk H
      clear H
      go_wp2
      go_meet
      case rel => exact ⟨_, (wrap64 (2 * x9_1)), (wrap64 (2 * x10_1)), eqs, eqs, H', ⟨by have := HK1.out; first | omega | exact Nat.le_refl _⟩, by repeat (first | exact Drawn0.refl _ | apply Drawn0.step)⟩
    case rest =>
     clear HC5
     try clear c4
     try clear c4b0
     try clear c6
     try clear c6b0
     obtain ⟨kq, x9_4, x10_4, rfl, rfl, HA, HJ4, ⟨mc4, rfl⟩⟩ := hcut
     cases kq with
     | zero => exact absurd HA.out (by simp [worldmintref03_Divide.j1])
     | succ kj4 =>
      have H := HA.out
      clear HA
      simp only [worldmintref03_Divide.j1] at H
      have HC7 := Aside0.mk H
      clear H
      go_upto_if 28 with (fail)
      go_cut [0, 9, 10] (fun v0 v9 v10 wc => ∃ (kq : Nat) (x0_6 : Int) (x9_6 : Int) (x10_6 : Int), v0 = .int .i64 x0_6 ∧ v9 = .int .i64 x9_6 ∧ v10 = .int .i64 x10_6 ∧ Aside0 (worldmintref03_Divide.j2 kq x0_6 a1 a2 x9_6 x10_6 x11_1 = some (r1, r2, r3)) ∧ Aside0 (kq ≤ kj4) ∧ Drawn0 w wc)
      case first =>
       have H := HC7.out
       clear HC7
       by_cases c8 : x0_1 ≥ x11_1
       ·rw [if_pos c8] at H
        have c8b0 : decide (x11_1 ≤ x0_1) = true := decide_eq_true c8
        clear c8
        (first | rw [c8b0] | (simp only [i64_w, i32_w]; rw [c8b0]) | skip)
        by_cases c9 : a2 = 0
        ·rw [if_pos c9] at H
         exact absurd H (by simp)
        ·rw [if_neg c9] at H
         have c9b0 : (a2 == 0) = false := beq_eq_false_iff_ne.mpr c9
         have c9b1 : (a2 != 0) = true := bne_iff_ne.mpr c9
         by_cases c10 : (wrap64 (x10_4 + (Int.tmod a1 a2))) ≥ a2
         ·rw [if_pos c10] at H
          have c10b0 : decide (a2 ≤ (wrap64 (x10_4 + (Int.tmod a1 a2)))) = true := decide_eq_true c10
          clear c10
          have H' := Aside0.mk H
          clear H
          go_wp2
          go_meet
          case rel => exact ⟨_, (wrap64 (x0_1 - x11_1)), (wrap64 ((wrap64 (x9_4 + (wrap64 (Int.tdiv a1 a2)))) + 1)), (wrap64 ((wrap64 (x10_4 + (Int.tmod a1 a2))) - a2)), eqs, eqs, eqs, H', ⟨by have := HK1.out; have := HJ4.out; first | omega | exact Nat.le_refl _⟩, by repeat (first | exact Drawn0.refl _ | apply Drawn0.step)⟩
         ·rw [if_neg c10] at H
          have c10b0 : decide (a2 ≤ (wrap64 (x10_4 + (Int.tmod a1 a2)))) = false := decide_eq_false c10
          clear c10
          have H' := Aside0.mk H
          clear H
          go_wp2
          go_meet
          case rel => exact ⟨_, (wrap64 (x0_1 - x11_1)), (wrap64 (x9_4 + (wrap64 (Int.tdiv a1 a2)))), (wrap64 (x10_4 + (Int.tmod a1 a2))), eqs, eqs, eqs, H', ⟨by have := HK1.out; have := HJ4.out; first | omega | exact Nat.le_refl _⟩, by repeat (first | exact Drawn0.refl _ | apply Drawn0.step)⟩
       ·rw [if_neg c8] at H
        have c8b0 : decide (x11_1 ≤ x0_1) = false := decide_eq_false c8
        clear c8
        (first | rw [c8b0] | (simp only [i64_w, i32_w]; rw [c8b0]) | skip)
        have H' := Aside0.mk H
        clear H
        go_wp2
        go_meet
        case rel => exact ⟨_, (x0_1), (x9_4), (x10_4), eqs, eqs, eqs, H', ⟨by have := HK1.out; have := HJ4.out; first | omega | exact Nat.le_refl _⟩, by repeat (first | exact Drawn0.refl _ | apply Drawn0.step)⟩
      case rest =>
       clear HC7
       try clear c4
       try clear c4b0
       try clear c6
       try clear c6b0
       try clear c8
       try clear c8b0
       try clear c9
       try clear c9b0
       try clear c9b1
       try clear c10
       try clear c10b0
       obtain ⟨kq, x0_6, x9_6, x10_6, rfl, rfl, rfl, HA, HJ6, ⟨mc6, rfl⟩⟩ := hcut
       cases kq with
       | zero => exact absurd HA.out (by simp [worldmintref03_Divide.j2])
       | succ kj6 =>
        have H := HA.out
        clear HA
        simp only [worldmintref03_Divide.j2] at H
        by_cases c11 : x9_6 > 1152921504606846976
        ·rw [if_pos c11] at H
         have c11b0 : decide (1152921504606846976 < x9_6) = true := decide_eq_true c11
         clear c11
         simp only [Option.some.injEq, Prod.mk.injEq] at H
         obtain ⟨rfl, rfl, rfl⟩ := H
         go_wp2
         go_ret3
         exact ⟨by first | rfl | (simp only [i64_w]; done) | (simp; done) | (simp [*]; done), by repeat (first | exact Drawn0.refl _ | apply Drawn0.step)⟩
        ·rw [if_neg c11] at H
         have c11b0 : decide (1152921504606846976 < x9_6) = false := decide_eq_false c11
         clear c11
         have H' := Aside0.mk H
         clear H
         go_wp2
         go_roundg kj6
         case measure => have := HK1.out; have := HJ4.out; have := HJ6.out; omega
         case rel => exact ⟨(x0_6), (x9_6), (x10_6), (wrap64 (Int.tdiv x11_1 2)), eqs, eqs, eqs, eqs, H', ⟨by have := HK1.out; have := HJ4.out; have := HJ6.out; omega⟩, by repeat (first | exact Drawn0.refl _ | apply Drawn0.step)⟩
   ·rw [if_neg c4] at H
    have c4b0 : decide (0 < x11_1) = false := decide_eq_false c4
    clear c4
    simp only [Option.some.injEq, Prod.mk.injEq] at H
    obtain ⟨rfl, rfl, rfl⟩ := H
    go_wp2
    go_ret3
    exact ⟨by first | rfl | (simp only [i64_w]; done) | (simp; done) | (simp [*]; done), by repeat (first | exact Drawn0.refl _ | apply Drawn0.step)⟩
/-! ### worldmintref03_Split -/
set_option maxHeartbeats 8000000 in
set_option maxRecDepth 100000 in
theorem worldmintref03_Split.calls (k : Nat) (a0 : Int) (A1 : Option Addr) (c1 : Nat) (l1 : List Int) (r1 : List Int) (r2 : Int) (w : World) (hr1 : Kd.C (Kd.int .i64) w A1 l1.length l1) (hc1 : l1.length ≤ c1) (h : worldmintref03_Split.f k a0 l1 = some (r1, r2)) :
  Calls Try.prog 76 #[.int .i64 a0, .slice A1 l1.length c1] w fun e w' => ∃ v0_ : Value, e = .returned (.tuple #[v0_, .int .i64 r2]) ∧ Kd.R (Kd.int .i64) 3 w' w.heap.size (fun _ => True) v0_ r1 ∧ Below w.heap.size w w' := by
 have HR1 := Aside0.mk hr1
 have HC1 := Aside0.mk hc1
 clear hr1 hc1
 have HB := Aside0.mk (Below.refl w.heap.size w)
 have H : (worldmintref03_Split.l0 k a0 l1 0 0) = some (r1, r2) := h
 clear h
 have H' := Aside0.mk H
 clear H
 go_enter Try.func76, Try.ntmps76
 go_wp2
 repeat (go_quiet (fail); try go_wp2)
 go_loopg [6, 7] k (fun kq v6 v7 w' => ∃ (x6_1 : Int) (x7_1 : Int), v6 = .int .i64 x6_1 ∧ v7 = .int .i64 x7_1 ∧ Aside0 (worldmintref03_Split.l0 kq a0 l1 x6_1 x7_1 = some (r1, r2)) ∧ Aside0 (kq ≤ k) ∧ Aside0 (Below w.heap.size w w'))
 case atStart => exact ⟨(0), (0), eqs, eqs, H', ⟨Nat.le_refl _⟩, ⟨bw⟩⟩
 case round =>
  clear H'
  try clear c1
  obtain ⟨x6_1, x7_1, rfl, rfl, HA, HK1, HB⟩ := hrel
  cases gk with
  | zero => exact absurd HA.out (by simp [worldmintref03_Split.l0])
  | succ k1 =>
   have H := HA.out
   clear HA
   simp only [worldmintref03_Split.l0] at H
   by_cases c3 : x7_1 < (l1.length : Int)
   ·rw [if_pos c3] at H
    have c3b0 : decide (x7_1 < (l1.length : Int)) = true := decide_eq_true c3
    clear c3
    by_cases c4 : 0 ≤ x7_1
    ·rw [if_pos c4] at H
     have c4b0 : decide (0 ≤ x7_1) = true := decide_eq_true c4
     clear c4
     replace H := Option.bind_eq_some_iff.mp H
     obtain ⟨t187, A50, H⟩ := H
     replace H : (if t187 = true then (if x6_1 > 1152921504606846976 then (some (([] : List Int), 1)) else (worldmintref03_Split.l0 k1 a0 l1 (wrap64 (x6_1 + (rd l1 x7_1))) (wrap64 (x7_1 + 1)))) else (some (([] : List Int), 1))) = some (r1, r2) := H
     have A5 := Aside0.mk A50
     clear A50
     by_cases c6 : t187 = true
     ·subst c6
      have H1 : (if x6_1 > 1152921504606846976 then (some (([] : List Int), 1)) else (worldmintref03_Split.l0 k1 a0 l1 (wrap64 (x6_1 + (rd l1 x7_1))) (wrap64 (x7_1 + 1)))) = some (r1, r2) := by rw [if_pos rfl] at H; exact H
      clear H
      have H := H1
      clear H1
      by_cases c7 : x6_1 > 1152921504606846976
      ·rw [if_pos c7] at H
       have c7b0 : decide (1152921504606846976 < x6_1) = true := decide_eq_true c7
       clear c7
       simp only [Option.some.injEq, Prod.mk.injEq] at H
       obtain ⟨rfl, rfl⟩ := H
       have p186 : 0 ≤ (x7_1 : Int) := oda
       have q186 : x7_1 < (l1.length : Int) := oda
       obtain ⟨ad186, e186, hx186_0⟩ := Kd.at_int HR1.out x7_1 p186 q186
       cases e186
       replace hx186_0 := (HB.out.cell (World.block_lt_of_cell? w _ hx186_0)).trans hx186_0
       replace p186 := eq_true p186
       replace q186 := eq_true q186
       go_wp2_with (first | (go_at_call 92; (with_reducible refine (worldmintref03_Amount.calls (rd l1 x7_1) true _ A5.out).mono ?_); rintro e w' ⟨rfl, ⟨nd, rfl⟩⟩; (try first | exact ⟨rfl, _, World.drewN_drewN _ _ _⟩ | exact ⟨rfl, _, Eq.trans (World.drewN_drewN _ _ _) (congrArg (World.drewN _) (Nat.add_assoc _ _ _))⟩)))
       repeat (go_quiet (first | (go_at_call 92; (with_reducible refine (worldmintref03_Amount.calls (rd l1 x7_1) true _ A5.out).mono ?_); rintro e w' ⟨rfl, ⟨nd, rfl⟩⟩; (try first | exact ⟨rfl, _, World.drewN_drewN _ _ _⟩ | exact ⟨rfl, _, Eq.trans (World.drewN_drewN _ _ _) (congrArg (World.drewN _) (Nat.add_assoc _ _ _))⟩))); try go_wp2_with (first | (go_at_call 92; (with_reducible refine (worldmintref03_Amount.calls (rd l1 x7_1) true _ A5.out).mono ?_); rintro e w' ⟨rfl, ⟨nd, rfl⟩⟩; (try first | exact ⟨rfl, _, World.drewN_drewN _ _ _⟩ | exact ⟨rfl, _, Eq.trans (World.drewN_drewN _ _ _) (congrArg (World.drewN _) (Nat.add_assoc _ _ _))⟩))))
       go_ret2
       exact ⟨_, by first | rfl | (simp [errW_none, errW_some] <;> rfl) | (simp [*, errW_none, errW_some] <;> rfl), by first | exact Kd.R_nil _ _ _ _ _ | exact Kd.N_nil _ _ _ _ _ | exact Kd.V_nil _ _ _ _ _ | exact Kd.Q_nil _ _ _ _ _ | exact Kd.S_nil _ _ _ _ _, bw⟩
      ·rw [if_neg c7] at H
       have c7b0 : decide (1152921504606846976 < x6_1) = false := decide_eq_false c7
       clear c7
       have H' := Aside0.mk H
       clear H
       have p186 : 0 ≤ (x7_1 : Int) := oda
       have q186 : x7_1 < (l1.length : Int) := oda
       obtain ⟨ad186, e186, hx186_0⟩ := Kd.at_int HR1.out x7_1 p186 q186
       cases e186
       replace hx186_0 := (HB.out.cell (World.block_lt_of_cell? w _ hx186_0)).trans hx186_0
       replace p186 := eq_true p186
       replace q186 := eq_true q186
       go_wp2_with (first | (go_at_call 92; (with_reducible refine (worldmintref03_Amount.calls (rd l1 x7_1) true _ A5.out).mono ?_); rintro e w' ⟨rfl, ⟨nd, rfl⟩⟩; (try first | exact ⟨rfl, _, World.drewN_drewN _ _ _⟩ | exact ⟨rfl, _, Eq.trans (World.drewN_drewN _ _ _) (congrArg (World.drewN _) (Nat.add_assoc _ _ _))⟩); have p188 : 0 ≤ (x7_1 : Int) := oda; have q188 : x7_1 < (l1.length : Int) := oda; obtain ⟨ad188, e188, hx188_0⟩ := Kd.at_int HR1.out x7_1 p188 q188; obtain rfl : ad186 = ad188 := (by injection e188); replace hx188_0 := (HB.out.cell (World.block_lt_of_cell? w _ hx188_0)).trans hx188_0; replace p188 := eq_true p188; replace q188 := eq_true q188))
       repeat (go_quiet (first | (go_at_call 92; (with_reducible refine (worldmintref03_Amount.calls (rd l1 x7_1) true _ A5.out).mono ?_); rintro e w' ⟨rfl, ⟨nd, rfl⟩⟩; (try first | exact ⟨rfl, _, World.drewN_drewN _ _ _⟩ | exact ⟨rfl, _, Eq.trans (World.drewN_drewN _ _ _) (congrArg (World.drewN _) (Nat.add_assoc _ _ _))⟩); have p188 : 0 ≤ (x7_1 : Int) := oda; have q188 : x7_1 < (l1.length : Int) := oda; obtain ⟨ad188, e188, hx188_0⟩ := Kd.at_int HR1.out x7_1 p188 q188; obtain rfl : ad186 = ad188 := (by injection e188); replace hx188_0 := (HB.out.cell (World.block_lt_of_cell? w _ hx188_0)).trans hx188_0; replace p188 := eq_true p188; replace q188 := eq_true q188)); try go_wp2_with (first | (go_at_call 92; (with_reducible refine (worldmintref03_Amount.calls (rd l1 x7_1) true _ A5.out).mono ?_); rintro e w' ⟨rfl, ⟨nd, rfl⟩⟩; (try first | exact ⟨rfl, _, World.drewN_drewN _ _ _⟩ | exact ⟨rfl, _, Eq.trans (World.drewN_drewN _ _ _) (congrArg (World.drewN _) (Nat.add_assoc _ _ _))⟩); have p188 : 0 ≤ (x7_1 : Int) := oda; have q188 : x7_1 < (l1.length : Int) := oda; obtain ⟨ad188, e188, hx188_0⟩ := Kd.at_int HR1.out x7_1 p188 q188; obtain rfl : ad186 = ad188 := (by injection e188); replace hx188_0 := (HB.out.cell (World.block_lt_of_cell? w _ hx188_0)).trans hx188_0; replace p188 := eq_true p188; replace q188 := eq_true q188)))
       go_roundg k1
       case measure => have := HK1.out; omega
       case rel => exact ⟨(wrap64 (x6_1 + (rd l1 x7_1))), (wrap64 (x7_1 + 1)), eqs, eqs, H', ⟨by have := HK1.out; omega⟩, ⟨bw⟩⟩
     ·replace c6 := Bool.eq_false_iff.mpr c6
      subst c6
      have H1 : (some (([] : List Int), 1)) = some (r1, r2) := by rw [if_neg (show ¬ (false = true) by decide)] at H; exact H
      clear H
      have H := H1
      clear H1
      simp only [Option.some.injEq, Prod.mk.injEq] at H
      obtain ⟨rfl, rfl⟩ := H
      have p186 : 0 ≤ (x7_1 : Int) := oda
      have q186 : x7_1 < (l1.length : Int) := oda
      obtain ⟨ad186, e186, hx186_0⟩ := Kd.at_int HR1.out x7_1 p186 q186
      cases e186
      replace hx186_0 := (HB.out.cell (World.block_lt_of_cell? w _ hx186_0)).trans hx186_0
      replace p186 := eq_true p186
      replace q186 := eq_true q186
      go_wp2_with (first | (go_at_call 92; (with_reducible refine (worldmintref03_Amount.calls (rd l1 x7_1) false _ A5.out).mono ?_); rintro e w' ⟨rfl, ⟨nd, rfl⟩⟩; (try first | exact ⟨rfl, _, World.drewN_drewN _ _ _⟩ | exact ⟨rfl, _, Eq.trans (World.drewN_drewN _ _ _) (congrArg (World.drewN _) (Nat.add_assoc _ _ _))⟩)))
      repeat (go_quiet (first | (go_at_call 92; (with_reducible refine (worldmintref03_Amount.calls (rd l1 x7_1) false _ A5.out).mono ?_); rintro e w' ⟨rfl, ⟨nd, rfl⟩⟩; (try first | exact ⟨rfl, _, World.drewN_drewN _ _ _⟩ | exact ⟨rfl, _, Eq.trans (World.drewN_drewN _ _ _) (congrArg (World.drewN _) (Nat.add_assoc _ _ _))⟩))); try go_wp2_with (first | (go_at_call 92; (with_reducible refine (worldmintref03_Amount.calls (rd l1 x7_1) false _ A5.out).mono ?_); rintro e w' ⟨rfl, ⟨nd, rfl⟩⟩; (try first | exact ⟨rfl, _, World.drewN_drewN _ _ _⟩ | exact ⟨rfl, _, Eq.trans (World.drewN_drewN _ _ _) (congrArg (World.drewN _) (Nat.add_assoc _ _ _))⟩))))
      go_ret2
      exact ⟨_, by first | rfl | (simp [errW_none, errW_some] <;> rfl) | (simp [*, errW_none, errW_some] <;> rfl), by first | exact Kd.R_nil _ _ _ _ _ | exact Kd.N_nil _ _ _ _ _ | exact Kd.V_nil _ _ _ _ _ | exact Kd.Q_nil _ _ _ _ _ | exact Kd.S_nil _ _ _ _ _, bw⟩
    ·rw [if_neg c4] at H
     exact absurd H (by simp)
   ·rw [if_neg c3] at H
    have c3b0 : decide (x7_1 < (l1.length : Int)) = false := decide_eq_false c3
    clear c3
    replace H := Option.bind_eq_some_iff.mp H
    obtain ⟨t189, A80, H⟩ := H
    replace H : (if t189 = true then (if x6_1 = 0 then (worldmintref03_Split.j1 k1 a0 l1 x6_1 true) else (worldmintref03_Split.j1 k1 a0 l1 x6_1 (decide (x6_1 > 1152921504606846976)))) else (worldmintref03_Split.j1 k1 a0 l1 x6_1 true)) = some (r1, r2) := H
    have A8 := Aside0.mk A80
    clear A80
    have HC9 := Aside0.mk H
    clear H
    go_upto_region 10 with (first | (go_at_call 92; (with_reducible refine (worldmintref03_Amount.calls a0 t189 _ A8.out).mono ?_); rintro e w' ⟨rfl, ⟨nd, rfl⟩⟩; (try first | exact ⟨rfl, _, World.drewN_drewN _ _ _⟩ | exact ⟨rfl, _, Eq.trans (World.drewN_drewN _ _ _) (congrArg (World.drewN _) (Nat.add_assoc _ _ _))⟩)))
    repeat (go_quiet (first | (go_at_call 92; (with_reducible refine (worldmintref03_Amount.calls a0 t189 _ A8.out).mono ?_); rintro e w' ⟨rfl, ⟨nd, rfl⟩⟩; (try first | exact ⟨rfl, _, World.drewN_drewN _ _ _⟩ | exact ⟨rfl, _, Eq.trans (World.drewN_drewN _ _ _) (congrArg (World.drewN _) (Nat.add_assoc _ _ _))⟩))); go_upto_region 10 with (first | (go_at_call 92; (with_reducible refine (worldmintref03_Amount.calls a0 t189 _ A8.out).mono ?_); rintro e w' ⟨rfl, ⟨nd, rfl⟩⟩; (try first | exact ⟨rfl, _, World.drewN_drewN _ _ _⟩ | exact ⟨rfl, _, Eq.trans (World.drewN_drewN _ _ _) (congrArg (World.drewN _) (Nat.add_assoc _ _ _))⟩))))
    (try simp only [Act.put, List.setIfInBounds_toArray, List.set_cons_zero, List.set_cons_succ])
    go_cut [53] (fun v53 wc => ∃ (kq : Nat) (x53_8 : Bool), v53 = .bool x53_8 ∧ Aside0 (worldmintref03_Split.j1 kq a0 l1 x6_1 x53_8 = some (r1, r2)) ∧ Aside0 (kq ≤ k1) ∧ Aside0 (Below w.heap.size w wc))
    case first =>
     have H := HC9.out
     clear HC9
     by_cases c10 : t189 = true
     ·subst c10
      have H1 : (if x6_1 = 0 then (worldmintref03_Split.j1 k1 a0 l1 x6_1 true) else (worldmintref03_Split.j1 k1 a0 l1 x6_1 (decide (x6_1 > 1152921504606846976)))) = some (r1, r2) := by rw [if_pos rfl] at H; exact H
      clear H
      have H := H1
      clear H1
      by_cases c11 : x6_1 = 0
      ·rw [if_pos c11] at H
       have c11b0 : (x6_1 == 0) = true := beq_iff_eq.mpr c11
       have c11b1 : (x6_1 != 0) = false := bne_eq_false_iff_eq.mpr c11
       clear c11
       (first | rw [c11b0] | (simp only [i64_w, i32_w]; rw [c11b0]) | skip)
       have H' := Aside0.mk H
       clear H
       go_wp2
       repeat (go_quiet (fail); try go_wp2)
       go_meet
       case rel => exact ⟨_, (true), eqs, H', ⟨by have := HK1.out; first | omega | exact Nat.le_refl _⟩, ⟨bw⟩⟩
      ·rw [if_neg c11] at H
       have c11b0 : (x6_1 == 0) = false := beq_eq_false_iff_ne.mpr c11
       have c11b1 : (x6_1 != 0) = true := bne_iff_ne.mpr c11
       (first | rw [c11b0] | (simp only [i64_w, i32_w]; rw [c11b0]) | skip)
       have H' := Aside0.mk H
       clear H
       go_wp2
       repeat (go_quiet (fail); try go_wp2)
       go_meet
       case rel => exact ⟨_, (decide (x6_1 > 1152921504606846976)), eqs, H', ⟨by have := HK1.out; first | omega | exact Nat.le_refl _⟩, ⟨bw⟩⟩
     ·replace c10 := Bool.eq_false_iff.mpr c10
      subst c10
      have H1 : (worldmintref03_Split.j1 k1 a0 l1 x6_1 true) = some (r1, r2) := by rw [if_neg (show ¬ (false = true) by decide)] at H; exact H
      clear H
      have H := H1
      clear H1
      have H' := Aside0.mk H
      clear H
      go_wp2
      repeat (go_quiet (fail); try go_wp2)
      go_meet
      case rel => exact ⟨_, (true), eqs, H', ⟨by have := HK1.out; first | omega | exact Nat.le_refl _⟩, ⟨bw⟩⟩
    case rest =>
     clear HC9
     try clear c1
     try clear c3
     try clear c3b0
     try clear c4
     try clear c4b0
     try clear c6
     try clear c7
     try clear c7b0
     try clear c10
     try clear c11
     try clear c11b0
     try clear c11b1
     try clear hx186_0
     try clear hx188_0
     try clear p186
     try clear p188
     try clear q186
     try clear q188
     obtain ⟨kq, x53_8, rfl, HA, HJ8, HB⟩ := hcut
     cases kq with
     | zero => exact absurd HA.out (by simp [worldmintref03_Split.j1])
     | succ kj8 =>
      have H := HA.out
      clear HA
      simp only [worldmintref03_Split.j1] at H
      by_cases c12 : x53_8 = true
      ·subst c12
       have H1 : (some (([] : List Int), 1)) = some (r1, r2) := by rw [if_pos rfl] at H; exact H
       clear H
       have H := H1
       clear H1
       simp only [Option.some.injEq, Prod.mk.injEq] at H
       obtain ⟨rfl, rfl⟩ := H
       go_wp2
       repeat (go_quiet (fail); try go_wp2)
       go_ret2
       exact ⟨_, by first | rfl | (simp [errW_none, errW_some] <;> rfl) | (simp [*, errW_none, errW_some] <;> rfl), by first | exact Kd.R_nil _ _ _ _ _ | exact Kd.N_nil _ _ _ _ _ | exact Kd.V_nil _ _ _ _ _ | exact Kd.Q_nil _ _ _ _ _ | exact Kd.S_nil _ _ _ _ _, bw⟩
      ·replace c12 := Bool.eq_false_iff.mpr c12
       subst c12
       have H1 : (worldmintref03_Split.l1 kj8 a0 l1 x6_1 ([] : List Int) ([] : List Int) a0 0) = some (r1, r2) := by rw [if_neg (show ¬ (false = true) by decide)] at H; exact H
       clear H
       have H := H1
       clear H1
       have H' := Aside0.mk H
       clear H
       go_wp2
       repeat (go_quiet (fail); try go_wp2)
       go_loopg [10, 11, 12, 13] kj8 (fun kq v10 v11 v12 v13 w' => ∃ (x10_3 : List Int) (x11_3 : List Int) (x12_3 : Int) (x13_3 : Int), v12 = .int .i64 x12_3 ∧ v13 = .int .i64 x13_3 ∧ Aside0 (worldmintref03_Split.l1 kq a0 l1 x6_1 x10_3 x11_3 x12_3 x13_3 = some (r1, r2)) ∧ Aside0 (kq ≤ kj8) ∧ Aside0 (Kd.R (Kd.int .i64) 3 w' w.heap.size (fun k_ => some k_ ≠ (v11 : Value).ownBlock) v10 x10_3) ∧ Aside0 (Kd.R (Kd.int .i64) 3 w' w.heap.size (fun k_ => some k_ ≠ (v10 : Value).ownBlock) v11 x11_3) ∧ Aside0 (Below w.heap.size w w'))
       case atStart => exact ⟨(([] : List Int)), (([] : List Int)), (a0), (0), eqs, eqs, H', ⟨Nat.le_refl _⟩, ⟨by first | exact Kd.R_nil _ _ _ _ _ | exact Kd.N_nil _ _ _ _ _ | exact Kd.V_nil _ _ _ _ _ | exact Kd.Q_nil _ _ _ _ _ | exact Kd.S_nil _ _ _ _ _⟩, ⟨by first | exact Kd.R_nil _ _ _ _ _ | exact Kd.N_nil _ _ _ _ _ | exact Kd.V_nil _ _ _ _ _ | exact Kd.Q_nil _ _ _ _ _ | exact Kd.S_nil _ _ _ _ _⟩, ⟨bw⟩⟩
       case round =>
        clear H'
        try clear c1
        try clear c3
        try clear c3b0
        try clear c4
        try clear c4b0
        try clear c6
        try clear c7
        try clear c7b0
        try clear c10
        try clear c11
        try clear c11b0
        try clear c11b1
        try clear c12
        try clear hx186_0
        try clear hx188_0
        try clear p186
        try clear p188
        try clear q186
        try clear q188
        obtain ⟨x10_3, x11_3, x12_3, x13_3, rfl, rfl, HA, HK3, HO_10, HO_11, HB⟩ := hrel
        cases gk with
        | zero => exact absurd HA.out (by simp [worldmintref03_Split.l1])
        | succ k3 =>
         have H := HA.out
         clear HA
         simp only [worldmintref03_Split.l1] at H
         by_cases c13 : x13_3 < (l1.length : Int)
         ·rw [if_pos c13] at H
          have c13b0 : decide (x13_3 < (l1.length : Int)) = true := decide_eq_true c13
          clear c13
          by_cases c14 : 0 ≤ x13_3
          ·rw [if_pos c14] at H
           have c14b0 : decide (0 ≤ x13_3) = true := decide_eq_true c14
           clear c14
           replace H := Option.bind_eq_some_iff.mp H
           obtain ⟨⟨t191, t192, t193⟩, A150, H⟩ := H
           replace H : (if x10_3.length < 17592186044416 then (if x11_3.length < 17592186044416 then (worldmintref03_Split.l1 k3 a0 l1 x6_1 (x10_3 ++ [t191]) (x11_3 ++ [t192]) (wrap64 (x12_3 - t191)) (wrap64 (x13_3 + 1))) else (none)) else (none)) = some (r1, r2) := H
           have A15 := Aside0.mk A150
           clear A150
           by_cases c16 : x10_3.length < 17592186044416
           ·rw [if_pos c16] at H
            have LMc16 := Aside0.mk c16
            clear c16
            obtain ⟨y194, hy194⟩ : ∃ y_ : List Int, y_ = (x10_3 ++ [t191]) := ⟨_, rfl⟩
            replace H : (if x11_3.length < 17592186044416 then (worldmintref03_Split.l1 k3 a0 l1 x6_1 y194 (x11_3 ++ [t192]) (wrap64 (x12_3 - t191)) (wrap64 (x13_3 + 1))) else (none)) = some (r1, r2) := by first | (rw [hy194]; with_reducible exact H) | (have H2_ := (Option.bind_some _ _).symm.trans H; rw [hy194]; with_reducible exact H2_) | (have H2_ := (Option.bind_some _ _).symm.trans H; with_reducible exact H2_) | with_reducible exact H | (rw [hy194]; exact H) | exact H
            have Ny194 := Aside0.mk hy194
            clear hy194
            by_cases c17 : x11_3.length < 17592186044416
            ·rw [if_pos c17] at H
             have LMc17 := Aside0.mk c17
             clear c17
             obtain ⟨y197, hy197⟩ : ∃ y_ : List Int, y_ = (x11_3 ++ [t192]) := ⟨_, rfl⟩
             replace H : (worldmintref03_Split.l1 k3 a0 l1 x6_1 y194 y197 (wrap64 (x12_3 - t191)) (wrap64 (x13_3 + 1))) = some (r1, r2) := by first | (rw [hy197]; with_reducible exact H) | (have H2_ := (Option.bind_some _ _).symm.trans H; rw [hy197]; with_reducible exact H2_) | (have H2_ := (Option.bind_some _ _).symm.trans H; with_reducible exact H2_) | with_reducible exact H | (rw [hy197]; exact H) | exact H
             have Ny197 := Aside0.mk hy197
             clear hy197
             have H' := Aside0.mk H
             clear H
             have p190 : 0 ≤ (x13_3 : Int) := oda
             have q190 : x13_3 < (l1.length : Int) := oda
             obtain ⟨ad190, e190, hx190_0⟩ := Kd.at_int HR1.out x13_3 p190 q190
             cases e190
             replace hx190_0 := (HB.out.cell (World.block_lt_of_cell? w _ hx190_0)).trans hx190_0
             replace p190 := eq_true p190
             replace q190 := eq_true q190
             go_wp2_with (first | (go_at_call 93; (with_reducible refine (worldmintref03_Divide.calls k3 a0 (rd l1 x13_3) x6_1 t191 t192 t193 _ A15.out).mono ?_); rintro e w' ⟨rfl, ⟨nd, rfl⟩⟩; (try first | exact ⟨rfl, _, World.drewN_drewN _ _ _⟩ | exact ⟨rfl, _, Eq.trans (World.drewN_drewN _ _ _) (congrArg (World.drewN _) (Nat.add_assoc _ _ _))⟩)) | ((with_reducible refine gate_builtin (b := .append) (xs := #[.tmp 72, .tmp 74]) rfl ?_); at_builtin; refine Kd.R_append (Kd.int .i64) (w0 := w) w.heap.size rfl (.tmp 72) (.tmp 74) 23 3 (.int .i64 0) 8 rfl Try.underlying23 info3 rfl (by decide) (by omega) u10 x10_3 t191 [.int .i64 t191] (fun k_ => some k_ ≠ (u11 : Value).ownBlock) (fun _ => False) rfl rfl ?aP (fun _ hk => hk.elim) ?aF ?aO ?aB ?aS ?aL ?_; (case aP => exact rfl); (case aB => exact (bw)); (case aF => exact (fun k_ hk => Kd.fresh' (Kd.R_lt (kr HO_11.out)) k_ hk)); (case aO => exact (kr HO_10.out)); (case aS => exact (below_size (bw))); (case aL => have := LMc16.out; omega); intro v195 w18 ho hb hg hat; rw [← Ny194.out] at ho; have n0_ := Aside0.mk (Kd.R_after (ok := (fun _ => True)) (by (with_reducible repeat (first | apply Kd.R_alloc | apply Kd.R_drewN | apply Kd.R_drew)); exact Kd.R_mono HO_11.out (fun _ hk => ⟨trivial, hk⟩)) hg hat); have n1_ := Aside0.mk (hb); have n2_ := Aside0.mk (ho); clear HO_11; clear HB; clear HO_10; have HO_11 := n0_; have HB := n1_; have HO196 := n2_; clear n0_ n1_ n2_; clear ho hb hg hat) | ((with_reducible refine gate_builtin (b := .append) (xs := #[.tmp 76, .tmp 78]) rfl ?_); at_builtin; refine Kd.R_append (Kd.int .i64) (w0 := w) w.heap.size rfl (.tmp 76) (.tmp 78) 23 3 (.int .i64 0) 8 rfl Try.underlying23 info3 rfl (by decide) (by omega) u11 x11_3 t192 [.int .i64 t192] (fun k_ => some k_ ≠ (v195 : Value).ownBlock) (fun _ => False) rfl rfl ?aP (fun _ hk => hk.elim) ?aF ?aO ?aB ?aS ?aL ?_; (case aP => exact rfl); (case aB => exact (bw)); (case aF => exact (fun k_ hk => Kd.fresh' (Kd.R_lt (kr HO196.out)) k_ hk)); (case aO => exact (by (with_reducible repeat (first | apply Kd.R_alloc | apply Kd.R_drewN | apply Kd.R_drew)); exact Kd.R_mono HO_11.out (fun _ hk => hk.2))); (case aS => exact (below_size (bw))); (case aL => have := LMc17.out; omega); intro v198 w19 ho hb hg hat; rw [← Ny197.out] at ho; have n0_ := Aside0.mk (Kd.R_after (ok := (fun _ => True)) (by (with_reducible repeat (first | apply Kd.R_alloc | apply Kd.R_drewN | apply Kd.R_drew)); exact Kd.R_mono HO196.out (fun _ hk => ⟨trivial, hk⟩)) hg hat); have n1_ := Aside0.mk (hb); have n2_ := Aside0.mk (ho); clear HO196; clear HB; clear HO_11; have HO196 := n0_; have HB := n1_; have HO199 := n2_; clear n0_ n1_ n2_; clear ho hb hg hat))
             repeat (go_quiet (fail); try go_wp2_with (first | ((with_reducible refine gate_builtin (b := .append) (xs := #[.tmp 76, .tmp 78]) rfl ?_); at_builtin; refine Kd.R_append (Kd.int .i64) (w0 := w) w.heap.size rfl (.tmp 76) (.tmp 78) 23 3 (.int .i64 0) 8 rfl Try.underlying23 info3 rfl (by decide) (by omega) u11 x11_3 t192 [.int .i64 t192] (fun k_ => some k_ ≠ (v195 : Value).ownBlock) (fun _ => False) rfl rfl ?aP (fun _ hk => hk.elim) ?aF ?aO ?aB ?aS ?aL ?_; (case aP => exact rfl); (case aB => exact (bw)); (case aF => exact (fun k_ hk => Kd.fresh' (Kd.R_lt (kr HO196.out)) k_ hk)); (case aO => exact (by (with_reducible repeat (first | apply Kd.R_alloc | apply Kd.R_drewN | apply Kd.R_drew)); exact Kd.R_mono HO_11.out (fun _ hk => hk.2))); (case aS => exact (below_size (bw))); (case aL => have := LMc17.out; omega); intro v198 w19 ho hb hg hat; rw [← Ny197.out] at ho; have n0_ := Aside0.mk (Kd.R_after (ok := (fun _ => True)) (by (with_reducible repeat (first | apply Kd.R_alloc | apply Kd.R_drewN | apply Kd.R_drew)); exact Kd.R_mono HO196.out (fun _ hk => ⟨trivial, hk⟩)) hg hat); have n1_ := Aside0.mk (hb); have n2_ := Aside0.mk (ho); clear HO196; clear HB; clear HO_11; have HO196 := n0_; have HB := n1_; have HO199 := n2_; clear n0_ n1_ n2_; clear ho hb hg hat)))
             go_roundg k3
             case measure => have := HK1.out; have := HJ8.out; have := HK3.out; omega
             case rel => exact ⟨(y194), (y197), (wrap64 (x12_3 - t191)), (wrap64 (x13_3 + 1)), eqs, eqs, H', ⟨by have := HK1.out; have := HJ8.out; have := HK3.out; omega⟩, ⟨by (with_reducible repeat (first | apply Kd.R_alloc | apply Kd.R_drewN | apply Kd.R_drew)); exact Kd.R_mono HO196.out (fun _ hk => hk.2)⟩, ⟨kr HO199.out⟩, ⟨bw⟩⟩
            ·rw [if_neg c17] at H
             exact absurd H (by simp)
           ·rw [if_neg c16] at H
            exact absurd H (by simp)
          ·rw [if_neg c14] at H
           exact absurd H (by simp)
         ·rw [if_neg c13] at H
          have c13b0 : decide (x13_3 < (l1.length : Int)) = false := decide_eq_false c13
          clear c13
          have H' := Aside0.mk H
          clear H
          go_wp2
          repeat (go_quiet (fail); try go_wp2)
          go_loopg [12] k3 (fun kq v12 w' => ∃ (x10_4 : List Int) (x11_4 : List Int) (x12_4 : Int), v12 = .int .i64 x12_4 ∧ Aside0 (worldmintref03_Split.l2 kq x10_4 x11_4 x12_4 = some (r1, r2)) ∧ Aside0 (kq ≤ k3) ∧ Aside0 (Kd.R (Kd.int .i64) 3 w' w.heap.size (fun k_ => some k_ ≠ (u11 : Value).ownBlock) u10 x10_4) ∧ Aside0 (Kd.R (Kd.int .i64) 3 w' w.heap.size (fun k_ => some k_ ≠ (u10 : Value).ownBlock) u11 x11_4) ∧ Aside0 (Below w.heap.size w w'))
          case atStart => exact ⟨(x10_3), (x11_3), (x12_3), eqs, H', ⟨Nat.le_refl _⟩, ⟨kr HO_10.out⟩, ⟨kr HO_11.out⟩, ⟨bw⟩⟩
          case round =>
           clear H'
           try clear c1
           try clear c3
           try clear c3b0
           try clear c4
           try clear c4b0
           try clear c6
           try clear c7
           try clear c7b0
           try clear c10
           try clear c11
           try clear c11b0
           try clear c11b1
           try clear c12
           try clear c13
           try clear c13b0
           try clear c14
           try clear c14b0
           try clear c16
           try clear c17
           try clear hx186_0
           try clear hx188_0
           try clear hx190_0
           try clear p186
           try clear p188
           try clear p190
           try clear q186
           try clear q188
           try clear q190
           obtain ⟨x10_4, x11_4, x12_4, rfl, HA, HK4, HO_10, HO_11, HB⟩ := hrel
           cases gk with
           | zero => exact absurd HA.out (by simp [worldmintref03_Split.l2])
           | succ k4 =>
            have H := HA.out
            clear HA
            simp only [worldmintref03_Split.l2] at H
            by_cases c20 : x12_4 > 0
            ·rw [if_pos c20] at H
             have c20b0 : decide (0 < x12_4) = true := decide_eq_true c20
             clear c20
             have H' := Aside0.mk H
             clear H
             go_wp2
             repeat (go_quiet (fail); try go_wp2)
             go_loopg [17, 18] k4 (fun kq v17 v18 w' => ∃ (x17_5 : Int) (x18_5 : Int), v17 = .int .i64 x17_5 ∧ v18 = .int .i64 x18_5 ∧ Aside0 (worldmintref03_Split.l3 kq x10_4 x11_4 x12_4 x17_5 x18_5 = some (r1, r2)) ∧ Aside0 (kq ≤ k4) ∧ Aside0 (Kd.R (Kd.int .i64) 3 w' w.heap.size (fun k_ => some k_ ≠ (u11 : Value).ownBlock) u10 x10_4) ∧ Aside0 (Kd.R (Kd.int .i64) 3 w' w.heap.size (fun k_ => some k_ ≠ (u10 : Value).ownBlock) u11 x11_4) ∧ Aside0 (Below w.heap.size w w'))
             case atStart => exact ⟨(0), (1), eqs, eqs, H', ⟨Nat.le_refl _⟩, ⟨kr HO_10.out⟩, ⟨kr HO_11.out⟩, ⟨bw⟩⟩
             case round =>
              clear H'
              try clear c1
              try clear c3
              try clear c3b0
              try clear c4
              try clear c4b0
              try clear c6
              try clear c7
              try clear c7b0
              try clear c10
              try clear c11
              try clear c11b0
              try clear c11b1
              try clear c12
              try clear c13
              try clear c13b0
              try clear c14
              try clear c14b0
              try clear c16
              try clear c17
              try clear c20
              try clear c20b0
              try clear hx186_0
              try clear hx188_0
              try clear hx190_0
              try clear p186
              try clear p188
              try clear p190
              try clear q186
              try clear q188
              try clear q190
              obtain ⟨x17_5, x18_5, rfl, rfl, HA, HK5, HO_10, HO_11, HB⟩ := hrel
              cases gk with
              | zero => exact absurd HA.out (by simp [worldmintref03_Split.l3])
              | succ k5 =>
               have H := HA.out
               clear HA
               simp only [worldmintref03_Split.l3] at H
               by_cases c21 : x18_5 < (x11_4.length : Int)
               ·rw [if_pos c21] at H
                have c21b0 : decide (x18_5 < (x11_4.length : Int)) = true := decide_eq_true c21
                clear c21
                by_cases c22 : 0 ≤ x18_5
                ·rw [if_pos c22] at H
                 have c22b0 : decide (0 ≤ x18_5) = true := decide_eq_true c22
                 clear c22
                 by_cases c23 : 0 ≤ x17_5
                 ·rw [if_pos c23] at H
                  have c23b0 : decide (0 ≤ x17_5) = true := decide_eq_true c23
                  clear c23
                  by_cases c24 : x17_5 < (x11_4.length : Int)
                  ·rw [if_pos c24] at H
                   have c24b0 : decide (x17_5 < (x11_4.length : Int)) = true := decide_eq_true c24
                   clear c24
                   by_cases c25 : (rd x11_4 x18_5) > (rd x11_4 x17_5)
                   ·rw [if_pos c25] at H
                    have c25b0 : decide ((rd x11_4 x17_5) < (rd x11_4 x18_5)) = true := decide_eq_true c25
                    clear c25
                    have H' := Aside0.mk H
                    clear H
                    obtain ⟨Ao26, co26, eo26⟩ := Kd.R_slice HO_11.out
                    subst eo26
                    have p203 : 0 ≤ (x18_5 : Int) := oda
                    have q203 : x18_5 < (x11_4.length : Int) := oda
                    obtain ⟨ad203, e203, hx203_0⟩ := Kd.at_int (Kd.R_reads' HO_11.out).2.2 x18_5 p203 q203
                    cases e203
                    replace p203 := eq_true p203
                    replace q203 := eq_true q203
                    have p204 : 0 ≤ (x17_5 : Int) := oda
                    have q204 : x17_5 < (x11_4.length : Int) := oda
                    obtain ⟨ad204, e204, hx204_0⟩ := Kd.at_int (Kd.R_reads' HO_11.out).2.2 x17_5 p204 q204
                    obtain rfl : ad203 = ad204 := (by injection e204)
                    replace p204 := eq_true p204
                    replace q204 := eq_true q204
                    go_wp2
                    repeat (go_quiet (fail); try go_wp2)
                    go_roundg k5
                    case measure => have := HK1.out; have := HJ8.out; have := HK3.out; have := HK4.out; have := HK5.out; omega
                    case rel => exact ⟨(x18_5), (wrap64 (x18_5 + 1)), eqs, eqs, H', ⟨by have := HK1.out; have := HJ8.out; have := HK3.out; have := HK4.out; have := HK5.out; omega⟩, ⟨kr HO_10.out⟩, ⟨kr HO_11.out⟩, ⟨bw⟩⟩
                   ·rw [if_neg c25] at H
                    have c25b0 : decide ((rd x11_4 x17_5) < (rd x11_4 x18_5)) = false := decide_eq_false c25
                    clear c25
                    have H' := Aside0.mk H
                    clear H
                    obtain ⟨Ao27, co27, eo27⟩ := Kd.R_slice HO_11.out
                    subst eo27
                    have p203 : 0 ≤ (x18_5 : Int) := oda
                    have q203 : x18_5 < (x11_4.length : Int) := oda
                    obtain ⟨ad203, e203, hx203_0⟩ := Kd.at_int (Kd.R_reads' HO_11.out).2.2 x18_5 p203 q203
                    cases e203
                    replace p203 := eq_true p203
                    replace q203 := eq_true q203
                    have p204 : 0 ≤ (x17_5 : Int) := oda
                    have q204 : x17_5 < (x11_4.length : Int) := oda
                    obtain ⟨ad204, e204, hx204_0⟩ := Kd.at_int (Kd.R_reads' HO_11.out).2.2 x17_5 p204 q204
                    obtain rfl : ad203 = ad204 := (by injection e204)
                    replace p204 := eq_true p204
                    replace q204 := eq_true q204
                    go_wp2
                    repeat (go_quiet (fail); try go_wp2)
                    go_roundg k5
                    case measure => have := HK1.out; have := HJ8.out; have := HK3.out; have := HK4.out; have := HK5.out; omega
                    case rel => exact ⟨(x17_5), (wrap64 (x18_5 + 1)), eqs, eqs, H', ⟨by have := HK1.out; have := HJ8.out; have := HK3.out; have := HK4.out; have := HK5.out; omega⟩, ⟨kr HO_10.out⟩, ⟨kr HO_11.out⟩, ⟨bw⟩⟩
                  ·rw [if_neg c24] at H
                   exact absurd H (by simp)
                 ·rw [if_neg c23] at H
                  exact absurd H (by simp)
                ·rw [if_neg c22] at H
                 exact absurd H (by simp)
               ·rw [if_neg c21] at H
                have c21b0 : decide (x18_5 < (x11_4.length : Int)) = false := decide_eq_false c21
                clear c21
                by_cases c28 : 0 ≤ x17_5
                ·rw [if_pos c28] at H
                 have c28b0 : decide (0 ≤ x17_5) = true := decide_eq_true c28
                 clear c28
                 by_cases c29 : x17_5 < (x10_4.length : Int)
                 ·rw [if_pos c29] at H
                  have c29b0 : decide (x17_5 < (x10_4.length : Int)) = true := decide_eq_true c29
                  clear c29
                  obtain ⟨y201, hy201⟩ : ∃ y_ : List Int, y_ = (x10_4.set (x17_5 : Int).toNat (wrap64 ((rd x10_4 x17_5) + 1))) := ⟨_, rfl⟩
                  replace H : (if x17_5 < (x11_4.length : Int) then (worldmintref03_Split.l2 k5 y201 (x11_4.set (x17_5 : Int).toNat (-1)) (wrap64 (x12_4 - 1))) else (none)) = some (r1, r2) := by first | (rw [hy201]; with_reducible exact H) | (have H2_ := (Option.bind_some _ _).symm.trans H; rw [hy201]; with_reducible exact H2_) | (have H2_ := (Option.bind_some _ _).symm.trans H; with_reducible exact H2_) | with_reducible exact H | (rw [hy201]; exact H) | exact H
                  have Ny201 := Aside0.mk hy201
                  clear hy201
                  by_cases c31 : x17_5 < (x11_4.length : Int)
                  ·rw [if_pos c31] at H
                   have c31b0 : decide (x17_5 < (x11_4.length : Int)) = true := decide_eq_true c31
                   clear c31
                   obtain ⟨y202, hy202⟩ : ∃ y_ : List Int, y_ = (x11_4.set (x17_5 : Int).toNat (-1)) := ⟨_, rfl⟩
                   replace H : (worldmintref03_Split.l2 k5 y201 y202 (wrap64 (x12_4 - 1))) = some (r1, r2) := by first | (rw [hy202]; with_reducible exact H) | (have H2_ := (Option.bind_some _ _).symm.trans H; rw [hy202]; with_reducible exact H2_) | (have H2_ := (Option.bind_some _ _).symm.trans H; with_reducible exact H2_) | with_reducible exact H | (rw [hy202]; exact H) | exact H
                   have Ny202 := Aside0.mk hy202
                   clear hy202
                   have H' := Aside0.mk H
                   clear H
                   obtain ⟨Ao33, co33, eo33⟩ := Kd.R_slice HO_11.out
                   subst eo33
                   obtain ⟨Ao34, co34, eo34⟩ := Kd.R_slice HO_10.out
                   subst eo34
                   have p200 : 0 ≤ (x17_5 : Int) := oda
                   have q200 : x17_5 < (x10_4.length : Int) := oda
                   obtain ⟨ad200, e200, hx200_0⟩ := Kd.at_int (Kd.R_reads' HO_10.out).2.2 x17_5 p200 q200
                   cases e200
                   replace p200 := eq_true p200
                   replace q200 := eq_true q200
                   have p30 : 0 ≤ (x17_5 : Int) := oda
                   have q30 : (x17_5 : Int) < ((x10_4.length : Int) : Int) := oda
                   obtain ⟨go30, co30, eo30, gb30, gl30, cl30, HG30⟩ := Kd.R_form HO_10.out (by omega)
                   (first | cases eo30 | (injection eo30 with ea_ en_ ec_; (first | subst ea_ | (injection ea_ with ea_; subst ea_)); subst ec_; clear en_))
                   have GB30 := Aside0.mk gb30
                   have GG30 := Aside0.mk HG30
                   clear gb30 gl30 HG30
                   (first | simp only [add_plain] at hx200_0 | skip)
                   obtain ⟨hx30_0, hf30_0⟩ := Kd.R_celln 0 HO_10.out (x17_5 : Int) p30 q30
                   replace p30 := eq_true p30
                   replace q30 := eq_true q30
                   have HP35 := Kd.R_putg HO_10.out (x17_5 : Int) (wrap64 ((rd x10_4 x17_5) + 1))
                   go_wp2_with (first | ((with_reducible refine gate_store (t := 3) (p := 106) rfl ?_); (try (rw [drewN_self wr]; generalize hq_ : World.drewN wr _ = wr; have n0_ := Aside0.mk (Kd.R_at hq_ HO_10.out); have n1_ := Aside0.mk (Kd.R_at hq_ HO_11.out); have n2_ := Aside0.mk (below_at hq_ HB.out); clear hq_ HO_10 HO_11 HB; have HO_10 := n0_; have HO_11 := n1_; have HB := n2_; clear n0_ n1_ n2_; (try (have HP35 := Kd.R_putg HO_10.out (x17_5 : Int) (wrap64 ((rd x10_4 x17_5) + 1)))))); refine store_event (t := 3) (p := 106) (v := ?vo_w36) (w1 := (wr.setCell ⟨go30, (x17_5 : Int).toNat, none⟩ (.int .i64 (wrap64 ((rd x10_4 x17_5) + 1))))) ?hg ?ho ?hn ?hr ?_; (case ho => rfl); (case hg => rfl); (case hn => rfl); (case hr => first | (go_simp; done) | (go_simp; rfl)); intro w36 hw; have hg : wr.grownBy w36 (some go30) := (by rw [hw]; exact HP35.2); have hp_ : Kd.R (Kd.int .i64) 3 w36 w.heap.size (fun k_ => some k_ ≠ (.slice Ao33 x11_4.length co33 : Value).ownBlock) (.slice (some ⟨go30, 0, none⟩) x10_4.length co34) y201 := (by rw [hw, Ny201.out]; exact HP35.1); clear HP35; have n0_ := Aside0.mk (hp_); have n1_ := Aside0.mk (Kd.R_after (v := (.slice (some ⟨go30, 0, none⟩) x10_4.length co34)) (v1 := (.slice (some ⟨go30, 0, none⟩) x10_4.length co34)) (ok := (fun _ => True)) (by (with_reducible repeat (first | apply Kd.R_alloc | apply Kd.R_drewN | apply Kd.R_drew)); exact Kd.R_mono HO_11.out (fun _ hk => ⟨trivial, hk⟩)) hg (.inl rfl)); have n2_ := Aside0.mk ((by rw [hw]; exact below_set (HB.out) GB30.out : Below w.heap.size w w36)); clear HO_10; clear HO_11; clear HB; have HO_10 := n0_; have HO_11 := n1_; have HB := n2_; clear n0_ n1_ n2_; clear hg hw hp_; have p32 : 0 ≤ (x17_5 : Int) := oda; have q32 : (x17_5 : Int) < ((x11_4.length : Int) : Int) := oda; obtain ⟨go32, co32, eo32, gb32, gl32, cl32, HG32⟩ := Kd.R_form HO_11.out (by omega); (first | cases eo32 | (injection eo32 with ea_ en_ ec_; (first | subst ea_ | (injection ea_ with ea_; subst ea_)); subst ec_; clear en_)); have GB32 := Aside0.mk gb32; have GG32 := Aside0.mk HG32; clear gb32 gl32 HG32; obtain ⟨hx32_0, hf32_0⟩ := Kd.R_celln 0 HO_11.out (x17_5 : Int) p32 q32; replace p32 := eq_true p32; replace q32 := eq_true q32; have n_ := Aside0.mk (Kd.R_mono (ok' := (fun k_ => some k_ ≠ (.slice (some ⟨go30, 0, none⟩) x10_4.length co34 : Value).ownBlock)) HO_11.out (fun k_ hk => hk.2)); clear HO_11; have HO_11 := n_; clear n_; obtain ⟨hy37_, hz37_⟩ := Kd.R_celln 0 HO_11.out (x17_5 : Int) (oda) (oda); have HP37 := Kd.R_putg HO_11.out (x17_5 : Int) (-1)) | ((with_reducible refine gate_store (t := 3) (p := 109) rfl ?_); (try (rw [drewN_self w36]; generalize hq_ : World.drewN w36 _ = w36; have n0_ := Aside0.mk (Kd.R_at hq_ HO_10.out); have n1_ := Aside0.mk (Kd.R_at hq_ HO_11.out); have n2_ := Aside0.mk (below_at hq_ HB.out); clear hq_ HO_10 HO_11 HB; have HO_10 := n0_; have HO_11 := n1_; have HB := n2_; clear n0_ n1_ n2_; (try (have n_ := Aside0.mk (Kd.R_mono (ok' := (fun k_ => some k_ ≠ (.slice (some ⟨go30, 0, none⟩) x10_4.length co34 : Value).ownBlock)) HO_11.out (fun k_ hk => hk.2)); clear HO_11; have HO_11 := n_; clear n_)); (try (obtain ⟨hy37_, hz37_⟩ := Kd.R_celln 0 HO_11.out (x17_5 : Int) (oda) (oda))); (try (have HP37 := Kd.R_putg HO_11.out (x17_5 : Int) (-1))))); refine store_event (t := 3) (p := 109) (v := ?vo_w38) (w1 := (w36.setCell ⟨go32, (x17_5 : Int).toNat, none⟩ (.int .i64 (-1)))) ?hg ?ho ?hn ?hr ?_; (case ho => rfl); (case hg => rfl); (case hn => rfl); (case hr => first | (go_simp; done) | (go_simp; rfl)); intro w38 hw; have hg : w36.grownBy w38 (some go32) := (by rw [hw]; exact HP37.2); have hp_ : Kd.R (Kd.int .i64) 3 w38 w.heap.size (fun k_ => some k_ ≠ (.slice (some ⟨go30, 0, none⟩) x10_4.length co34 : Value).ownBlock) (.slice (some ⟨go32, 0, none⟩) x11_4.length co33) y202 := (by rw [hw, Ny202.out]; exact HP37.1); clear HP37; have n0_ := Aside0.mk (Kd.R_after (v := (.slice (some ⟨go32, 0, none⟩) x11_4.length co33)) (v1 := (.slice (some ⟨go32, 0, none⟩) x11_4.length co33)) (ok := (fun _ => True)) (by (with_reducible repeat (first | apply Kd.R_alloc | apply Kd.R_drewN | apply Kd.R_drew)); exact Kd.R_mono HO_10.out (fun _ hk => ⟨trivial, hk⟩)) hg (.inl rfl)); have n1_ := Aside0.mk (hp_); have n2_ := Aside0.mk ((by rw [hw]; exact below_set (HB.out) GB32.out : Below w.heap.size w w38)); clear HO_10; clear HO_11; clear HB; have HO_10 := n0_; have HO_11 := n1_; have HB := n2_; clear n0_ n1_ n2_; clear hg hw hp_))
                   repeat (go_quiet (fail); try go_wp2_with (first | ((with_reducible refine gate_store (t := 3) (p := 109) rfl ?_); (try (rw [drewN_self w36]; generalize hq_ : World.drewN w36 _ = w36; have n0_ := Aside0.mk (Kd.R_at hq_ HO_10.out); have n1_ := Aside0.mk (Kd.R_at hq_ HO_11.out); have n2_ := Aside0.mk (below_at hq_ HB.out); clear hq_ HO_10 HO_11 HB; have HO_10 := n0_; have HO_11 := n1_; have HB := n2_; clear n0_ n1_ n2_; (try (have n_ := Aside0.mk (Kd.R_mono (ok' := (fun k_ => some k_ ≠ (.slice (some ⟨go30, 0, none⟩) x10_4.length co34 : Value).ownBlock)) HO_11.out (fun k_ hk => hk.2)); clear HO_11; have HO_11 := n_; clear n_)); (try (obtain ⟨hy37_, hz37_⟩ := Kd.R_celln 0 HO_11.out (x17_5 : Int) (oda) (oda))); (try (have HP37 := Kd.R_putg HO_11.out (x17_5 : Int) (-1))))); refine store_event (t := 3) (p := 109) (v := ?vo_w38) (w1 := (w36.setCell ⟨go32, (x17_5 : Int).toNat, none⟩ (.int .i64 (-1)))) ?hg ?ho ?hn ?hr ?_; (case ho => rfl); (case hg => rfl); (case hn => rfl); (case hr => first | (go_simp; done) | (go_simp; rfl)); intro w38 hw; have hg : w36.grownBy w38 (some go32) := (by rw [hw]; exact HP37.2); have hp_ : Kd.R (Kd.int .i64) 3 w38 w.heap.size (fun k_ => some k_ ≠ (.slice (some ⟨go30, 0, none⟩) x10_4.length co34 : Value).ownBlock) (.slice (some ⟨go32, 0, none⟩) x11_4.length co33) y202 := (by rw [hw, Ny202.out]; exact HP37.1); clear HP37; have n0_ := Aside0.mk (Kd.R_after (v := (.slice (some ⟨go32, 0, none⟩) x11_4.length co33)) (v1 := (.slice (some ⟨go32, 0, none⟩) x11_4.length co33)) (ok := (fun _ => True)) (by (with_reducible repeat (first | apply Kd.R_alloc | apply Kd.R_drewN | apply Kd.R_drew)); exact Kd.R_mono HO_10.out (fun _ hk => ⟨trivial, hk⟩)) hg (.inl rfl)); have n1_ := Aside0.mk (hp_); have n2_ := Aside0.mk ((by rw [hw]; exact below_set (HB.out) GB32.out : Below w.heap.size w w38)); clear HO_10; clear HO_11; clear HB; have HO_10 := n0_; have HO_11 := n1_; have HB := n2_; clear n0_ n1_ n2_; clear hg hw hp_)))
                   go_roundg k5
                   case measure => have := HK1.out; have := HJ8.out; have := HK3.out; have := HK4.out; have := HK5.out; omega
                   case rel => exact ⟨(y201), (y202), (wrap64 (x12_4 - 1)), eqs, H', ⟨by have := HK1.out; have := HJ8.out; have := HK3.out; have := HK4.out; have := HK5.out; omega⟩, ⟨by (with_reducible repeat (first | apply Kd.R_alloc | apply Kd.R_drewN | apply Kd.R_drew)); exact Kd.R_mono HO_10.out (fun _ hk => hk.2)⟩, ⟨kr HO_11.out⟩, ⟨bw⟩⟩
                  ·rw [if_neg c31] at H
                   exact absurd H (by simp)
                 ·rw [if_neg c29] at H
                  exact absurd H (by simp)
                ·rw [if_neg c28] at H
                 exact absurd H (by simp)
            ·rw [if_neg c20] at H
             have c20b0 : decide (0 < x12_4) = false := decide_eq_false c20
             clear c20
             simp only [Option.some.injEq, Prod.mk.injEq] at H
             obtain ⟨rfl, rfl⟩ := H
             go_wp2
             repeat (go_quiet (fail); try go_wp2)
             go_ret2
             exact ⟨_, by first | rfl | (simp [errW_none, errW_some] <;> rfl) | (simp [*, errW_none, errW_some] <;> rfl), by (with_reducible repeat (first | apply Kd.R_alloc | apply Kd.R_drewN | apply Kd.R_drew)); exact Kd.R_mono HO_10.out (fun _ hk => trivial), bw⟩
/-! ### worldmintref14_Counts -/
set_option maxHeartbeats 8000000 in
set_option maxRecDepth 100000 in
theorem worldmintref14_Counts.calls (k : Nat) (A0 : Option Addr) (c0 : Nat) (l0 : List (S39)) (a1 : Int) (a2 : Bool) (r : List Int) (w : World) (hr0 : Kd.C k39 w A0 l0.length l0) (hc0 : l0.length ≤ c0) (h : worldmintref14_Counts.f k l0 a1 a2 = some r) :
  Calls Try.prog 52 #[.slice A0 l0.length c0, .int .i64 a1, .bool a2] w fun e w' => ∃ v0_ : Value, e = .returned (v0_) ∧ Kd.R (Kd.int .i64) 3 w' w.heap.size (fun _ => True) v0_ r ∧ Below w.heap.size w w' := by
 have HR0 := Aside0.mk hr0
 have HC0 := Aside0.mk hc0
 clear hr0 hc0
 have HB := Aside0.mk (Below.refl w.heap.size w)
 have H : (worldmintref14_Counts.l0 k l0 a1 a2 ([] : List Int) ([] : List Int) a1 0) = some r := h
 clear h
 have H' := Aside0.mk H
 clear H
 go_enter Try.func52, Try.ntmps52
 go_wp2
 go_loopg [7, 8, 9, 10] k (fun kq v7 v8 v9 v10 w' => ∃ (x7_1 : List Int) (x8_1 : List Int) (x9_1 : Int) (x10_1 : Int), v9 = .int .i64 x9_1 ∧ v10 = .int .i64 x10_1 ∧ Aside0 (worldmintref14_Counts.l0 kq l0 a1 a2 x7_1 x8_1 x9_1 x10_1 = some r) ∧ Aside0 (kq ≤ k) ∧ Aside0 (Kd.R (Kd.int .i64) 3 w' w.heap.size (fun k_ => some k_ ≠ (v8 : Value).ownBlock) v7 x7_1) ∧ Aside0 (Kd.R (Kd.int .i64) 3 w' w.heap.size (fun k_ => some k_ ≠ (v7 : Value).ownBlock) v8 x8_1) ∧ Aside0 (Below w.heap.size w w'))
 case atStart => exact ⟨(([] : List Int)), (([] : List Int)), (a1), (0), eqs, eqs, H', ⟨Nat.le_refl _⟩, ⟨by first | exact Kd.R_nil _ _ _ _ _ | exact Kd.N_nil _ _ _ _ _ | exact Kd.V_nil _ _ _ _ _ | exact Kd.Q_nil _ _ _ _ _ | exact Kd.S_nil _ _ _ _ _⟩, ⟨by first | exact Kd.R_nil _ _ _ _ _ | exact Kd.N_nil _ _ _ _ _ | exact Kd.V_nil _ _ _ _ _ | exact Kd.Q_nil _ _ _ _ _ | exact Kd.S_nil _ _ _ _ _⟩, ⟨bw⟩⟩
 case round =>
  clear H'
  obtain ⟨x7_1, x8_1, x9_1, x10_1, rfl, rfl, HA, HK1, HO_7, HO_8, HB⟩ := hrel
  cases gk with
  | zero => exact absurd HA.out (by simp [worldmintref14_Counts.l0])
  | succ k1 =>
   have H := HA.out
   clear HA
   simp only [worldmintref14_Counts.l0] at H
   by_cases c4 : x10_1 < (l0.length : Int)
   ·rw [if_pos c4] at H
    have c4b0 : decide (x10_1 < (l0.length : Int)) = true := decide_eq_true c4
    clear c4
    by_cases c5 : 0 ≤ x10_1
    ·rw [if_pos c5] at H
     have c5b0 : decide (0 ≤ x10_1) = true := decide_eq_true c5
     clear c5
     by_cases c6 : x7_1.length < 17592186044416
     ·rw [if_pos c6] at H
      have LMc6 := Aside0.mk c6
      clear c6
      obtain ⟨y206, hy206⟩ : ∃ y_ : List Int, y_ = (x7_1 ++ [(rd_T39 l0 x10_1).f2]) := ⟨_, rfl⟩
      replace H : (if x8_1.length < 17592186044416 then (worldmintref14_Counts.l0 k1 l0 a1 a2 y206 (x8_1 ++ [mn x9_1 ((rd_T39 l0 x10_1).f2)]) (wrap64 (x9_1 - (mn x9_1 ((rd_T39 l0 x10_1).f2)))) (wrap64 (x10_1 + 1))) else (none)) = some r := by first | (rw [hy206]; with_reducible exact H) | (have H2_ := (Option.bind_some _ _).symm.trans H; rw [hy206]; with_reducible exact H2_) | (have H2_ := (Option.bind_some _ _).symm.trans H; with_reducible exact H2_) | with_reducible exact H | (rw [hy206]; exact H) | exact H
      have Ny206 := Aside0.mk hy206
      clear hy206
      obtain ⟨ji7, hji7⟩ : ∃ j_ : Int, (mn x9_1 ((rd_T39 l0 x10_1).f2)) = j_ := ⟨_, rfl⟩
      replace H : (if x8_1.length < 17592186044416 then (worldmintref14_Counts.l0 k1 l0 a1 a2 y206 (x8_1 ++ [ji7]) (wrap64 (x9_1 - (ji7))) (wrap64 (x10_1 + 1))) else (none)) = some r := by first | (rw [hji7] at H; exact H) | (simp only [hji7] at H ⊢; exact H)
      have hji7_ : (if ((rd_T39 l0 x10_1).f2) < x9_1 then ((rd_T39 l0 x10_1).f2) else x9_1) = ji7 := hji7
      by_cases c8 : x8_1.length < 17592186044416
      ·rw [if_pos c8] at H
       have LMc8 := Aside0.mk c8
       clear c8
       obtain ⟨y210, hy210⟩ : ∃ y_ : List Int, y_ = (x8_1 ++ [ji7]) := ⟨_, rfl⟩
       replace H : (worldmintref14_Counts.l0 k1 l0 a1 a2 y206 y210 (wrap64 (x9_1 - (ji7))) (wrap64 (x10_1 + 1))) = some r := by first | (rw [hy210]; with_reducible exact H) | (have H2_ := (Option.bind_some _ _).symm.trans H; rw [hy210]; with_reducible exact H2_) | (have H2_ := (Option.bind_some _ _).symm.trans H; with_reducible exact H2_) | with_reducible exact H | (rw [hy210]; exact H) | exact H
       have Ny210 := Aside0.mk hy210
       clear hy210
       have H' := Aside0.mk H
       clear H
       have p205 : 0 ≤ (x10_1 : Int) := oda
       have q205 : x10_1 < (l0.length : Int) := oda
       obtain ⟨ad205, e205, hx205_0, hx205_1, hx205_2⟩ := at_T39 HR0.out x10_1 p205 q205
       cases e205
       replace hx205_0 := (HB.out.cell (World.block_lt_of_cell? w _ hx205_0)).trans hx205_0
       replace hx205_1 := (HB.out.cell (World.block_lt_of_cell? w _ hx205_1)).trans hx205_1
       replace hx205_2 := (HB.out.cell (World.block_lt_of_cell? w _ hx205_2)).trans hx205_2
       replace p205 := eq_true p205
       replace q205 := eq_true q205
       go_wp2_with (first | ((with_reducible refine gate_builtin (b := .append) (xs := #[.tmp 21, .tmp 27]) rfl ?_); at_builtin; refine Kd.R_append (Kd.int .i64) (w0 := w) w.heap.size rfl (.tmp 21) (.tmp 27) 23 3 (.int .i64 0) 8 rfl Try.underlying23 info3 rfl (by decide) (by omega) u7 x7_1 ((rd_T39 l0 x10_1).f2) [.int .i64 ((rd_T39 l0 x10_1).f2)] (fun k_ => some k_ ≠ (u8 : Value).ownBlock) (fun _ => False) rfl rfl ?aP (fun _ hk => hk.elim) ?aF ?aO ?aB ?aS ?aL ?_; (case aP => exact rfl); (case aB => exact (bw)); (case aF => exact (fun k_ hk => Kd.fresh' (Kd.R_lt (kr HO_8.out)) k_ hk)); (case aO => exact (kr HO_7.out)); (case aS => exact (below_size (bw))); (case aL => have := LMc6.out; omega); intro v207 w9 ho hb hg hat; rw [← Ny206.out] at ho; have n0_ := Aside0.mk (Kd.R_after (ok := (fun _ => True)) (by (with_reducible repeat (first | apply Kd.R_alloc | apply Kd.R_drewN | apply Kd.R_drew)); exact Kd.R_mono HO_8.out (fun _ hk => ⟨trivial, hk⟩)) hg hat); have n1_ := Aside0.mk (hb); have n2_ := Aside0.mk (ho); clear HO_8; clear HB; clear HO_7; have HO_8 := n0_; have HB := n1_; have HO208 := n2_; clear n0_ n1_ n2_; clear ho hb hg hat; have p209 : 0 ≤ (x10_1 : Int) := oda; have q209 : x10_1 < (l0.length : Int) := oda; obtain ⟨ad209, e209, hx209_0, hx209_1, hx209_2⟩ := at_T39 HR0.out x10_1 p209 q209; obtain rfl : ad205 = ad209 := (by injection e209); replace hx209_0 := (HB.out.cell (World.block_lt_of_cell? w _ hx209_0)).trans hx209_0; replace hx209_1 := (HB.out.cell (World.block_lt_of_cell? w _ hx209_1)).trans hx209_1; replace hx209_2 := (HB.out.cell (World.block_lt_of_cell? w _ hx209_2)).trans hx209_2; replace p209 := eq_true p209; replace q209 := eq_true q209) | ((with_reducible refine gate_builtin (b := .append) (xs := #[.tmp 36, .tmp 38]) rfl ?_); at_builtin; refine Kd.R_append (Kd.int .i64) (w0 := w) w.heap.size rfl (.tmp 36) (.tmp 38) 23 3 (.int .i64 0) 8 rfl Try.underlying23 info3 rfl (by decide) (by omega) u8 x8_1 ji7 [.int .i64 ji7] (fun k_ => some k_ ≠ (v207 : Value).ownBlock) (fun _ => False) rfl rfl ?aP (fun _ hk => hk.elim) ?aF ?aO ?aB ?aS ?aL ?_; (case aP => exact rfl); (case aB => exact (bw)); (case aF => exact (fun k_ hk => Kd.fresh' (Kd.R_lt (kr HO208.out)) k_ hk)); (case aO => exact (by (with_reducible repeat (first | apply Kd.R_alloc | apply Kd.R_drewN | apply Kd.R_drew)); exact Kd.R_mono HO_8.out (fun _ hk => hk.2))); (case aS => exact (below_size (bw))); (case aL => have := LMc8.out; omega); intro v211 w10 ho hb hg hat; rw [← Ny210.out] at ho; have n0_ := Aside0.mk (Kd.R_after (ok := (fun _ => True)) (by (with_reducible repeat (first | apply Kd.R_alloc | apply Kd.R_drewN | apply Kd.R_drew)); exact Kd.R_mono HO208.out (fun _ hk => ⟨trivial, hk⟩)) hg hat); have n1_ := Aside0.mk (hb); have n2_ := Aside0.mk (ho); clear HO208; clear HB; clear HO_8; have HO208 := n0_; have HB := n1_; have HO212 := n2_; clear n0_ n1_ n2_; clear ho hb hg hat))
       go_roundg k1
       case measure => have := HK1.out; omega
       case rel => exact ⟨(y206), (y210), (wrap64 (x9_1 - (ji7))), (wrap64 (x10_1 + 1)), (by first | rfl | (simp only [i64_w]; done) | (simp; done) | (simp only [← hji7] <;> (first | rfl | (simp only [i64_w]; done) | simp)) | (simp [*]; done)), eqs, H', ⟨by have := HK1.out; omega⟩, ⟨by (with_reducible repeat (first | apply Kd.R_alloc | apply Kd.R_drewN | apply Kd.R_drew)); exact Kd.R_mono HO208.out (fun _ hk => hk.2)⟩, ⟨kr HO212.out⟩, ⟨bw⟩⟩
      ·rw [if_neg c8] at H
       exact absurd H (by simp)
     ·rw [if_neg c6] at H
      exact absurd H (by simp)
    ·rw [if_neg c5] at H
     exact absurd H (by simp)
   ·rw [if_neg c4] at H
    have c4b0 : decide (x10_1 < (l0.length : Int)) = false := decide_eq_false c4
    clear c4
    by_cases c11 : a2 = true
    ·subst c11
     have H1 : (if a1 > 0 then ((worldmintref03_Split.f k1 a1 x7_1).bind fun bt213 => (some bt213.1)) else (some x8_1)) = some r := by rw [if_pos rfl] at H; exact H
     clear H
     have H := H1
     clear H1
     by_cases c12 : a1 > 0
     ·rw [if_pos c12] at H
      have c12b0 : decide (0 < a1) = true := decide_eq_true c12
      clear c12
      replace H := Option.bind_eq_some_iff.mp H
      obtain ⟨⟨t213, t214⟩, A130, H⟩ := H
      replace H : (some t213) = some r := H
      have A13 := Aside0.mk A130
      clear A130
      obtain rfl := Option.some.inj H
      obtain ⟨Ao14, co14, eo14⟩ := Kd.R_slice HO_7.out
      subst eo14
      go_wp2_with (first | ((with_reducible refine gate_callee (f := 76) rfl ?_); refine goesL_ (some 51) rfl rfl Try.func76 (by kernel_rfl) rfl #[.int .i64 a1, .slice Ao14 x7_1.length co14] rfl (by (try simp only [List.map_toArray, List.map_cons, List.map_nil]); first | done | rfl | (simp only [List.length_drop, List.length_take]; rfl)) ?_; (with_reducible refine (worldmintref03_Split.calls k1 a1 _ _ x7_1 t213 t214 _ ?side1 ?side2 A13.out).mono ?_); (case side1 => repeat (first | exact (Kd.R_reads' HO_7.out).2.2 | (with_reducible refine Kd.C_alloc ?_ _) | (with_reducible refine Kd.C_drewN ?_ _) | (with_reducible refine Kd.C_drew ?_))); (case side2 => exact (Kd.R_reads' HO_7.out).2.1); rintro e w15 ⟨v215, rfl, ho0, hb⟩; refine ⟨_, rfl, ?_⟩; have n0_ := Aside0.mk (Kd.R_elder' (kr HO_7.out) (Kd.R_base ho0) hb); have n1_ := Aside0.mk (Kd.R_elder' (kr HO_8.out) (Kd.R_base ho0) hb); have n2_ := Aside0.mk (Kd.R_lower (Kd.R_new' (Kd.R_new' ho0 (Kd.R_lt (kr HO_7.out))) (Kd.R_lt (kr HO_8.out))) (below_size (bw))); have n3_ := Aside0.mk (below_step (bw) hb); clear HO_7; clear HO_8; clear HB; have HO_7 := n0_; have HO_8 := n1_; have HO216 := n2_; have HB := n3_; clear n0_ n1_ n2_ n3_; (try clear hb); (try clear hb2); (try clear hk); (try clear hi); (try clear ho0)))
      go_ret
      exact ⟨_, by first | rfl | (simp [errW_none, errW_some] <;> rfl) | (simp [*, errW_none, errW_some] <;> rfl), by (with_reducible repeat (first | apply Kd.R_alloc | apply Kd.R_drewN | apply Kd.R_drew)); exact Kd.R_mono HO216.out (fun _ hk => trivial), bw⟩
     ·rw [if_neg c12] at H
      have c12b0 : decide (0 < a1) = false := decide_eq_false c12
      clear c12
      obtain rfl := Option.some.inj H
      go_wp2
      go_ret
      exact ⟨_, by first | rfl | (simp [errW_none, errW_some] <;> rfl) | (simp [*, errW_none, errW_some] <;> rfl), by (with_reducible repeat (first | apply Kd.R_alloc | apply Kd.R_drewN | apply Kd.R_drew)); exact Kd.R_mono HO_8.out (fun _ hk => trivial), bw⟩
    ·replace c11 := Bool.eq_false_iff.mpr c11
     subst c11
     have H1 : (some x8_1) = some r := by rw [if_neg (show ¬ (false = true) by decide)] at H; exact H
     clear H
     have H := H1
     clear H1
     obtain rfl := Option.some.inj H
     go_wp2
     go_ret
     exact ⟨_, by first | rfl | (simp [errW_none, errW_some] <;> rfl) | (simp [*, errW_none, errW_some] <;> rfl), by (with_reducible repeat (first | apply Kd.R_alloc | apply Kd.R_drewN | apply Kd.R_drew)); exact Kd.R_mono HO_8.out (fun _ hk => trivial), bw⟩
end Go.Proofs.Ytcicjbgfahdejaa.P
