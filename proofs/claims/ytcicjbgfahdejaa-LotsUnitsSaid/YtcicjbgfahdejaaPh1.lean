-- Written by a program of this session (wip/tools), out of the translation. Not trusted: Lean checks it.
import Derived.Test.YtcicjbgfahdejaaPx1
import Derived.Test.YtcicjbgfahdejaaPD
namespace Go.Proofs.Ytcicjbgfahdejaa.P
open Go.RowKit Go.Proofs.YtcicjbgfahdejaaW.PrintWords Go.Proofs.YtcicjbgfahdejaaW.PrintLast Go.Proofs.YtcicjbgfahdejaaW.PrintMore
attribute [local go_sem] max2_int min2_int max_two min_two max_three min_three max_four min_four   -- for this text's walks alone
set_option linter.unusedVariables false
set_option linter.unusedSimpArgs false

/-! ### worldmintref14_Has -/
set_option maxHeartbeats 8000000 in
set_option maxRecDepth 100000 in
theorem worldmintref14_Has.calls (k : Nat) (A0 : Option Addr) (c0 : Nat) (l0 : List (S39)) (a1 : Int) (a2 : Int) (r : Bool) (w : World) (hr0 : Kd.C k39 w A0 l0.length l0) (hc0 : l0.length ≤ c0) (h : worldmintref14_Has.f k l0 a1 a2 = some r) :
  Calls Try.prog 41 #[.slice A0 l0.length c0, .int .i64 a1, .int .i64 a2] w fun e w' => e = .returned (.bool r) ∧ Drawn0 w w' := by
 have HR0 := Aside0.mk hr0
 have HC0 := Aside0.mk hc0
 clear hr0 hc0
 have H : (worldmintref14_Has.l0 k l0 a1 a2 0) = some r := h
 clear h
 have H' := Aside0.mk H
 clear H
 go_enter Try.func41, Try.ntmps41
 go_wp2
 repeat (go_quiet (fail); try go_wp2)
 go_loopg [7] k (fun kq v7 w' => ∃ (x7_1 : Int), v7 = .int .i64 x7_1 ∧ Aside0 (worldmintref14_Has.l0 kq l0 a1 a2 x7_1 = some r) ∧ Aside0 (kq ≤ k) ∧ Drawn0 w w')
 case atStart => exact ⟨(0), eqs, H', ⟨Nat.le_refl _⟩, by repeat (first | exact Drawn0.refl _ | apply Drawn0.step)⟩
 case round =>
  clear H'
  obtain ⟨x7_1, rfl, HA, HK1, ⟨m1, rfl⟩⟩ := hrel
  cases gk with
  | zero => exact absurd HA.out (by simp [worldmintref14_Has.l0])
  | succ k1 =>
   have H := HA.out
   clear HA
   simp only [worldmintref14_Has.l0] at H
   by_cases c4 : x7_1 < (l0.length : Int)
   ·rw [if_pos c4] at H
    have c4b0 : decide (x7_1 < (l0.length : Int)) = true := decide_eq_true c4
    clear c4
    have HC5 := Aside0.mk H
    clear H
    go_upto_region 4 with (fail)
    repeat (go_quiet (fail); go_upto_region 4 with (fail))
    go_cut [44] (fun v44 wc => ∃ (kq : Nat) (x44_4 : Bool), v44 = .bool x44_4 ∧ Aside0 (worldmintref14_Has.j1 kq l0 a1 a2 x7_1 x44_4 = some r) ∧ Aside0 (kq ≤ k1) ∧ Drawn0 w wc)
    case first =>
     have H := HC5.out
     clear HC5
     by_cases c6 : 0 ≤ x7_1
     ·rw [if_pos c6] at H
      have c6b0 : decide (0 ≤ x7_1) = true := decide_eq_true c6
      clear c6
      (first | rw [c6b0] | (simp only [i64_w, i32_w]; rw [c6b0]) | skip)
      by_cases c7 : ((rd_T39 l0 x7_1).f0) = a1
      ·rw [if_pos c7] at H
       have c7b0 : (((rd_T39 l0 x7_1).f0) == a1) = true := beq_iff_eq.mpr c7
       have c7b1 : (((rd_T39 l0 x7_1).f0) != a1) = false := bne_eq_false_iff_eq.mpr c7
       clear c7
       by_cases c8 : ((rd_T39 l0 x7_1).f1) ≤ a2
       ·rw [if_pos c8] at H
        have c8b0 : decide (((rd_T39 l0 x7_1).f1) ≤ a2) = true := decide_eq_true c8
        clear c8
        have H' := Aside0.mk H
        clear H
        have p858 : 0 ≤ (x7_1 : Int) := oda
        have q858 : x7_1 < (l0.length : Int) := oda
        obtain ⟨ad858, e858, hx858_0, hx858_1, hx858_2⟩ := at_T39 HR0.out x7_1 p858 q858
        cases e858
        replace p858 := eq_true p858
        replace q858 := eq_true q858
        have p859 : 0 ≤ (x7_1 : Int) := oda
        have q859 : x7_1 < (l0.length : Int) := oda
        obtain ⟨ad859, e859, hx859_0, hx859_1, hx859_2⟩ := at_T39 HR0.out x7_1 p859 q859
        obtain rfl : ad858 = ad859 := (by injection e859)
        replace p859 := eq_true p859
        replace q859 := eq_true q859
        have p860 : 0 ≤ (x7_1 : Int) := oda
        have q860 : x7_1 < (l0.length : Int) := oda
        obtain ⟨ad860, e860, hx860_0, hx860_1, hx860_2⟩ := at_T39 HR0.out x7_1 p860 q860
        obtain rfl : ad858 = ad860 := (by injection e860)
        replace p860 := eq_true p860
        replace q860 := eq_true q860
        have p861 : 0 ≤ (x7_1 : Int) := oda
        have q861 : x7_1 < (l0.length : Int) := oda
        obtain ⟨ad861, e861, hx861_0, hx861_1, hx861_2⟩ := at_T39 HR0.out x7_1 p861 q861
        obtain rfl : ad858 = ad861 := (by injection e861)
        replace p861 := eq_true p861
        replace q861 := eq_true q861
        go_wp2
        repeat (go_quiet (fail); try go_wp2)
        go_meet
        case rel => exact ⟨_, (decide (a2 < (wrap64 (((rd_T39 l0 x7_1).f1) + ((rd_T39 l0 x7_1).f2))))), eqs, H', ⟨by have := HK1.out; first | omega | exact Nat.le_refl _⟩, by repeat (first | exact Drawn0.refl _ | apply Drawn0.step)⟩
       ·rw [if_neg c8] at H
        have c8b0 : decide (((rd_T39 l0 x7_1).f1) ≤ a2) = false := decide_eq_false c8
        clear c8
        have H' := Aside0.mk H
        clear H
        have p858 : 0 ≤ (x7_1 : Int) := oda
        have q858 : x7_1 < (l0.length : Int) := oda
        obtain ⟨ad858, e858, hx858_0, hx858_1, hx858_2⟩ := at_T39 HR0.out x7_1 p858 q858
        cases e858
        replace p858 := eq_true p858
        replace q858 := eq_true q858
        have p859 : 0 ≤ (x7_1 : Int) := oda
        have q859 : x7_1 < (l0.length : Int) := oda
        obtain ⟨ad859, e859, hx859_0, hx859_1, hx859_2⟩ := at_T39 HR0.out x7_1 p859 q859
        obtain rfl : ad858 = ad859 := (by injection e859)
        replace p859 := eq_true p859
        replace q859 := eq_true q859
        go_wp2
        repeat (go_quiet (fail); try go_wp2)
        go_meet
        case rel => exact ⟨_, (false), eqs, H', ⟨by have := HK1.out; first | omega | exact Nat.le_refl _⟩, by repeat (first | exact Drawn0.refl _ | apply Drawn0.step)⟩
      ·rw [if_neg c7] at H
       have c7b0 : (((rd_T39 l0 x7_1).f0) == a1) = false := beq_eq_false_iff_ne.mpr c7
       have c7b1 : (((rd_T39 l0 x7_1).f0) != a1) = true := bne_iff_ne.mpr c7
       have H' := Aside0.mk H
       clear H
       have p858 : 0 ≤ (x7_1 : Int) := oda
       have q858 : x7_1 < (l0.length : Int) := oda
       obtain ⟨ad858, e858, hx858_0, hx858_1, hx858_2⟩ := at_T39 HR0.out x7_1 p858 q858
       cases e858
       replace p858 := eq_true p858
       replace q858 := eq_true q858
       go_wp2
       repeat (go_quiet (fail); try go_wp2)
       go_meet
       case rel => exact ⟨_, (false), eqs, H', ⟨by have := HK1.out; first | omega | exact Nat.le_refl _⟩, by repeat (first | exact Drawn0.refl _ | apply Drawn0.step)⟩
     ·rw [if_neg c6] at H
      exact absurd H (by simp)
    case rest =>
     clear HC5
     try clear c4
     try clear c4b0
     try clear c6
     try clear c6b0
     try clear c7
     try clear c7b0
     try clear c7b1
     try clear c8
     try clear c8b0
     try clear hx858_0
     try clear hx858_1
     try clear hx858_2
     try clear hx859_0
     try clear hx859_1
     try clear hx859_2
     try clear hx860_0
     try clear hx860_1
     try clear hx860_2
     try clear hx861_0
     try clear hx861_1
     try clear hx861_2
     try clear p858
     try clear p859
     try clear p860
     try clear p861
     try clear q858
     try clear q859
     try clear q860
     try clear q861
     obtain ⟨kq, x44_4, rfl, HA, HJ4, ⟨mc4, rfl⟩⟩ := hcut
     cases kq with
     | zero => exact absurd HA.out (by simp [worldmintref14_Has.j1])
     | succ kj4 =>
      have H := HA.out
      clear HA
      simp only [worldmintref14_Has.j1] at H
      by_cases c9 : x44_4 = true
      ·subst c9
       have H1 : (some true) = some r := by rw [if_pos rfl] at H; exact H
       clear H
       have H := H1
       clear H1
       obtain rfl := Option.some.inj H
       go_wp2
       repeat (go_quiet (fail); try go_wp2)
       go_ret
       exact ⟨by first | rfl | (simp only [i64_w]; done) | (simp; done) | (simp [*]; done), by repeat (first | exact Drawn0.refl _ | apply Drawn0.step)⟩
      ·replace c9 := Bool.eq_false_iff.mpr c9
       subst c9
       have H1 : (worldmintref14_Has.l0 kj4 l0 a1 a2 (wrap64 (x7_1 + 1))) = some r := by rw [if_neg (show ¬ (false = true) by decide)] at H; exact H
       clear H
       have H := H1
       clear H1
       have H' := Aside0.mk H
       clear H
       go_wp2
       repeat (go_quiet (fail); try go_wp2)
       go_roundg kj4
       case measure => have := HK1.out; have := HJ4.out; omega
       case rel => exact ⟨(wrap64 (x7_1 + 1)), eqs, H', ⟨by have := HK1.out; have := HJ4.out; omega⟩, by repeat (first | exact Drawn0.refl _ | apply Drawn0.step)⟩
   ·rw [if_neg c4] at H
    have c4b0 : decide (x7_1 < (l0.length : Int)) = false := decide_eq_false c4
    clear c4
    obtain rfl := Option.some.inj H
    go_wp2
    repeat (go_quiet (fail); try go_wp2)
    go_ret
    exact ⟨by first | rfl | (simp only [i64_w]; done) | (simp; done) | (simp [*]; done), by repeat (first | exact Drawn0.refl _ | apply Drawn0.step)⟩
end Go.Proofs.Ytcicjbgfahdejaa.P
