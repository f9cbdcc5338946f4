-- Written by a program of this session (wip/tools), out of the translation. Not trusted: Lean checks it.
import Derived.Test.YtcicjbgfahdejaaPx1
import Derived.Test.YtcicjbgfahdejaaPD
import Derived.Test.YtcicjbgfahdejaaPc1
import Derived.Test.YtcicjbgfahdejaaPc2
namespace Go.Proofs.Ytcicjbgfahdejaa.P
open Go.RowKit Go.Proofs.YtcicjbgfahdejaaW.PrintWords Go.Proofs.YtcicjbgfahdejaaW.PrintLast Go.Proofs.YtcicjbgfahdejaaW.PrintMore
attribute [local go_sem] max2_int min2_int max_two min_two max_three min_three max_four min_four   -- for this text's walks alone
set_option linter.unusedVariables false
set_option linter.unusedSimpArgs false

attribute [local go_sem high] eqA39
/-! ### worldmintref14_Same -/
set_option maxHeartbeats 8000000 in
set_option maxRecDepth 100000 in
theorem worldmintref14_Same.calls (k : Nat) (A0 : Option Addr) (c0 : Nat) (l0 : List (S39)) (A1 : Option Addr) (c1 : Nat) (l1 : List (S39)) (r : Bool) (w : World) (hr0 : Kd.C k39 w A0 l0.length l0) (hc0 : l0.length ≤ c0) (hr1 : Kd.C k39 w A1 l1.length l1) (hc1 : l1.length ≤ c1) (h : worldmintref14_Same.f k l0 l1 = some r) :
  Calls Try.prog 18 #[.slice A0 l0.length c0, .slice A1 l1.length c1] w fun e w' => e = .returned (.bool r) ∧ Drawn0 w w' := by
 have hu39 := Try.underlying39
 have HR0 := Aside0.mk hr0
 have HC0 := Aside0.mk hc0
 clear hr0 hc0
 have HR1 := Aside0.mk hr1
 have HC1 := Aside0.mk hc1
 clear hr1 hc1
 have H : (if (l0.length : Int) = (l1.length : Int) then (worldmintref14_Same.l0 k l0 l1 0) else (some false)) = some r := h
 clear h
 by_cases c3 : (l0.length : Int) = (l1.length : Int)
 ·rw [if_pos c3] at H
  have c3b0 : ((l0.length : Int) == (l1.length : Int)) = true := beq_iff_eq.mpr c3
  have c3b1 : ((l0.length : Int) != (l1.length : Int)) = false := bne_eq_false_iff_eq.mpr c3
  have c3b2 : (l0.length == l1.length) = true := by first | simpa using c3 | (simp at c3 ⊢; omega)
  clear c3
  have H' := Aside0.mk H
  clear H
  go_enter Try.func18, Try.ntmps18
  go_wp2
  repeat (go_quiet (fail); try go_wp2)
  go_loopg [5] k (fun kq v5 w' => ∃ (x5_1 : Int), v5 = .int .i64 x5_1 ∧ Aside0 (worldmintref14_Same.l0 kq l0 l1 x5_1 = some r) ∧ Aside0 (kq ≤ k) ∧ Drawn0 w w')
  case atStart => exact ⟨(0), eqs, H', ⟨Nat.le_refl _⟩, by repeat (first | exact Drawn0.refl _ | apply Drawn0.step)⟩
  case round =>
   clear H'
   try clear c1
   try clear c3
   try clear c3b0
   try clear c3b1
   try clear c3b2
   obtain ⟨x5_1, rfl, HA, HK1, ⟨m1, rfl⟩⟩ := hrel
   cases gk with
   | zero => exact absurd HA.out (by simp [worldmintref14_Same.l0])
   | succ k1 =>
    have H := HA.out
    clear HA
    simp only [worldmintref14_Same.l0] at H
    by_cases c4 : x5_1 < (l0.length : Int)
    ·rw [if_pos c4] at H
     have c4b0 : decide (x5_1 < (l0.length : Int)) = true := decide_eq_true c4
     clear c4
     by_cases c5 : 0 ≤ x5_1
     ·rw [if_pos c5] at H
      have c5b0 : decide (0 ≤ x5_1) = true := decide_eq_true c5
      clear c5
      by_cases c6 : x5_1 < (l1.length : Int)
      ·rw [if_pos c6] at H
       have c6b0 : decide (x5_1 < (l1.length : Int)) = true := decide_eq_true c6
       clear c6
       by_cases c7 : (!(((rd_T39 l0 x5_1).f0) == ((rd_T39 l1 x5_1).f0)) || (!(((rd_T39 l0 x5_1).f1) == ((rd_T39 l1 x5_1).f1)) || (!(((rd_T39 l0 x5_1).f2) == ((rd_T39 l1 x5_1).f2))))) = true
       ·rw [if_pos c7] at H
        have c7b0 : (!(((rd_T39 l0 x5_1).f0) == ((rd_T39 l1 x5_1).f0)) || (!(((rd_T39 l0 x5_1).f1) == ((rd_T39 l1 x5_1).f1)) || (!(((rd_T39 l0 x5_1).f2) == ((rd_T39 l1 x5_1).f2))))) = true := c7
        clear c7
        obtain rfl := Option.some.inj H
        have p248 : 0 ≤ (x5_1 : Int) := oda
        have q248 : x5_1 < (l0.length : Int) := oda
        obtain ⟨ad248, e248, hx248_0, hx248_1, hx248_2⟩ := at_T39 HR0.out x5_1 p248 q248
        cases e248
        replace p248 := eq_true p248
        replace q248 := eq_true q248
        have p249 : 0 ≤ (x5_1 : Int) := oda
        have q249 : x5_1 < (l1.length : Int) := oda
        obtain ⟨ad249, e249, hx249_0, hx249_1, hx249_2⟩ := at_T39 HR1.out x5_1 p249 q249
        cases e249
        replace p249 := eq_true p249
        replace q249 := eq_true q249
        go_wp2
        repeat (go_quiet (fail); try go_wp2)
        go_ret
        exact ⟨by first | rfl | (simp only [i64_w]; done) | (simp; done) | (simp [*]; done), by repeat (first | exact Drawn0.refl _ | apply Drawn0.step)⟩
       ·rw [if_neg c7] at H
        have c7b0 : (!(((rd_T39 l0 x5_1).f0) == ((rd_T39 l1 x5_1).f0)) || (!(((rd_T39 l0 x5_1).f1) == ((rd_T39 l1 x5_1).f1)) || (!(((rd_T39 l0 x5_1).f2) == ((rd_T39 l1 x5_1).f2))))) = false := by simpa using c7
        clear c7
        have H' := Aside0.mk H
        clear H
        have p248 : 0 ≤ (x5_1 : Int) := oda
        have q248 : x5_1 < (l0.length : Int) := oda
        obtain ⟨ad248, e248, hx248_0, hx248_1, hx248_2⟩ := at_T39 HR0.out x5_1 p248 q248
        cases e248
        replace p248 := eq_true p248
        replace q248 := eq_true q248
        have p249 : 0 ≤ (x5_1 : Int) := oda
        have q249 : x5_1 < (l1.length : Int) := oda
        obtain ⟨ad249, e249, hx249_0, hx249_1, hx249_2⟩ := at_T39 HR1.out x5_1 p249 q249
        cases e249
        replace p249 := eq_true p249
        replace q249 := eq_true q249
        go_wp2
        repeat (go_quiet (fail); try go_wp2)
        go_roundg k1
        case measure => have := HK1.out; omega
        case rel => exact ⟨(wrap64 (x5_1 + 1)), eqs, H', ⟨by have := HK1.out; omega⟩, by repeat (first | exact Drawn0.refl _ | apply Drawn0.step)⟩
      ·rw [if_neg c6] at H
       exact absurd H (by simp)
     ·rw [if_neg c5] at H
      exact absurd H (by simp)
    ·rw [if_neg c4] at H
     have c4b0 : decide (x5_1 < (l0.length : Int)) = false := decide_eq_false c4
     clear c4
     obtain rfl := Option.some.inj H
     go_wp2
     repeat (go_quiet (fail); try go_wp2)
     go_ret
     exact ⟨by first | rfl | (simp only [i64_w]; done) | (simp; done) | (simp [*]; done), by repeat (first | exact Drawn0.refl _ | apply Drawn0.step)⟩
 ·rw [if_neg c3] at H
  have c3b0 : ((l0.length : Int) == (l1.length : Int)) = false := beq_eq_false_iff_ne.mpr c3
  have c3b1 : ((l0.length : Int) != (l1.length : Int)) = true := bne_iff_ne.mpr c3
  have c3b2 : (l0.length == l1.length) = false := by first | simpa using c3 | (simp at c3 ⊢; omega)
  obtain rfl := Option.some.inj H
  go_enter Try.func18, Try.ntmps18
  go_wp2
  repeat (go_quiet (fail); try go_wp2)
  go_ret
  exact ⟨by first | rfl | (simp only [i64_w]; done) | (simp; done) | (simp [*]; done), by repeat (first | exact Drawn0.refl _ | apply Drawn0.step)⟩
/-! ### lots_Slice -/
set_option maxHeartbeats 8000000 in
set_option maxRecDepth 100000 in
theorem lots_Slice.calls (k : Nat) (A0 : Option Addr) (c0 : Nat) (l0 : List (S39)) (a1 : Int) (a2 : Int) (r1 : List (S39)) (r2 : Int) (w : World) (hr0 : Kd.C k39 w A0 l0.length l0) (hc0 : l0.length ≤ c0) (h : lots_Slice.f k l0 a1 a2 = some (r1, r2)) :
  Calls Try.prog 20 #[.slice A0 l0.length c0, .int .i64 a1, .int .i64 a2] w fun e w' => ∃ v0_ : Value, e = .returned (.tuple #[v0_, .int .i64 r2]) ∧ Kd.R k39 39 w' w.heap.size (fun _ => True) v0_ r1 ∧ Below w.heap.size w w' := by
 have hu39 := Try.underlying39
 have HR0 := Aside0.mk hr0
 have HC0 := Aside0.mk hc0
 clear hr0 hc0
 have HB := Aside0.mk (Below.refl w.heap.size w)
 have H : ((lots_Valid.f l0).bind fun t250 => (if t250 = true then (if a1 < 0 then (lots_Slice.j0 k l0 a1 a2 true) else (lots_Slice.j0 k l0 a1 a2 (decide (a2 < 0)))) else (lots_Slice.j0 k l0 a1 a2 true))) = some (r1, r2) := h
 clear h
 have HC4 := Aside0.mk H
 clear H
 go_enter Try.func20, Try.ntmps20
 go_upto_region 1 with (fail)
 repeat (go_quiet (fail); go_upto_region 1 with (fail))
 go_cut [27] (fun v27 wc => ∃ (kq : Nat) (x27_3 : Bool), v27 = .bool x27_3 ∧ Aside0 (lots_Slice.j0 kq l0 a1 a2 x27_3 = some (r1, r2)) ∧ Aside0 (kq ≤ k) ∧ Aside0 (Below w.heap.size w wc))
 case first =>
  have H := HC4.out
  clear HC4
  replace H := Option.bind_eq_some_iff.mp H
  obtain ⟨t250, A50, H⟩ := H
  replace H : (if t250 = true then (if a1 < 0 then (lots_Slice.j0 k l0 a1 a2 true) else (lots_Slice.j0 k l0 a1 a2 (decide (a2 < 0)))) else (lots_Slice.j0 k l0 a1 a2 true)) = some (r1, r2) := H
  have A5 := Aside0.mk A50
  clear A50
  by_cases c6 : t250 = true
  ·subst c6
   have H1 : (if a1 < 0 then (lots_Slice.j0 k l0 a1 a2 true) else (lots_Slice.j0 k l0 a1 a2 (decide (a2 < 0)))) = some (r1, r2) := by rw [if_pos rfl] at H; exact H
   clear H
   have H := H1
   clear H1
   by_cases c7 : a1 < 0
   ·rw [if_pos c7] at H
    have c7b0 : decide (a1 < 0) = true := decide_eq_true c7
    clear c7
    (first | rw [c7b0] | (simp only [i64_w, i32_w]; rw [c7b0]) | skip)
    have H' := Aside0.mk H
    clear H
    go_wp2_with (first | (go_at_call 22; (with_reducible refine (lots_Valid.calls _ _ l0 true _ ?side1 ?side2 A5.out).mono ?_); (case side1 => repeat (first | exact (Kd.C_below HR0.out HB.out) | (with_reducible refine Kd.C_alloc ?_ _) | (with_reducible refine Kd.C_drewN ?_ _) | (with_reducible refine Kd.C_drew ?_))); (case side2 => exact HC0.out); rintro e w8 ⟨rfl, hb⟩; have n0_ := Aside0.mk (below_step (bw) hb); clear HB; have HB := n0_; clear n0_; (try clear hb); (try clear hb2); (try clear hk); (try clear hi)))
    repeat (go_quiet (first | (go_at_call 22; (with_reducible refine (lots_Valid.calls _ _ l0 true _ ?side1 ?side2 A5.out).mono ?_); (case side1 => repeat (first | exact (Kd.C_below HR0.out HB.out) | (with_reducible refine Kd.C_alloc ?_ _) | (with_reducible refine Kd.C_drewN ?_ _) | (with_reducible refine Kd.C_drew ?_))); (case side2 => exact HC0.out); rintro e w8 ⟨rfl, hb⟩; have n0_ := Aside0.mk (below_step (bw) hb); clear HB; have HB := n0_; clear n0_; (try clear hb); (try clear hb2); (try clear hk); (try clear hi))); try go_wp2_with (first | (go_at_call 22; (with_reducible refine (lots_Valid.calls _ _ l0 true _ ?side1 ?side2 A5.out).mono ?_); (case side1 => repeat (first | exact (Kd.C_below HR0.out HB.out) | (with_reducible refine Kd.C_alloc ?_ _) | (with_reducible refine Kd.C_drewN ?_ _) | (with_reducible refine Kd.C_drew ?_))); (case side2 => exact HC0.out); rintro e w8 ⟨rfl, hb⟩; have n0_ := Aside0.mk (below_step (bw) hb); clear HB; have HB := n0_; clear n0_; (try clear hb); (try clear hb2); (try clear hk); (try clear hi))))
    go_meet
    case rel => exact ⟨_, (true), eqs, H', ⟨by first | omega | exact Nat.le_refl _⟩, ⟨bw⟩⟩
   ·rw [if_neg c7] at H
    have c7b0 : decide (a1 < 0) = false := decide_eq_false c7
    clear c7
    (first | rw [c7b0] | (simp only [i64_w, i32_w]; rw [c7b0]) | skip)
    have H' := Aside0.mk H
    clear H
    go_wp2_with (first | (go_at_call 22; (with_reducible refine (lots_Valid.calls _ _ l0 true _ ?side1 ?side2 A5.out).mono ?_); (case side1 => repeat (first | exact (Kd.C_below HR0.out HB.out) | (with_reducible refine Kd.C_alloc ?_ _) | (with_reducible refine Kd.C_drewN ?_ _) | (with_reducible refine Kd.C_drew ?_))); (case side2 => exact HC0.out); rintro e w9 ⟨rfl, hb⟩; have n0_ := Aside0.mk (below_step (bw) hb); clear HB; have HB := n0_; clear n0_; (try clear hb); (try clear hb2); (try clear hk); (try clear hi)))
    repeat (go_quiet (first | (go_at_call 22; (with_reducible refine (lots_Valid.calls _ _ l0 true _ ?side1 ?side2 A5.out).mono ?_); (case side1 => repeat (first | exact (Kd.C_below HR0.out HB.out) | (with_reducible refine Kd.C_alloc ?_ _) | (with_reducible refine Kd.C_drewN ?_ _) | (with_reducible refine Kd.C_drew ?_))); (case side2 => exact HC0.out); rintro e w9 ⟨rfl, hb⟩; have n0_ := Aside0.mk (below_step (bw) hb); clear HB; have HB := n0_; clear n0_; (try clear hb); (try clear hb2); (try clear hk); (try clear hi))); try go_wp2_with (first | (go_at_call 22; (with_reducible refine (lots_Valid.calls _ _ l0 true _ ?side1 ?side2 A5.out).mono ?_); (case side1 => repeat (first | exact (Kd.C_below HR0.out HB.out) | (with_reducible refine Kd.C_alloc ?_ _) | (with_reducible refine Kd.C_drewN ?_ _) | (with_reducible refine Kd.C_drew ?_))); (case side2 => exact HC0.out); rintro e w9 ⟨rfl, hb⟩; have n0_ := Aside0.mk (below_step (bw) hb); clear HB; have HB := n0_; clear n0_; (try clear hb); (try clear hb2); (try clear hk); (try clear hi))))
    go_meet
    case rel => exact ⟨_, (decide (a2 < 0)), eqs, H', ⟨by first | omega | exact Nat.le_refl _⟩, ⟨bw⟩⟩
  ·replace c6 := Bool.eq_false_iff.mpr c6
   subst c6
   have H1 : (lots_Slice.j0 k l0 a1 a2 true) = some (r1, r2) := by rw [if_neg (show ¬ (false = true) by decide)] at H; exact H
   clear H
   have H := H1
   clear H1
   have H' := Aside0.mk H
   clear H
   go_wp2_with (first | (go_at_call 22; (with_reducible refine (lots_Valid.calls _ _ l0 false _ ?side1 ?side2 A5.out).mono ?_); (case side1 => repeat (first | exact (Kd.C_below HR0.out HB.out) | (with_reducible refine Kd.C_alloc ?_ _) | (with_reducible refine Kd.C_drewN ?_ _) | (with_reducible refine Kd.C_drew ?_))); (case side2 => exact HC0.out); rintro e w10 ⟨rfl, hb⟩; have n0_ := Aside0.mk (below_step (bw) hb); clear HB; have HB := n0_; clear n0_; (try clear hb); (try clear hb2); (try clear hk); (try clear hi)))
   repeat (go_quiet (first | (go_at_call 22; (with_reducible refine (lots_Valid.calls _ _ l0 false _ ?side1 ?side2 A5.out).mono ?_); (case side1 => repeat (first | exact (Kd.C_below HR0.out HB.out) | (with_reducible refine Kd.C_alloc ?_ _) | (with_reducible refine Kd.C_drewN ?_ _) | (with_reducible refine Kd.C_drew ?_))); (case side2 => exact HC0.out); rintro e w10 ⟨rfl, hb⟩; have n0_ := Aside0.mk (below_step (bw) hb); clear HB; have HB := n0_; clear n0_; (try clear hb); (try clear hb2); (try clear hk); (try clear hi))); try go_wp2_with (first | (go_at_call 22; (with_reducible refine (lots_Valid.calls _ _ l0 false _ ?side1 ?side2 A5.out).mono ?_); (case side1 => repeat (first | exact (Kd.C_below HR0.out HB.out) | (with_reducible refine Kd.C_alloc ?_ _) | (with_reducible refine Kd.C_drewN ?_ _) | (with_reducible refine Kd.C_drew ?_))); (case side2 => exact HC0.out); rintro e w10 ⟨rfl, hb⟩; have n0_ := Aside0.mk (below_step (bw) hb); clear HB; have HB := n0_; clear n0_; (try clear hb); (try clear hb2); (try clear hk); (try clear hi))))
   go_meet
   case rel => exact ⟨_, (true), eqs, H', ⟨by first | omega | exact Nat.le_refl _⟩, ⟨bw⟩⟩
 case rest =>
  clear HC4
  try clear c6
  try clear c7
  try clear c7b0
  obtain ⟨kq, x27_3, rfl, HA, HJ3, HB⟩ := hcut
  cases kq with
  | zero => exact absurd HA.out (by simp [lots_Slice.j0])
  | succ kj3 =>
   have H := HA.out
   clear HA
   simp only [lots_Slice.j0] at H
   by_cases c11 : x27_3 = true
   ·subst c11
    have H1 : (some (([] : List (S39)), 1)) = some (r1, r2) := by rw [if_pos rfl] at H; exact H
    clear H
    have H := H1
    clear H1
    simp only [Option.some.injEq, Prod.mk.injEq] at H
    obtain ⟨rfl, rfl⟩ := H
    go_wp2
    repeat (go_quiet (fail); try go_wp2)
    go_ret2
    exact ⟨_, by first | rfl | (simp [errW_none, errW_some] <;> rfl) | (simp [*, errW_none, errW_some] <;> rfl), by first | exact Kd.R_nil _ _ _ _ _ | exact Kd.N_nil _ _ _ _ _ | exact Kd.V_nil _ _ _ _ _ | exact Kd.Q_nil _ _ _ _ _ | exact Kd.S_nil _ _ _ _ _, bw⟩
   ·replace c11 := Bool.eq_false_iff.mpr c11
    subst c11
    have H1 : ((lots_Total.f kj3 l0).bind fun t251 => (if a1 > t251 then (lots_Slice.j1 kj3 l0 a1 a2 true) else (lots_Slice.j1 kj3 l0 a1 a2 (decide (a2 > (wrap64 (t251 - a1))))))) = some (r1, r2) := by rw [if_neg (show ¬ (false = true) by decide)] at H; exact H
    clear H
    have H := H1
    clear H1
    replace H := Option.bind_eq_some_iff.mp H
    obtain ⟨t251, A120, H⟩ := H
    replace H : (if a1 > t251 then (lots_Slice.j1 kj3 l0 a1 a2 true) else (lots_Slice.j1 kj3 l0 a1 a2 (decide (a2 > (wrap64 (t251 - a1)))))) = some (r1, r2) := H
    have A12 := Aside0.mk A120
    clear A120
    have HC13 := Aside0.mk H
    clear H
    go_upto_region 4 with (first | (go_at_call 24; (with_reducible refine (lots_Total.calls kj3 _ _ l0 t251 _ ?side1 ?side2 A12.out).mono ?_); (case side1 => repeat (first | exact (Kd.C_below HR0.out HB.out) | (with_reducible refine Kd.C_alloc ?_ _) | (with_reducible refine Kd.C_drewN ?_ _) | (with_reducible refine Kd.C_drew ?_))); (case side2 => exact HC0.out); rintro e w14 ⟨rfl, hb⟩; have n0_ := Aside0.mk (below_step (bw) hb); clear HB; have HB := n0_; clear n0_; (try clear hb); (try clear hb2); (try clear hk); (try clear hi)))
    repeat (go_quiet (first | (go_at_call 24; (with_reducible refine (lots_Total.calls kj3 _ _ l0 t251 _ ?side1 ?side2 A12.out).mono ?_); (case side1 => repeat (first | exact (Kd.C_below HR0.out HB.out) | (with_reducible refine Kd.C_alloc ?_ _) | (with_reducible refine Kd.C_drewN ?_ _) | (with_reducible refine Kd.C_drew ?_))); (case side2 => exact HC0.out); rintro e w14 ⟨rfl, hb⟩; have n0_ := Aside0.mk (below_step (bw) hb); clear HB; have HB := n0_; clear n0_; (try clear hb); (try clear hb2); (try clear hk); (try clear hi))); go_upto_region 4 with (first | (go_at_call 24; (with_reducible refine (lots_Total.calls kj3 _ _ l0 t251 _ ?side1 ?side2 A12.out).mono ?_); (case side1 => repeat (first | exact (Kd.C_below HR0.out HB.out) | (with_reducible refine Kd.C_alloc ?_ _) | (with_reducible refine Kd.C_drewN ?_ _) | (with_reducible refine Kd.C_drew ?_))); (case side2 => exact HC0.out); rintro e w14 ⟨rfl, hb⟩; have n0_ := Aside0.mk (below_step (bw) hb); clear HB; have HB := n0_; clear n0_; (try clear hb); (try clear hb2); (try clear hk); (try clear hi))))
    (try simp only [Act.put, List.setIfInBounds_toArray, List.set_cons_zero, List.set_cons_succ])
    go_cut [39] (fun v39 wc => ∃ (kq : Nat) (x39_12 : Bool), v39 = .bool x39_12 ∧ Aside0 (lots_Slice.j1 kq l0 a1 a2 x39_12 = some (r1, r2)) ∧ Aside0 (kq ≤ kj3) ∧ Aside0 (Below w.heap.size w wc))
    case first =>
     have H := HC13.out
     clear HC13
     by_cases c15 : a1 > t251
     ·rw [if_pos c15] at H
      have c15b0 : decide (t251 < a1) = true := decide_eq_true c15
      clear c15
      (first | rw [c15b0] | (simp only [i64_w, i32_w]; rw [c15b0]) | skip)
      have H' := Aside0.mk H
      clear H
      go_wp2
      repeat (go_quiet (fail); try go_wp2)
      go_meet
      case rel => exact ⟨_, (true), eqs, H', ⟨by have := HJ3.out; first | omega | exact Nat.le_refl _⟩, ⟨bw⟩⟩
     ·rw [if_neg c15] at H
      have c15b0 : decide (t251 < a1) = false := decide_eq_false c15
      clear c15
      (first | rw [c15b0] | (simp only [i64_w, i32_w]; rw [c15b0]) | skip)
      have H' := Aside0.mk H
      clear H
      go_wp2
      repeat (go_quiet (fail); try go_wp2)
      go_meet
      case rel => exact ⟨_, (decide (a2 > (wrap64 (t251 - a1)))), eqs, H', ⟨by have := HJ3.out; first | omega | exact Nat.le_refl _⟩, ⟨bw⟩⟩
    case rest =>
     clear HC13
     try clear c6
     try clear c7
     try clear c7b0
     try clear c11
     try clear c15
     try clear c15b0
     obtain ⟨kq, x39_12, rfl, HA, HJ12, HB⟩ := hcut
     cases kq with
     | zero => exact absurd HA.out (by simp [lots_Slice.j1])
     | succ kj12 =>
      have H := HA.out
      clear HA
      simp only [lots_Slice.j1] at H
      by_cases c16 : x39_12 = true
      ·subst c16
       have H1 : (some (([] : List (S39)), 5)) = some (r1, r2) := by rw [if_pos rfl] at H; exact H
       clear H
       have H := H1
       clear H1
       simp only [Option.some.injEq, Prod.mk.injEq] at H
       obtain ⟨rfl, rfl⟩ := H
       go_wp2
       repeat (go_quiet (fail); try go_wp2)
       go_ret2
       exact ⟨_, by first | rfl | (simp [errW_none, errW_some] <;> rfl) | (simp [*, errW_none, errW_some] <;> rfl), by first | exact Kd.R_nil _ _ _ _ _ | exact Kd.N_nil _ _ _ _ _ | exact Kd.V_nil _ _ _ _ _ | exact Kd.Q_nil _ _ _ _ _ | exact Kd.S_nil _ _ _ _ _, bw⟩
      ·replace c16 := Bool.eq_false_iff.mpr c16
       subst c16
       have H1 : (lots_Slice.l0 kj12 a1 a2 ([] : List (S39)) l0 (l0.length : Int) 0) = some (r1, r2) := by rw [if_neg (show ¬ (false = true) by decide)] at H; exact H
       clear H
       have H := H1
       clear H1
       have H' := Aside0.mk H
       clear H
       go_wp2
       repeat (go_quiet (fail); try go_wp2)
       go_loopg [1, 2, 9, 42] kj12 (fun kq v1 v2 v9 v42 w' => ∃ (x1_3 : Int) (x2_3 : Int) (x9_3 : List (S39)) (x42_3 : Int), v1 = .int .i64 x1_3 ∧ v2 = .int .i64 x2_3 ∧ v42 = .int .i64 x42_3 ∧ Aside0 (lots_Slice.l0 kq x1_3 x2_3 x9_3 l0 (l0.length : Int) x42_3 = some (r1, r2)) ∧ Aside0 (kq ≤ kj12) ∧ Aside0 (Kd.R k39 39 w' w.heap.size (fun _ => True) v9 x9_3) ∧ Aside0 (Below w.heap.size w w'))
       case atStart => exact ⟨(a1), (a2), (([] : List (S39))), (0), eqs, eqs, eqs, H', ⟨Nat.le_refl _⟩, ⟨by first | exact Kd.R_nil _ _ _ _ _ | exact Kd.N_nil _ _ _ _ _ | exact Kd.V_nil _ _ _ _ _ | exact Kd.Q_nil _ _ _ _ _ | exact Kd.S_nil _ _ _ _ _⟩, ⟨bw⟩⟩
       case round =>
        clear H'
        try clear c6
        try clear c7
        try clear c7b0
        try clear c11
        try clear c15
        try clear c15b0
        try clear c16
        obtain ⟨x1_3, x2_3, x9_3, x42_3, rfl, rfl, rfl, HA, HK3, HO_9, HB⟩ := hrel
        cases gk with
        | zero => exact absurd HA.out (by simp [lots_Slice.l0])
        | succ k3 =>
         have H := HA.out
         clear HA
         simp only [lots_Slice.l0] at H
         by_cases c17 : x42_3 < (l0.length : Int)
         ·rw [if_pos c17] at H
          have c17b0 : decide (x42_3 < (l0.length : Int)) = true := decide_eq_true c17
          clear c17
          by_cases c18 : 0 ≤ x42_3
          ·rw [if_pos c18] at H
           have c18b0 : decide (0 ≤ x42_3) = true := decide_eq_true c18
           clear c18
           by_cases c19 : x42_3 < (l0.length : Int)
           ·rw [if_pos c19] at H
            have c19b0 : decide (x42_3 < (l0.length : Int)) = true := decide_eq_true c19
            clear c19
            obtain ⟨ji20, hji20⟩ : ∃ j_ : Int, (mn x1_3 ((rd_T39 l0 x42_3).f2)) = j_ := ⟨_, rfl⟩
            replace H : ((lots_cut.f ((rd_T39 l0 x42_3).f0) ((rd_T39 l0 x42_3).f1) ((rd_T39 l0 x42_3).f2) (ji20)).bind fun bt254 => ((lots_cut.f bt254.2.2.2.1 bt254.2.2.2.2.1 bt254.2.2.2.2.2 (mn x2_3 bt254.2.2.2.2.2)).bind fun bt262 => ((lots_some.f x9_3 bt262.1 bt262.2.1 bt262.2.2.1).bind fun t270 => (lots_Slice.l0 k3 (wrap64 (x1_3 - (ji20))) (wrap64 (x2_3 - bt262.2.2.1)) t270 l0 (l0.length : Int) (wrap64 (x42_3 + 1)))))) = some (r1, r2) := by first | (rw [hji20] at H; exact H) | (simp only [hji20] at H ⊢; exact H)
            have hji20_ : (if ((rd_T39 l0 x42_3).f2) < x1_3 then ((rd_T39 l0 x42_3).f2) else x1_3) = ji20 := hji20
            replace H := Option.bind_eq_some_iff.mp H
            obtain ⟨⟨t254, t255, t256, t257, t258, t259⟩, A210, H⟩ := H
            replace H : ((lots_cut.f t257 t258 t259 (mn x2_3 t259)).bind fun bt262 => ((lots_some.f x9_3 bt262.1 bt262.2.1 bt262.2.2.1).bind fun t270 => (lots_Slice.l0 k3 (wrap64 (x1_3 - (ji20))) (wrap64 (x2_3 - bt262.2.2.1)) t270 l0 (l0.length : Int) (wrap64 (x42_3 + 1))))) = some (r1, r2) := H
            have A21 := Aside0.mk A210
            clear A210
            obtain ⟨ji22, hji22⟩ : ∃ j_ : Int, (mn x2_3 t259) = j_ := ⟨_, rfl⟩
            replace H : ((lots_cut.f t257 t258 t259 (ji22)).bind fun bt262 => ((lots_some.f x9_3 bt262.1 bt262.2.1 bt262.2.2.1).bind fun t270 => (lots_Slice.l0 k3 (wrap64 (x1_3 - (ji20))) (wrap64 (x2_3 - bt262.2.2.1)) t270 l0 (l0.length : Int) (wrap64 (x42_3 + 1))))) = some (r1, r2) := by first | (rw [hji22] at H; exact H) | (simp only [hji22] at H ⊢; exact H)
            (try rw [hji22] at A21)
            have hji22_ : (if t259 < x2_3 then t259 else x2_3) = ji22 := hji22
            replace H := Option.bind_eq_some_iff.mp H
            obtain ⟨⟨t262, t263, t264, t265, t266, t267⟩, A230, H⟩ := H
            replace H : ((lots_some.f x9_3 t262 t263 t264).bind fun t270 => (lots_Slice.l0 k3 (wrap64 (x1_3 - (ji20))) (wrap64 (x2_3 - t264)) t270 l0 (l0.length : Int) (wrap64 (x42_3 + 1)))) = some (r1, r2) := H
            have A23 := Aside0.mk A230
            clear A230
            replace H := Option.bind_eq_some_iff.mp H
            obtain ⟨t270, A240, H⟩ := H
            replace H : (lots_Slice.l0 k3 (wrap64 (x1_3 - (ji20))) (wrap64 (x2_3 - t264)) t270 l0 (l0.length : Int) (wrap64 (x42_3 + 1))) = some (r1, r2) := H
            have A24 := Aside0.mk A240
            clear A240
            have H' := Aside0.mk H
            clear H
            have p252 : 0 ≤ (x42_3 : Int) := oda
            have q252 : x42_3 < (l0.length : Int) := oda
            obtain ⟨ad252, e252, hx252_0, hx252_1, hx252_2⟩ := at_T39 HR0.out x42_3 p252 q252
            cases e252
            replace hx252_0 := (HB.out.cell (World.block_lt_of_cell? w _ hx252_0)).trans hx252_0
            replace hx252_1 := (HB.out.cell (World.block_lt_of_cell? w _ hx252_1)).trans hx252_1
            replace hx252_2 := (HB.out.cell (World.block_lt_of_cell? w _ hx252_2)).trans hx252_2
            replace p252 := eq_true p252
            replace q252 := eq_true q252
            go_wp2_with (first | ((with_reducible refine gate_dst (N := 11) rfl ?_); refine box_event ?hg (N := 11) ?hd (cs := #[.int .i64 0, .int .i64 0, .int .i64 0]) (t := 39) ?hr ?_; (case hd => rfl); (case hg => rfl); (case hr => first | (go_simp; done) | (go_simp; rfl)); intro gb253 hg w25 hbox hb; have n0_ := Aside0.mk (Kd.R_below (Kd.R_elderB (kr HO_9.out) gb253 (Nat.le_of_eq hg.symm)) hb); have n1_ := Aside0.mk (below_step (bw) hb); have n2_ := Aside0.mk (hbox); have n3_ := Aside0.mk ((by rw [hg]; exact (below_size (bw)) : w.heap.size ≤ gb253)); have n4_ := Aside0.mk ((by rw [hg]; exact (below_size (bw)) : w.heap.size ≤ gb253)); clear HO_9; clear HB; have HO_9 := n0_; have HB := n1_; have BK253 := n2_; have GW253 := n3_; have GE253 := n4_; clear n0_ n1_ n2_ n3_ n4_; clear hb hbox hg; have hcz26_0 : w25.cell? ⟨gb253, 0, none⟩ = some (.int .i64 0) := (blk_cell BK253.out 0).trans rfl; have hcz26_1 : w25.cell? ⟨gb253, 1, none⟩ = some (.int .i64 0) := (blk_cell BK253.out 1).trans rfl; have hcz26_2 : w25.cell? ⟨gb253, 2, none⟩ = some (.int .i64 0) := (blk_cell BK253.out 2).trans rfl; have hfz26_0 := blk_frozen BK253.out 0; have hfz26_1 := blk_frozen BK253.out 1; have hfz26_2 := blk_frozen BK253.out 2) | (go_at_call 50; (with_reducible refine (lots_cut.calls ((rd_T39 l0 x42_3).f0) ((rd_T39 l0 x42_3).f1) ((rd_T39 l0 x42_3).f2) ji20 t254 t255 t256 t257 t258 t259 _ A21.out).mono ?_); rintro e w27 ⟨rfl, hb⟩; have n0_ := Aside0.mk (Kd.R_below (by (with_reducible repeat (first | apply Kd.R_alloc | apply Kd.R_drewN | apply Kd.R_drew)); exact (Kd.R_mono (Kd.R_far (p := ⟨gb253, 2, none⟩) (Kd.R_far (p := ⟨gb253, 1, none⟩) (Kd.R_far (p := ⟨gb253, 0, none⟩) (Kd.R_mono HO_9.out (fun k_ hk => (⟨hk, hk.2⟩ : _ ∧ k_ ≠ gb253))) (fun _ hk => hk.2) (.int .i64 ((rd_T39 l0 x42_3).f0))) (fun _ hk => hk.2) (.int .i64 ((rd_T39 l0 x42_3).f1))) (fun _ hk => hk.2) (.int .i64 ((rd_T39 l0 x42_3).f2))) (fun _ h_ => h_.1))) hb); have n1_ := Aside0.mk (blk_below (g := gb253) (o := .cells #[.int .i64 ((rd_T39 l0 x42_3).f0), .int .i64 ((rd_T39 l0 x42_3).f1), .int .i64 ((rd_T39 l0 x42_3).f2)] 39 (0, 0)) (by (with_reducible repeat (first | refine blk_drewN ?_ _ | refine blk_drew ?_ | refine blk_alloc ?_ _)); refine blk_put (cs := #[.int .i64 ((rd_T39 l0 x42_3).f0), .int .i64 ((rd_T39 l0 x42_3).f1), .int .i64 0]) ?_ 2 _ rfl; (with_reducible repeat (first | refine blk_drewN ?_ _ | refine blk_drew ?_ | refine blk_alloc ?_ _)); refine blk_put (cs := #[.int .i64 ((rd_T39 l0 x42_3).f0), .int .i64 0, .int .i64 0]) ?_ 1 _ rfl; (with_reducible repeat (first | refine blk_drewN ?_ _ | refine blk_drew ?_ | refine blk_alloc ?_ _)); refine blk_put (cs := #[.int .i64 0, .int .i64 0, .int .i64 0]) ?_ 0 _ rfl; (with_reducible repeat (first | refine blk_drewN ?_ _ | refine blk_drew ?_ | refine blk_alloc ?_ _)); exact BK253.out) hb); have n2_ := Aside0.mk (below_step (by repeat (first | (with_reducible first | exact HB.out | apply below_alloc | apply pw_below_drewN | apply below_drew1 | refine below_set ?_ GE253.out) | exact HB.out)) hb); clear HO_9; clear BK253; clear HB; have HO_9 := n0_; have BK253 := n1_; have HB := n2_; clear n0_ n1_ n2_; (try clear hb); (try clear hb2); (try clear hk); (try clear hi)) | ((with_reducible refine gate_dst (N := 13) rfl ?_); refine box_event ?hg (N := 13) ?hd (cs := #[.int .i64 0, .int .i64 0, .int .i64 0]) (t := 39) ?hr ?_; (case hd => rfl); (case hg => rfl); (case hr => first | (go_simp; done) | (go_simp; rfl)); intro gb260 hg w28 hbox hb; have n0_ := Aside0.mk (Kd.R_below (Kd.R_elderB (kr HO_9.out) gb260 (Nat.le_of_eq hg.symm)) hb); have n1_ := Aside0.mk (blk_below (g := gb253) (o := .cells #[.int .i64 ((rd_T39 l0 x42_3).f0), .int .i64 ((rd_T39 l0 x42_3).f1), .int .i64 ((rd_T39 l0 x42_3).f2)] 39 (0, 0)) (kb BK253.out) hb); have n2_ := Aside0.mk (below_step (by repeat (first | (with_reducible first | exact HB.out | apply below_alloc | apply pw_below_drewN | apply below_drew1 | refine below_set ?_ GE253.out) | exact HB.out)) hb); have n3_ := Aside0.mk (hbox); have n4_ := Aside0.mk ((by rw [hg]; exact (below_size (by repeat (first | (with_reducible first | exact HB.out | apply below_alloc | apply pw_below_drewN | apply below_drew1 | refine below_set ?_ GE253.out) | exact HB.out))) : w.heap.size ≤ gb260)); have n5_ := Aside0.mk ((by rw [hg]; exact (below_size (by repeat (first | (with_reducible first | exact HB.out | apply below_alloc | apply pw_below_drewN | apply below_drew1 | refine below_set ?_ GE253.out) | exact HB.out))) : w.heap.size ≤ gb260)); have n6_ := Aside0.mk ((by rw [hg]; exact Nat.ne_of_lt (blk_lt (g := gb253) (o := .cells #[.int .i64 ((rd_T39 l0 x42_3).f0), .int .i64 ((rd_T39 l0 x42_3).f1), .int .i64 ((rd_T39 l0 x42_3).f2)] 39 (0, 0)) (kb BK253.out)) : gb253 ≠ gb260)); have n7_ := Aside0.mk ((by rw [hg]; exact Nat.ne_of_gt (blk_lt (g := gb253) (o := .cells #[.int .i64 ((rd_T39 l0 x42_3).f0), .int .i64 ((rd_T39 l0 x42_3).f1), .int .i64 ((rd_T39 l0 x42_3).f2)] 39 (0, 0)) (kb BK253.out)) : gb260 ≠ gb253)); clear HO_9; clear BK253; clear HB; have HO_9 := n0_; have BK253 := n1_; have HB := n2_; have BK260 := n3_; have GW260 := n4_; have GE260 := n5_; have NB253_260 := n6_; have NB260_253 := n7_; clear n0_ n1_ n2_ n3_ n4_ n5_ n6_ n7_; clear hb hbox hg) | ((with_reducible refine gate_dst (N := 14) rfl ?_); refine box_event ?hg (N := 14) ?hd (cs := #[.int .i64 0, .int .i64 0, .int .i64 0]) (t := 39) ?hr ?_; (case hd => rfl); (case hg => rfl); (case hr => first | (go_simp; done) | (go_simp; rfl)); intro gb261 hg w29 hbox hb; have n0_ := Aside0.mk (Kd.R_below (Kd.R_elderB (kr HO_9.out) gb261 (Nat.le_of_eq hg.symm)) hb); have n1_ := Aside0.mk (blk_below (g := gb253) (o := .cells #[.int .i64 ((rd_T39 l0 x42_3).f0), .int .i64 ((rd_T39 l0 x42_3).f1), .int .i64 ((rd_T39 l0 x42_3).f2)] 39 (0, 0)) (kb BK253.out) hb); have n2_ := Aside0.mk (blk_below (g := gb260) (o := .cells #[.int .i64 0, .int .i64 0, .int .i64 0] 39 (0, 0)) (kb BK260.out) hb); have n3_ := Aside0.mk (below_step (by repeat (first | (with_reducible first | exact HB.out | apply below_alloc | apply pw_below_drewN | apply below_drew1 | refine below_set ?_ GE253.out | refine below_set ?_ GE260.out) | exact HB.out)) hb); have n4_ := Aside0.mk (hbox); have n5_ := Aside0.mk ((by rw [hg]; exact (below_size (by repeat (first | (with_reducible first | exact HB.out | apply below_alloc | apply pw_below_drewN | apply below_drew1 | refine below_set ?_ GE253.out | refine below_set ?_ GE260.out) | exact HB.out))) : w.heap.size ≤ gb261)); have n6_ := Aside0.mk ((by rw [hg]; exact (below_size (by repeat (first | (with_reducible first | exact HB.out | apply below_alloc | apply pw_below_drewN | apply below_drew1 | refine below_set ?_ GE253.out | refine below_set ?_ GE260.out) | exact HB.out))) : w.heap.size ≤ gb261)); have n7_ := Aside0.mk ((by rw [hg]; exact Nat.ne_of_lt (blk_lt (g := gb253) (o := .cells #[.int .i64 ((rd_T39 l0 x42_3).f0), .int .i64 ((rd_T39 l0 x42_3).f1), .int .i64 ((rd_T39 l0 x42_3).f2)] 39 (0, 0)) (kb BK253.out)) : gb253 ≠ gb261)); have n8_ := Aside0.mk ((by rw [hg]; exact Nat.ne_of_gt (blk_lt (g := gb253) (o := .cells #[.int .i64 ((rd_T39 l0 x42_3).f0), .int .i64 ((rd_T39 l0 x42_3).f1), .int .i64 ((rd_T39 l0 x42_3).f2)] 39 (0, 0)) (kb BK253.out)) : gb261 ≠ gb253)); have n9_ := Aside0.mk ((by rw [hg]; exact Nat.ne_of_lt (blk_lt (g := gb260) (o := .cells #[.int .i64 0, .int .i64 0, .int .i64 0] 39 (0, 0)) (kb BK260.out)) : gb260 ≠ gb261)); have n10_ := Aside0.mk ((by rw [hg]; exact Nat.ne_of_gt (blk_lt (g := gb260) (o := .cells #[.int .i64 0, .int .i64 0, .int .i64 0] 39 (0, 0)) (kb BK260.out)) : gb261 ≠ gb260)); clear HO_9; clear BK253; clear BK260; clear HB; have HO_9 := n0_; have BK253 := n1_; have BK260 := n2_; have HB := n3_; have BK261 := n4_; have GW261 := n5_; have GE261 := n6_; have NB253_261 := n7_; have NB261_253 := n8_; have NB260_261 := n9_; have NB261_260 := n10_; clear n0_ n1_ n2_ n3_ n4_ n5_ n6_ n7_ n8_ n9_ n10_; clear hb hbox hg; have hnb30 := NB260_253.out; have hnc30 := NB253_260.out; have hnb31 := NB260_261.out; have hnc31 := NB261_260.out; have hcz32_0 : w29.cell? ⟨gb260, 0, none⟩ = some (.int .i64 0) := (blk_cell BK260.out 0).trans rfl; have hcz32_1 : w29.cell? ⟨gb260, 1, none⟩ = some (.int .i64 0) := (blk_cell BK260.out 1).trans rfl; have hcz32_2 : w29.cell? ⟨gb260, 2, none⟩ = some (.int .i64 0) := (blk_cell BK260.out 2).trans rfl; have hfz32_0 := blk_frozen BK260.out 0; have hfz32_1 := blk_frozen BK260.out 1; have hfz32_2 := blk_frozen BK260.out 2; have hnb33 := NB261_253.out; have hnc33 := NB253_261.out; have hcz34_0 : w29.cell? ⟨gb261, 0, none⟩ = some (.int .i64 0) := (blk_cell BK261.out 0).trans rfl; have hcz34_1 : w29.cell? ⟨gb261, 1, none⟩ = some (.int .i64 0) := (blk_cell BK261.out 1).trans rfl; have hcz34_2 : w29.cell? ⟨gb261, 2, none⟩ = some (.int .i64 0) := (blk_cell BK261.out 2).trans rfl; have hfz34_0 := blk_frozen BK261.out 0; have hfz34_1 := blk_frozen BK261.out 1; have hfz34_2 := blk_frozen BK261.out 2) | (go_at_call 50; (with_reducible refine (lots_cut.calls t257 t258 t259 ji22 t262 t263 t264 t265 t266 t267 _ A23.out).mono ?_); rintro e w35 ⟨rfl, hb⟩; have n0_ := Aside0.mk (Kd.R_below (by (with_reducible repeat (first | apply Kd.R_alloc | apply Kd.R_drewN | apply Kd.R_drew)); exact (Kd.R_mono (Kd.R_mono (Kd.R_far (p := ⟨gb261, 2, none⟩) (Kd.R_far (p := ⟨gb261, 1, none⟩) (Kd.R_far (p := ⟨gb261, 0, none⟩) (Kd.R_far (p := ⟨gb260, 2, none⟩) (Kd.R_far (p := ⟨gb260, 1, none⟩) (Kd.R_far (p := ⟨gb260, 0, none⟩) (Kd.R_mono (Kd.R_mono HO_9.out (fun k_ hk => (⟨hk, hk.1.2⟩ : _ ∧ k_ ≠ gb260))) (fun k_ hk => (⟨hk, hk.1.2⟩ : _ ∧ k_ ≠ gb261))) (fun _ hk => hk.1.2) (.int .i64 t254)) (fun _ hk => hk.1.2) (.int .i64 t255)) (fun _ hk => hk.1.2) (.int .i64 t256)) (fun _ hk => hk.2) (.int .i64 t257)) (fun _ hk => hk.2) (.int .i64 t258)) (fun _ hk => hk.2) (.int .i64 t259)) (fun _ h_ => h_.1)) (fun _ h_ => h_.1))) hb); have n1_ := Aside0.mk (blk_below (g := gb253) (o := .cells #[.int .i64 ((rd_T39 l0 x42_3).f0), .int .i64 ((rd_T39 l0 x42_3).f1), .int .i64 ((rd_T39 l0 x42_3).f2)] 39 (0, 0)) (by (with_reducible repeat (first | refine blk_drewN ?_ _ | refine blk_drew ?_ | refine blk_alloc ?_ _)); refine blk_far ?_ NB253_261.out _; (with_reducible repeat (first | refine blk_drewN ?_ _ | refine blk_drew ?_ | refine blk_alloc ?_ _)); refine blk_far ?_ NB253_261.out _; (with_reducible repeat (first | refine blk_drewN ?_ _ | refine blk_drew ?_ | refine blk_alloc ?_ _)); refine blk_far ?_ NB253_261.out _; (with_reducible repeat (first | refine blk_drewN ?_ _ | refine blk_drew ?_ | refine blk_alloc ?_ _)); refine blk_far ?_ NB253_260.out _; (with_reducible repeat (first | refine blk_drewN ?_ _ | refine blk_drew ?_ | refine blk_alloc ?_ _)); refine blk_far ?_ NB253_260.out _; (with_reducible repeat (first | refine blk_drewN ?_ _ | refine blk_drew ?_ | refine blk_alloc ?_ _)); refine blk_far ?_ NB253_260.out _; (with_reducible repeat (first | refine blk_drewN ?_ _ | refine blk_drew ?_ | refine blk_alloc ?_ _)); exact BK253.out) hb); have n2_ := Aside0.mk (blk_below (g := gb260) (o := .cells #[.int .i64 t254, .int .i64 t255, .int .i64 t256] 39 (0, 0)) (by (with_reducible repeat (first | refine blk_drewN ?_ _ | refine blk_drew ?_ | refine blk_alloc ?_ _)); refine blk_far ?_ NB260_261.out _; (with_reducible repeat (first | refine blk_drewN ?_ _ | refine blk_drew ?_ | refine blk_alloc ?_ _)); refine blk_far ?_ NB260_261.out _; (with_reducible repeat (first | refine blk_drewN ?_ _ | refine blk_drew ?_ | refine blk_alloc ?_ _)); refine blk_far ?_ NB260_261.out _; (with_reducible repeat (first | refine blk_drewN ?_ _ | refine blk_drew ?_ | refine blk_alloc ?_ _)); refine blk_put (cs := #[.int .i64 t254, .int .i64 t255, .int .i64 0]) ?_ 2 _ rfl; (with_reducible repeat (first | refine blk_drewN ?_ _ | refine blk_drew ?_ | refine blk_alloc ?_ _)); refine blk_put (cs := #[.int .i64 t254, .int .i64 0, .int .i64 0]) ?_ 1 _ rfl; (with_reducible repeat (first | refine blk_drewN ?_ _ | refine blk_drew ?_ | refine blk_alloc ?_ _)); refine blk_put (cs := #[.int .i64 0, .int .i64 0, .int .i64 0]) ?_ 0 _ rfl; (with_reducible repeat (first | refine blk_drewN ?_ _ | refine blk_drew ?_ | refine blk_alloc ?_ _)); exact BK260.out) hb); have n3_ := Aside0.mk (blk_below (g := gb261) (o := .cells #[.int .i64 t257, .int .i64 t258, .int .i64 t259] 39 (0, 0)) (by (with_reducible repeat (first | refine blk_drewN ?_ _ | refine blk_drew ?_ | refine blk_alloc ?_ _)); refine blk_put (cs := #[.int .i64 t257, .int .i64 t258, .int .i64 0]) ?_ 2 _ rfl; (with_reducible repeat (first | refine blk_drewN ?_ _ | refine blk_drew ?_ | refine blk_alloc ?_ _)); refine blk_put (cs := #[.int .i64 t257, .int .i64 0, .int .i64 0]) ?_ 1 _ rfl; (with_reducible repeat (first | refine blk_drewN ?_ _ | refine blk_drew ?_ | refine blk_alloc ?_ _)); refine blk_put (cs := #[.int .i64 0, .int .i64 0, .int .i64 0]) ?_ 0 _ rfl; (with_reducible repeat (first | refine blk_drewN ?_ _ | refine blk_drew ?_ | refine blk_alloc ?_ _)); refine blk_far ?_ NB261_260.out _; (with_reducible repeat (first | refine blk_drewN ?_ _ | refine blk_drew ?_ | refine blk_alloc ?_ _)); refine blk_far ?_ NB261_260.out _; (with_reducible repeat (first | refine blk_drewN ?_ _ | refine blk_drew ?_ | refine blk_alloc ?_ _)); refine blk_far ?_ NB261_260.out _; (with_reducible repeat (first | refine blk_drewN ?_ _ | refine blk_drew ?_ | refine blk_alloc ?_ _)); exact BK261.out) hb); have n4_ := Aside0.mk (below_step (by repeat (first | (with_reducible first | exact HB.out | apply below_alloc | apply pw_below_drewN | apply below_drew1 | refine below_set ?_ GE253.out | refine below_set ?_ GE260.out | refine below_set ?_ GE261.out) | exact HB.out)) hb); clear HO_9; clear BK253; clear BK260; clear BK261; clear HB; have HO_9 := n0_; have BK253 := n1_; have BK260 := n2_; have BK261 := n3_; have HB := n4_; clear n0_ n1_ n2_ n3_ n4_; (try clear hb); (try clear hb2); (try clear hk); (try clear hi)) | ((with_reducible refine gate_dst (N := 15) rfl ?_); refine box_event ?hg (N := 15) ?hd (cs := #[.int .i64 0, .int .i64 0, .int .i64 0]) (t := 39) ?hr ?_; (case hd => rfl); (case hg => rfl); (case hr => first | (go_simp; done) | (go_simp; rfl)); intro gb268 hg w36 hbox hb; have n0_ := Aside0.mk (Kd.R_below (Kd.R_elderB (kr HO_9.out) gb268 (Nat.le_of_eq hg.symm)) hb); have n1_ := Aside0.mk (blk_below (g := gb253) (o := .cells #[.int .i64 ((rd_T39 l0 x42_3).f0), .int .i64 ((rd_T39 l0 x42_3).f1), .int .i64 ((rd_T39 l0 x42_3).f2)] 39 (0, 0)) (kb BK253.out) hb); have n2_ := Aside0.mk (blk_below (g := gb260) (o := .cells #[.int .i64 t254, .int .i64 t255, .int .i64 t256] 39 (0, 0)) (kb BK260.out) hb); have n3_ := Aside0.mk (blk_below (g := gb261) (o := .cells #[.int .i64 t257, .int .i64 t258, .int .i64 t259] 39 (0, 0)) (kb BK261.out) hb); have n4_ := Aside0.mk (below_step (by repeat (first | (with_reducible first | exact HB.out | apply below_alloc | apply pw_below_drewN | apply below_drew1 | refine below_set ?_ GE253.out | refine below_set ?_ GE260.out | refine below_set ?_ GE261.out) | exact HB.out)) hb); have n5_ := Aside0.mk (hbox); have n6_ := Aside0.mk ((by rw [hg]; exact (below_size (by repeat (first | (with_reducible first | exact HB.out | apply below_alloc | apply pw_below_drewN | apply below_drew1 | refine below_set ?_ GE253.out | refine below_set ?_ GE260.out | refine below_set ?_ GE261.out) | exact HB.out))) : w.heap.size ≤ gb268)); have n7_ := Aside0.mk ((by rw [hg]; exact (below_size (by repeat (first | (with_reducible first | exact HB.out | apply below_alloc | apply pw_below_drewN | apply below_drew1 | refine below_set ?_ GE253.out | refine below_set ?_ GE260.out | refine below_set ?_ GE261.out) | exact HB.out))) : w.heap.size ≤ gb268)); have n8_ := Aside0.mk ((by rw [hg]; exact Nat.ne_of_lt (blk_lt (g := gb253) (o := .cells #[.int .i64 ((rd_T39 l0 x42_3).f0), .int .i64 ((rd_T39 l0 x42_3).f1), .int .i64 ((rd_T39 l0 x42_3).f2)] 39 (0, 0)) (kb BK253.out)) : gb253 ≠ gb268)); have n9_ := Aside0.mk ((by rw [hg]; exact Nat.ne_of_gt (blk_lt (g := gb253) (o := .cells #[.int .i64 ((rd_T39 l0 x42_3).f0), .int .i64 ((rd_T39 l0 x42_3).f1), .int .i64 ((rd_T39 l0 x42_3).f2)] 39 (0, 0)) (kb BK253.out)) : gb268 ≠ gb253)); have n10_ := Aside0.mk ((by rw [hg]; exact Nat.ne_of_lt (blk_lt (g := gb260) (o := .cells #[.int .i64 t254, .int .i64 t255, .int .i64 t256] 39 (0, 0)) (kb BK260.out)) : gb260 ≠ gb268)); have n11_ := Aside0.mk ((by rw [hg]; exact Nat.ne_of_gt (blk_lt (g := gb260) (o := .cells #[.int .i64 t254, .int .i64 t255, .int .i64 t256] 39 (0, 0)) (kb BK260.out)) : gb268 ≠ gb260)); have n12_ := Aside0.mk ((by rw [hg]; exact Nat.ne_of_lt (blk_lt (g := gb261) (o := .cells #[.int .i64 t257, .int .i64 t258, .int .i64 t259] 39 (0, 0)) (kb BK261.out)) : gb261 ≠ gb268)); have n13_ := Aside0.mk ((by rw [hg]; exact Nat.ne_of_gt (blk_lt (g := gb261) (o := .cells #[.int .i64 t257, .int .i64 t258, .int .i64 t259] 39 (0, 0)) (kb BK261.out)) : gb268 ≠ gb261)); clear HO_9; clear BK253; clear BK260; clear BK261; clear HB; have HO_9 := n0_; have BK253 := n1_; have BK260 := n2_; have BK261 := n3_; have HB := n4_; have BK268 := n5_; have GW268 := n6_; have GE268 := n7_; have NB253_268 := n8_; have NB268_253 := n9_; have NB260_268 := n10_; have NB268_260 := n11_; have NB261_268 := n12_; have NB268_261 := n13_; clear n0_ n1_ n2_ n3_ n4_ n5_ n6_ n7_ n8_ n9_ n10_ n11_ n12_ n13_; clear hb hbox hg) | ((with_reducible refine gate_dst (N := 16) rfl ?_); refine box_event ?hg (N := 16) ?hd (cs := #[.int .i64 0, .int .i64 0, .int .i64 0]) (t := 39) ?hr ?_; (case hd => rfl); (case hg => rfl); (case hr => first | (go_simp; done) | (go_simp; rfl)); intro gb269 hg w37 hbox hb; have n0_ := Aside0.mk (Kd.R_below (Kd.R_elderB (kr HO_9.out) gb269 (Nat.le_of_eq hg.symm)) hb); have n1_ := Aside0.mk (blk_below (g := gb253) (o := .cells #[.int .i64 ((rd_T39 l0 x42_3).f0), .int .i64 ((rd_T39 l0 x42_3).f1), .int .i64 ((rd_T39 l0 x42_3).f2)] 39 (0, 0)) (kb BK253.out) hb); have n2_ := Aside0.mk (blk_below (g := gb260) (o := .cells #[.int .i64 t254, .int .i64 t255, .int .i64 t256] 39 (0, 0)) (kb BK260.out) hb); have n3_ := Aside0.mk (blk_below (g := gb261) (o := .cells #[.int .i64 t257, .int .i64 t258, .int .i64 t259] 39 (0, 0)) (kb BK261.out) hb); have n4_ := Aside0.mk (blk_below (g := gb268) (o := .cells #[.int .i64 0, .int .i64 0, .int .i64 0] 39 (0, 0)) (kb BK268.out) hb); have n5_ := Aside0.mk (below_step (by repeat (first | (with_reducible first | exact HB.out | apply below_alloc | apply pw_below_drewN | apply below_drew1 | refine below_set ?_ GE253.out | refine below_set ?_ GE260.out | refine below_set ?_ GE261.out | refine below_set ?_ GE268.out) | exact HB.out)) hb); have n6_ := Aside0.mk (hbox); have n7_ := Aside0.mk ((by rw [hg]; exact (below_size (by repeat (first | (with_reducible first | exact HB.out | apply below_alloc | apply pw_below_drewN | apply below_drew1 | refine below_set ?_ GE253.out | refine below_set ?_ GE260.out | refine below_set ?_ GE261.out | refine below_set ?_ GE268.out) | exact HB.out))) : w.heap.size ≤ gb269)); have n8_ := Aside0.mk ((by rw [hg]; exact (below_size (by repeat (first | (with_reducible first | exact HB.out | apply below_alloc | apply pw_below_drewN | apply below_drew1 | refine below_set ?_ GE253.out | refine below_set ?_ GE260.out | refine below_set ?_ GE261.out | refine below_set ?_ GE268.out) | exact HB.out))) : w.heap.size ≤ gb269)); have n9_ := Aside0.mk ((by rw [hg]; exact Nat.ne_of_lt (blk_lt (g := gb253) (o := .cells #[.int .i64 ((rd_T39 l0 x42_3).f0), .int .i64 ((rd_T39 l0 x42_3).f1), .int .i64 ((rd_T39 l0 x42_3).f2)] 39 (0, 0)) (kb BK253.out)) : gb253 ≠ gb269)); have n10_ := Aside0.mk ((by rw [hg]; exact Nat.ne_of_gt (blk_lt (g := gb253) (o := .cells #[.int .i64 ((rd_T39 l0 x42_3).f0), .int .i64 ((rd_T39 l0 x42_3).f1), .int .i64 ((rd_T39 l0 x42_3).f2)] 39 (0, 0)) (kb BK253.out)) : gb269 ≠ gb253)); have n11_ := Aside0.mk ((by rw [hg]; exact Nat.ne_of_lt (blk_lt (g := gb260) (o := .cells #[.int .i64 t254, .int .i64 t255, .int .i64 t256] 39 (0, 0)) (kb BK260.out)) : gb260 ≠ gb269)); have n12_ := Aside0.mk ((by rw [hg]; exact Nat.ne_of_gt (blk_lt (g := gb260) (o := .cells #[.int .i64 t254, .int .i64 t255, .int .i64 t256] 39 (0, 0)) (kb BK260.out)) : gb269 ≠ gb260)); have n13_ := Aside0.mk ((by rw [hg]; exact Nat.ne_of_lt (blk_lt (g := gb261) (o := .cells #[.int .i64 t257, .int .i64 t258, .int .i64 t259] 39 (0, 0)) (kb BK261.out)) : gb261 ≠ gb269)); have n14_ := Aside0.mk ((by rw [hg]; exact Nat.ne_of_gt (blk_lt (g := gb261) (o := .cells #[.int .i64 t257, .int .i64 t258, .int .i64 t259] 39 (0, 0)) (kb BK261.out)) : gb269 ≠ gb261)); have n15_ := Aside0.mk ((by rw [hg]; exact Nat.ne_of_lt (blk_lt (g := gb268) (o := .cells #[.int .i64 0, .int .i64 0, .int .i64 0] 39 (0, 0)) (kb BK268.out)) : gb268 ≠ gb269)); have n16_ := Aside0.mk ((by rw [hg]; exact Nat.ne_of_gt (blk_lt (g := gb268) (o := .cells #[.int .i64 0, .int .i64 0, .int .i64 0] 39 (0, 0)) (kb BK268.out)) : gb269 ≠ gb268)); clear HO_9; clear BK253; clear BK260; clear BK261; clear BK268; clear HB; have HO_9 := n0_; have BK253 := n1_; have BK260 := n2_; have BK261 := n3_; have BK268 := n4_; have HB := n5_; have BK269 := n6_; have GW269 := n7_; have GE269 := n8_; have NB253_269 := n9_; have NB269_253 := n10_; have NB260_269 := n11_; have NB269_260 := n12_; have NB261_269 := n13_; have NB269_261 := n14_; have NB268_269 := n15_; have NB269_268 := n16_; clear n0_ n1_ n2_ n3_ n4_ n5_ n6_ n7_ n8_ n9_ n10_ n11_ n12_ n13_ n14_ n15_ n16_; clear hb hbox hg; have hnb38 := NB268_253.out; have hnc38 := NB253_268.out; have hnb39 := NB268_260.out; have hnc39 := NB260_268.out; have hnb40 := NB268_261.out; have hnc40 := NB261_268.out; have hnb41 := NB268_269.out; have hnc41 := NB269_268.out; have hcz42_0 : w37.cell? ⟨gb268, 0, none⟩ = some (.int .i64 0) := (blk_cell BK268.out 0).trans rfl; have hcz42_1 : w37.cell? ⟨gb268, 1, none⟩ = some (.int .i64 0) := (blk_cell BK268.out 1).trans rfl; have hcz42_2 : w37.cell? ⟨gb268, 2, none⟩ = some (.int .i64 0) := (blk_cell BK268.out 2).trans rfl; have hfz42_0 := blk_frozen BK268.out 0; have hfz42_1 := blk_frozen BK268.out 1; have hfz42_2 := blk_frozen BK268.out 2) | ((with_reducible refine gate_store (t := 39) (p := 15) rfl ?_); (try (rw [drewN_self w37]; generalize hq_ : World.drewN w37 _ = w37; have n0_ := Aside0.mk (Kd.R_at hq_ HO_9.out); have n1_ := Aside0.mk (blk_at hq_ BK253.out); have n2_ := Aside0.mk (blk_at hq_ BK260.out); have n3_ := Aside0.mk (blk_at hq_ BK261.out); have n4_ := Aside0.mk (blk_at hq_ BK268.out); have n5_ := Aside0.mk (blk_at hq_ BK269.out); have n6_ := Aside0.mk (below_at hq_ HB.out); clear hq_ HO_9 BK253 BK260 BK261 BK268 BK269 HB; have HO_9 := n0_; have BK253 := n1_; have BK260 := n2_; have BK261 := n3_; have BK268 := n4_; have BK269 := n5_; have HB := n6_; clear n0_ n1_ n2_ n3_ n4_ n5_ n6_)); refine store_event (t := 39) (p := 15) (v := ?vo_w43) (w1 := (((w37.setCell ⟨gb268, 0, none⟩ (.int .i64 t262)).setCell ⟨gb268, 1, none⟩ (.int .i64 t263)).setCell ⟨gb268, 2, none⟩ (.int .i64 t264))) ?hg ?ho ?hn ?hr ?_; (case ho => rfl); (case hg => rfl); (case hn => rfl); (case hr => first | (go_simp; done) | (go_simp; rfl)); intro w43 hw; have n0_ : Aside0 (Kd.R k39 39 w43 w.heap.size (fun k_ => k_ ≠ gb253 ∧ k_ ≠ gb260 ∧ k_ ≠ gb261 ∧ k_ ≠ gb268 ∧ k_ ≠ gb269) u9 x9_3) := ⟨(by rw [hw]; exact (by (with_reducible repeat (first | apply Kd.R_alloc | apply Kd.R_drewN | apply Kd.R_drew)); exact Kd.R_mono (Kd.R_far (p := ⟨gb268, 2, none⟩) (Kd.R_far (p := ⟨gb268, 1, none⟩) (Kd.R_far (p := ⟨gb268, 0, none⟩) (Kd.R_mono HO_9.out (fun k_ hk => (⟨hk, hk.1.2⟩ : _ ∧ k_ ≠ gb268))) (fun _ hk => hk.2) (.int .i64 t262)) (fun _ hk => hk.2) (.int .i64 t263)) (fun _ hk => hk.2) (.int .i64 t264)) (fun _ hk => ⟨hk.1.1.1.1.1.2, ⟨hk.1.1.1.1.2, ⟨hk.1.1.1.2, ⟨hk.1.1.2, hk.1.2⟩⟩⟩⟩)))⟩; have n1_ : Aside0 (w43.heap[gb253]? = some (.cells #[.int .i64 ((rd_T39 l0 x42_3).f0), .int .i64 ((rd_T39 l0 x42_3).f1), .int .i64 ((rd_T39 l0 x42_3).f2)] 39 (0, 0))) := ⟨(by rw [hw]; exact (by (with_reducible repeat (first | refine blk_drewN ?_ _ | refine blk_drew ?_ | refine blk_alloc ?_ _)); refine blk_far ?_ NB253_268.out _; (with_reducible repeat (first | refine blk_drewN ?_ _ | refine blk_drew ?_ | refine blk_alloc ?_ _)); refine blk_far ?_ NB253_268.out _; (with_reducible repeat (first | refine blk_drewN ?_ _ | refine blk_drew ?_ | refine blk_alloc ?_ _)); refine blk_far ?_ NB253_268.out _; (with_reducible repeat (first | refine blk_drewN ?_ _ | refine blk_drew ?_ | refine blk_alloc ?_ _)); exact BK253.out))⟩; have n2_ : Aside0 (w43.heap[gb260]? = some (.cells #[.int .i64 t254, .int .i64 t255, .int .i64 t256] 39 (0, 0))) := ⟨(by rw [hw]; exact (by (with_reducible repeat (first | refine blk_drewN ?_ _ | refine blk_drew ?_ | refine blk_alloc ?_ _)); refine blk_far ?_ NB260_268.out _; (with_reducible repeat (first | refine blk_drewN ?_ _ | refine blk_drew ?_ | refine blk_alloc ?_ _)); refine blk_far ?_ NB260_268.out _; (with_reducible repeat (first | refine blk_drewN ?_ _ | refine blk_drew ?_ | refine blk_alloc ?_ _)); refine blk_far ?_ NB260_268.out _; (with_reducible repeat (first | refine blk_drewN ?_ _ | refine blk_drew ?_ | refine blk_alloc ?_ _)); exact BK260.out))⟩; have n3_ : Aside0 (w43.heap[gb261]? = some (.cells #[.int .i64 t257, .int .i64 t258, .int .i64 t259] 39 (0, 0))) := ⟨(by rw [hw]; exact (by (with_reducible repeat (first | refine blk_drewN ?_ _ | refine blk_drew ?_ | refine blk_alloc ?_ _)); refine blk_far ?_ NB261_268.out _; (with_reducible repeat (first | refine blk_drewN ?_ _ | refine blk_drew ?_ | refine blk_alloc ?_ _)); refine blk_far ?_ NB261_268.out _; (with_reducible repeat (first | refine blk_drewN ?_ _ | refine blk_drew ?_ | refine blk_alloc ?_ _)); refine blk_far ?_ NB261_268.out _; (with_reducible repeat (first | refine blk_drewN ?_ _ | refine blk_drew ?_ | refine blk_alloc ?_ _)); exact BK261.out))⟩; have n4_ : Aside0 (w43.heap[gb268]? = some (.cells #[.int .i64 t262, .int .i64 t263, .int .i64 t264] 39 (0, 0))) := ⟨(by rw [hw]; exact (by (with_reducible repeat (first | refine blk_drewN ?_ _ | refine blk_drew ?_ | refine blk_alloc ?_ _)); refine blk_put (cs := #[.int .i64 t262, .int .i64 t263, .int .i64 0]) ?_ 2 _ rfl; (with_reducible repeat (first | refine blk_drewN ?_ _ | refine blk_drew ?_ | refine blk_alloc ?_ _)); refine blk_put (cs := #[.int .i64 t262, .int .i64 0, .int .i64 0]) ?_ 1 _ rfl; (with_reducible repeat (first | refine blk_drewN ?_ _ | refine blk_drew ?_ | refine blk_alloc ?_ _)); refine blk_put (cs := #[.int .i64 0, .int .i64 0, .int .i64 0]) ?_ 0 _ rfl; (with_reducible repeat (first | refine blk_drewN ?_ _ | refine blk_drew ?_ | refine blk_alloc ?_ _)); exact BK268.out))⟩; have n5_ : Aside0 (w43.heap[gb269]? = some (.cells #[.int .i64 0, .int .i64 0, .int .i64 0] 39 (0, 0))) := ⟨(by rw [hw]; exact (by (with_reducible repeat (first | refine blk_drewN ?_ _ | refine blk_drew ?_ | refine blk_alloc ?_ _)); refine blk_far ?_ NB269_268.out _; (with_reducible repeat (first | refine blk_drewN ?_ _ | refine blk_drew ?_ | refine blk_alloc ?_ _)); refine blk_far ?_ NB269_268.out _; (with_reducible repeat (first | refine blk_drewN ?_ _ | refine blk_drew ?_ | refine blk_alloc ?_ _)); refine blk_far ?_ NB269_268.out _; (with_reducible repeat (first | refine blk_drewN ?_ _ | refine blk_drew ?_ | refine blk_alloc ?_ _)); exact BK269.out))⟩; have n6_ : Aside0 (Below w.heap.size w w43) := ⟨(by rw [hw]; exact (by repeat (first | (with_reducible first | exact HB.out | apply below_alloc | apply pw_below_drewN | apply below_drew1 | refine below_set ?_ GE253.out | refine below_set ?_ GE260.out | refine below_set ?_ GE261.out | refine below_set ?_ GE268.out | refine below_set ?_ GE269.out) | exact HB.out)))⟩; clear hw; clear HO_9; clear BK253; clear BK260; clear BK261; clear BK268; clear BK269; clear HB; have HO_9 := n0_; have BK253 := n1_; have BK260 := n2_; have BK261 := n3_; have BK268 := n4_; have BK269 := n5_; have HB := n6_; clear n0_ n1_ n2_ n3_ n4_ n5_ n6_; have hnb44 := NB269_253.out; have hnc44 := NB253_269.out; have hnb45 := NB269_260.out; have hnc45 := NB260_269.out; have hnb46 := NB269_261.out; have hnc46 := NB261_269.out; have hcz47_0 : w43.cell? ⟨gb269, 0, none⟩ = some (.int .i64 0) := (blk_cell BK269.out 0).trans rfl; have hcz47_1 : w43.cell? ⟨gb269, 1, none⟩ = some (.int .i64 0) := (blk_cell BK269.out 1).trans rfl; have hcz47_2 : w43.cell? ⟨gb269, 2, none⟩ = some (.int .i64 0) := (blk_cell BK269.out 2).trans rfl; have hfz47_0 := blk_frozen BK269.out 0; have hfz47_1 := blk_frozen BK269.out 1; have hfz47_2 := blk_frozen BK269.out 2) | ((with_reducible refine gate_store (t := 39) (p := 16) rfl ?_); (try (rw [drewN_self w43]; generalize hq_ : World.drewN w43 _ = w43; have n0_ := Aside0.mk (Kd.R_at hq_ HO_9.out); have n1_ := Aside0.mk (blk_at hq_ BK253.out); have n2_ := Aside0.mk (blk_at hq_ BK260.out); have n3_ := Aside0.mk (blk_at hq_ BK261.out); have n4_ := Aside0.mk (blk_at hq_ BK268.out); have n5_ := Aside0.mk (blk_at hq_ BK269.out); have n6_ := Aside0.mk (below_at hq_ HB.out); clear hq_ HO_9 BK253 BK260 BK261 BK268 BK269 HB; have HO_9 := n0_; have BK253 := n1_; have BK260 := n2_; have BK261 := n3_; have BK268 := n4_; have BK269 := n5_; have HB := n6_; clear n0_ n1_ n2_ n3_ n4_ n5_ n6_)); refine store_event (t := 39) (p := 16) (v := ?vo_w48) (w1 := (((w43.setCell ⟨gb269, 0, none⟩ (.int .i64 t265)).setCell ⟨gb269, 1, none⟩ (.int .i64 t266)).setCell ⟨gb269, 2, none⟩ (.int .i64 t267))) ?hg ?ho ?hn ?hr ?_; (case ho => rfl); (case hg => rfl); (case hn => rfl); (case hr => first | (go_simp; done) | (go_simp; rfl)); intro w48 hw; have n0_ : Aside0 (Kd.R k39 39 w48 w.heap.size (fun k_ => k_ ≠ gb253 ∧ k_ ≠ gb260 ∧ k_ ≠ gb261 ∧ k_ ≠ gb268 ∧ k_ ≠ gb269) u9 x9_3) := ⟨(by rw [hw]; exact (by (with_reducible repeat (first | apply Kd.R_alloc | apply Kd.R_drewN | apply Kd.R_drew)); exact Kd.R_mono (Kd.R_far (p := ⟨gb269, 2, none⟩) (Kd.R_far (p := ⟨gb269, 1, none⟩) (Kd.R_far (p := ⟨gb269, 0, none⟩) (Kd.R_mono HO_9.out (fun k_ hk => (⟨hk, hk.2.2.2.2⟩ : _ ∧ k_ ≠ gb269))) (fun _ hk => hk.2) (.int .i64 t265)) (fun _ hk => hk.2) (.int .i64 t266)) (fun _ hk => hk.2) (.int .i64 t267)) (fun _ hk => ⟨hk.1.1, ⟨hk.1.2.1, ⟨hk.1.2.2.1, ⟨hk.1.2.2.2.1, hk.1.2.2.2.2⟩⟩⟩⟩)))⟩; have n1_ : Aside0 (w48.heap[gb253]? = some (.cells #[.int .i64 ((rd_T39 l0 x42_3).f0), .int .i64 ((rd_T39 l0 x42_3).f1), .int .i64 ((rd_T39 l0 x42_3).f2)] 39 (0, 0))) := ⟨(by rw [hw]; exact (by (with_reducible repeat (first | refine blk_drewN ?_ _ | refine blk_drew ?_ | refine blk_alloc ?_ _)); refine blk_far ?_ NB253_269.out _; (with_reducible repeat (first | refine blk_drewN ?_ _ | refine blk_drew ?_ | refine blk_alloc ?_ _)); refine blk_far ?_ NB253_269.out _; (with_reducible repeat (first | refine blk_drewN ?_ _ | refine blk_drew ?_ | refine blk_alloc ?_ _)); refine blk_far ?_ NB253_269.out _; (with_reducible repeat (first | refine blk_drewN ?_ _ | refine blk_drew ?_ | refine blk_alloc ?_ _)); exact BK253.out))⟩; have n2_ : Aside0 (w48.heap[gb260]? = some (.cells #[.int .i64 t254, .int .i64 t255, .int .i64 t256] 39 (0, 0))) := ⟨(by rw [hw]; exact (by (with_reducible repeat (first | refine blk_drewN ?_ _ | refine blk_drew ?_ | refine blk_alloc ?_ _)); refine blk_far ?_ NB260_269.out _; (with_reducible repeat (first | refine blk_drewN ?_ _ | refine blk_drew ?_ | refine blk_alloc ?_ _)); refine blk_far ?_ NB260_269.out _; (with_reducible repeat (first | refine blk_drewN ?_ _ | refine blk_drew ?_ | refine blk_alloc ?_ _)); refine blk_far ?_ NB260_269.out _; (with_reducible repeat (first | refine blk_drewN ?_ _ | refine blk_drew ?_ | refine blk_alloc ?_ _)); exact BK260.out))⟩; have n3_ : Aside0 (w48.heap[gb261]? = some (.cells #[.int .i64 t257, .int .i64 t258, .int .i64 t259] 39 (0, 0))) := ⟨(by rw [hw]; exact (by (with_reducible repeat (first | refine blk_drewN ?_ _ | refine blk_drew ?_ | refine blk_alloc ?_ _)); refine blk_far ?_ NB261_269.out _; (with_reducible repeat (first | refine blk_drewN ?_ _ | refine blk_drew ?_ | refine blk_alloc ?_ _)); refine blk_far ?_ NB261_269.out _; (with_reducible repeat (first | refine blk_drewN ?_ _ | refine blk_drew ?_ | refine blk_alloc ?_ _)); refine blk_far ?_ NB261_269.out _; (with_reducible repeat (first | refine blk_drewN ?_ _ | refine blk_drew ?_ | refine blk_alloc ?_ _)); exact BK261.out))⟩; have n4_ : Aside0 (w48.heap[gb268]? = some (.cells #[.int .i64 t262, .int .i64 t263, .int .i64 t264] 39 (0, 0))) := ⟨(by rw [hw]; exact (by (with_reducible repeat (first | refine blk_drewN ?_ _ | refine blk_drew ?_ | refine blk_alloc ?_ _)); refine blk_far ?_ NB268_269.out _; (with_reducible repeat (first | refine blk_drewN ?_ _ | refine blk_drew ?_ | refine blk_alloc ?_ _)); refine blk_far ?_ NB268_269.out _; (with_reducible repeat (first | refine blk_drewN ?_ _ | refine blk_drew ?_ | refine blk_alloc ?_ _)); refine blk_far ?_ NB268_269.out _; (with_reducible repeat (first | refine blk_drewN ?_ _ | refine blk_drew ?_ | refine blk_alloc ?_ _)); exact BK268.out))⟩; have n5_ : Aside0 (w48.heap[gb269]? = some (.cells #[.int .i64 t265, .int .i64 t266, .int .i64 t267] 39 (0, 0))) := ⟨(by rw [hw]; exact (by (with_reducible repeat (first | refine blk_drewN ?_ _ | refine blk_drew ?_ | refine blk_alloc ?_ _)); refine blk_put (cs := #[.int .i64 t265, .int .i64 t266, .int .i64 0]) ?_ 2 _ rfl; (with_reducible repeat (first | refine blk_drewN ?_ _ | refine blk_drew ?_ | refine blk_alloc ?_ _)); refine blk_put (cs := #[.int .i64 t265, .int .i64 0, .int .i64 0]) ?_ 1 _ rfl; (with_reducible repeat (first | refine blk_drewN ?_ _ | refine blk_drew ?_ | refine blk_alloc ?_ _)); refine blk_put (cs := #[.int .i64 0, .int .i64 0, .int .i64 0]) ?_ 0 _ rfl; (with_reducible repeat (first | refine blk_drewN ?_ _ | refine blk_drew ?_ | refine blk_alloc ?_ _)); exact BK269.out))⟩; have n6_ : Aside0 (Below w.heap.size w w48) := ⟨(by rw [hw]; exact (by repeat (first | (with_reducible first | exact HB.out | apply below_alloc | apply pw_below_drewN | apply below_drew1 | refine below_set ?_ GE253.out | refine below_set ?_ GE260.out | refine below_set ?_ GE261.out | refine below_set ?_ GE268.out | refine below_set ?_ GE269.out) | exact HB.out)))⟩; clear hw; clear HO_9; clear BK253; clear BK260; clear BK261; clear BK268; clear BK269; clear HB; have HO_9 := n0_; have BK253 := n1_; have BK260 := n2_; have BK261 := n3_; have BK268 := n4_; have BK269 := n5_; have HB := n6_; clear n0_ n1_ n2_ n3_ n4_ n5_ n6_; have hcz49_0 : w48.cell? ⟨gb268, 0, none⟩ = some (.int .i64 t262) := (blk_cell BK268.out 0).trans rfl; have hcz49_1 : w48.cell? ⟨gb268, 1, none⟩ = some (.int .i64 t263) := (blk_cell BK268.out 1).trans rfl; have hcz49_2 : w48.cell? ⟨gb268, 2, none⟩ = some (.int .i64 t264) := (blk_cell BK268.out 2).trans rfl; have hfz49_0 := blk_frozen BK268.out 0; have hfz49_1 := blk_frozen BK268.out 1; have hfz49_2 := blk_frozen BK268.out 2; obtain ⟨Ao50, co50, eo50⟩ := Kd.R_slice HO_9.out; subst eo50) | (go_at_call 51; (with_reducible refine (lots_some.calls (fun k_ => some k_ = (.slice Ao50 x9_3.length co50 : Value).ownBlock) (.slice Ao50 x9_3.length co50) x9_3 t262 t263 t264 t270 w _ ?side1 ?side2 A24.out).mono ?_); (case side1 => repeat (first | (with_reducible first | exact HB.out | apply below_alloc | apply pw_below_drewN | apply below_drew1 | refine below_set ?_ GE253.out | refine below_set ?_ GE260.out | refine below_set ?_ GE261.out | refine below_set ?_ GE268.out | refine below_set ?_ GE269.out) | exact HB.out)); (case side2 => exact Kd.R_tight rfl HO_9.out); rintro e w51 ⟨v271, rfl, ho0, hb, hkp⟩; have n0_ := Aside0.mk (blk_kept (kb BK253.out) hkp (fun hs_ => (fun e_ => (Kd.R_away HO_9.out (fun _ hk => hk.1)) e_) hs_)); have n1_ := Aside0.mk (blk_kept (kb BK260.out) hkp (fun hs_ => (fun e_ => (Kd.R_away HO_9.out (fun _ hk => hk.2.1)) e_) hs_)); have n2_ := Aside0.mk (blk_kept (kb BK261.out) hkp (fun hs_ => (fun e_ => (Kd.R_away HO_9.out (fun _ hk => hk.2.2.1)) e_) hs_)); have n3_ := Aside0.mk (blk_kept (kb BK268.out) hkp (fun hs_ => (fun e_ => (Kd.R_away HO_9.out (fun _ hk => hk.2.2.2.1)) e_) hs_)); have n4_ := Aside0.mk (blk_kept (kb BK269.out) hkp (fun hs_ => (fun e_ => (Kd.R_away HO_9.out (fun _ hk => hk.2.2.2.2)) e_) hs_)); have n5_ := Aside0.mk (Kd.R_mono (ok' := fun k_ => k_ ≠ gb253 ∧ k_ ≠ gb260 ∧ k_ ≠ gb261 ∧ k_ ≠ gb268 ∧ k_ ≠ gb269) ho0 (fun k_ hk_ => ⟨Or.elim hk_ (fun hs_ => fun e_ => (Kd.R_away HO_9.out (fun _ hk => hk.1)) (by rw [← e_]; exact hs_)) (fun hn_ => (Kd.freshB (g := gb253) (o := .cells #[.int .i64 ((rd_T39 l0 x42_3).f0), .int .i64 ((rd_T39 l0 x42_3).f1), .int .i64 ((rd_T39 l0 x42_3).f2)] 39 (0, 0)) (kb BK253.out) k_ hn_)), Or.elim hk_ (fun hs_ => fun e_ => (Kd.R_away HO_9.out (fun _ hk => hk.2.1)) (by rw [← e_]; exact hs_)) (fun hn_ => (Kd.freshB (g := gb260) (o := .cells #[.int .i64 t254, .int .i64 t255, .int .i64 t256] 39 (0, 0)) (kb BK260.out) k_ hn_)), Or.elim hk_ (fun hs_ => fun e_ => (Kd.R_away HO_9.out (fun _ hk => hk.2.2.1)) (by rw [← e_]; exact hs_)) (fun hn_ => (Kd.freshB (g := gb261) (o := .cells #[.int .i64 t257, .int .i64 t258, .int .i64 t259] 39 (0, 0)) (kb BK261.out) k_ hn_)), Or.elim hk_ (fun hs_ => fun e_ => (Kd.R_away HO_9.out (fun _ hk => hk.2.2.2.1)) (by rw [← e_]; exact hs_)) (fun hn_ => (Kd.freshB (g := gb268) (o := .cells #[.int .i64 t262, .int .i64 t263, .int .i64 t264] 39 (0, 0)) (kb BK268.out) k_ hn_)), Or.elim hk_ (fun hs_ => fun e_ => (Kd.R_away HO_9.out (fun _ hk => hk.2.2.2.2)) (by rw [← e_]; exact hs_)) (fun hn_ => (Kd.freshB (g := gb269) (o := .cells #[.int .i64 t265, .int .i64 t266, .int .i64 t267] 39 (0, 0)) (kb BK269.out) k_ hn_))⟩)); have n6_ := Aside0.mk (hb); clear BK253; clear BK260; clear BK261; clear BK268; clear BK269; clear HB; clear HO_9; have BK253 := n0_; have BK260 := n1_; have BK261 := n2_; have BK268 := n3_; have BK269 := n4_; have HO272 := n5_; have HB := n6_; clear n0_ n1_ n2_ n3_ n4_ n5_ n6_; (try clear hb); (try clear hkp); (try clear ho0)))
            repeat (go_quiet (fail); try go_wp2_with (first | (go_at_call 51; (with_reducible refine (lots_some.calls (fun k_ => some k_ = (.slice Ao50 x9_3.length co50 : Value).ownBlock) (.slice Ao50 x9_3.length co50) x9_3 t262 t263 t264 t270 w _ ?side1 ?side2 A24.out).mono ?_); (case side1 => repeat (first | (with_reducible first | exact HB.out | apply below_alloc | apply pw_below_drewN | apply below_drew1 | refine below_set ?_ GE253.out | refine below_set ?_ GE260.out | refine below_set ?_ GE261.out | refine below_set ?_ GE268.out | refine below_set ?_ GE269.out) | exact HB.out)); (case side2 => exact Kd.R_tight rfl HO_9.out); rintro e w51 ⟨v271, rfl, ho0, hb, hkp⟩; have n0_ := Aside0.mk (blk_kept (kb BK253.out) hkp (fun hs_ => (fun e_ => (Kd.R_away HO_9.out (fun _ hk => hk.1)) e_) hs_)); have n1_ := Aside0.mk (blk_kept (kb BK260.out) hkp (fun hs_ => (fun e_ => (Kd.R_away HO_9.out (fun _ hk => hk.2.1)) e_) hs_)); have n2_ := Aside0.mk (blk_kept (kb BK261.out) hkp (fun hs_ => (fun e_ => (Kd.R_away HO_9.out (fun _ hk => hk.2.2.1)) e_) hs_)); have n3_ := Aside0.mk (blk_kept (kb BK268.out) hkp (fun hs_ => (fun e_ => (Kd.R_away HO_9.out (fun _ hk => hk.2.2.2.1)) e_) hs_)); have n4_ := Aside0.mk (blk_kept (kb BK269.out) hkp (fun hs_ => (fun e_ => (Kd.R_away HO_9.out (fun _ hk => hk.2.2.2.2)) e_) hs_)); have n5_ := Aside0.mk (Kd.R_mono (ok' := fun k_ => k_ ≠ gb253 ∧ k_ ≠ gb260 ∧ k_ ≠ gb261 ∧ k_ ≠ gb268 ∧ k_ ≠ gb269) ho0 (fun k_ hk_ => ⟨Or.elim hk_ (fun hs_ => fun e_ => (Kd.R_away HO_9.out (fun _ hk => hk.1)) (by rw [← e_]; exact hs_)) (fun hn_ => (Kd.freshB (g := gb253) (o := .cells #[.int .i64 ((rd_T39 l0 x42_3).f0), .int .i64 ((rd_T39 l0 x42_3).f1), .int .i64 ((rd_T39 l0 x42_3).f2)] 39 (0, 0)) (kb BK253.out) k_ hn_)), Or.elim hk_ (fun hs_ => fun e_ => (Kd.R_away HO_9.out (fun _ hk => hk.2.1)) (by rw [← e_]; exact hs_)) (fun hn_ => (Kd.freshB (g := gb260) (o := .cells #[.int .i64 t254, .int .i64 t255, .int .i64 t256] 39 (0, 0)) (kb BK260.out) k_ hn_)), Or.elim hk_ (fun hs_ => fun e_ => (Kd.R_away HO_9.out (fun _ hk => hk.2.2.1)) (by rw [← e_]; exact hs_)) (fun hn_ => (Kd.freshB (g := gb261) (o := .cells #[.int .i64 t257, .int .i64 t258, .int .i64 t259] 39 (0, 0)) (kb BK261.out) k_ hn_)), Or.elim hk_ (fun hs_ => fun e_ => (Kd.R_away HO_9.out (fun _ hk => hk.2.2.2.1)) (by rw [← e_]; exact hs_)) (fun hn_ => (Kd.freshB (g := gb268) (o := .cells #[.int .i64 t262, .int .i64 t263, .int .i64 t264] 39 (0, 0)) (kb BK268.out) k_ hn_)), Or.elim hk_ (fun hs_ => fun e_ => (Kd.R_away HO_9.out (fun _ hk => hk.2.2.2.2)) (by rw [← e_]; exact hs_)) (fun hn_ => (Kd.freshB (g := gb269) (o := .cells #[.int .i64 t265, .int .i64 t266, .int .i64 t267] 39 (0, 0)) (kb BK269.out) k_ hn_))⟩)); have n6_ := Aside0.mk (hb); clear BK253; clear BK260; clear BK261; clear BK268; clear BK269; clear HB; clear HO_9; have BK253 := n0_; have BK260 := n1_; have BK261 := n2_; have BK268 := n3_; have BK269 := n4_; have HO272 := n5_; have HB := n6_; clear n0_ n1_ n2_ n3_ n4_ n5_ n6_; (try clear hb); (try clear hkp); (try clear ho0))))
            go_roundg k3
            case measure => have := HJ3.out; have := HJ12.out; have := HK3.out; omega
            case rel => exact ⟨(wrap64 (x1_3 - (ji20))), (wrap64 (x2_3 - t264)), (t270), (wrap64 (x42_3 + 1)), (by first | rfl | (simp only [i64_w]; done) | (simp; done) | (simp only [← hji20] <;> (first | rfl | (simp only [i64_w]; done) | simp)) | (simp [*]; done)), eqs, eqs, H', ⟨by have := HJ3.out; have := HJ12.out; have := HK3.out; omega⟩, ⟨by (with_reducible repeat (first | apply Kd.R_alloc | apply Kd.R_drewN | apply Kd.R_drew)); exact Kd.R_mono HO272.out (fun _ hk => trivial)⟩, ⟨by repeat (first | (with_reducible first | exact HB.out | apply below_alloc | apply pw_below_drewN | apply below_drew1 | refine below_set ?_ GE253.out | refine below_set ?_ GE260.out | refine below_set ?_ GE261.out | refine below_set ?_ GE268.out | refine below_set ?_ GE269.out) | exact HB.out)⟩⟩
           ·rw [if_neg c19] at H
            exact absurd H (by simp)
          ·rw [if_neg c18] at H
           exact absurd H (by simp)
         ·rw [if_neg c17] at H
          have c17b0 : decide (x42_3 < (l0.length : Int)) = false := decide_eq_false c17
          clear c17
          simp only [Option.some.injEq, Prod.mk.injEq] at H
          obtain ⟨rfl, rfl⟩ := H
          go_wp2
          repeat (go_quiet (fail); try go_wp2)
          go_ret2
          exact ⟨_, by first | rfl | (simp [errW_none, errW_some] <;> rfl) | (simp [*, errW_none, errW_some] <;> rfl), kr HO_9.out, bw⟩
-- NOT PRINTED: function 79 (lots_pieces)
-- NOT PRINTED: function 102 (api_Lot_102)
-- NOT PRINTED: function 114 (api_Lot_114)
-- NOT PRINTED: function 103 (api_Lot_103)
-- NOT PRINTED: function 110 (bits_Len32)
-- NOT PRINTED: function 98 (bits_Len)
-- NOT PRINTED: function 115 (slices_nextPowerOfTwo)
-- NOT PRINTED: function 116 (slices_xorshift_Next)
-- NOT PRINTED: function 104 (api_Lot_104)
-- NOT PRINTED: function 120 (api_Lot_120)
-- NOT PRINTED: function 118 (api_Lot_118)
-- NOT PRINTED: function 117 (api_Lot_117)
-- NOT PRINTED: function 105 (api_Lot_105)
-- NOT PRINTED: function 106 (api_Lot_106)
-- NOT PRINTED: function 107 (api_Lot_107)
-- NOT PRINTED: function 108 (api_Lot_108)
-- NOT PRINTED: function 109 (api_Lot_109)
-- NOT PRINTED: function 97 (api_Lot_97)
end Go.Proofs.Ytcicjbgfahdejaa.P
