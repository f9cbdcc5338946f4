/- Written by a program of this session out of the translation: functions told as plain Lean, each with the walk that shows it. -/
import Derived.Test.YtcicjbgfahdejaaPx0
import Derived.Test.YtcicjbgfahdejaaPx3
import Derived.Test.YtcicjbgfahdejaaPx4
import Derived.Test.YtcicjbgfahdejaaPx6
namespace Go.Proofs.Ytcicjbgfahdejaa.P
open Go.RowKit Go.Proofs.YtcicjbgfahdejaaW.PrintWords Go.Proofs.YtcicjbgfahdejaaW.PrintLast Go.Proofs.YtcicjbgfahdejaaW.PrintMore
attribute [local go_sem] max2_int min2_int max_two min_two max_three min_three max_four min_four   -- for this text's walks alone
set_option linter.unusedVariables false
set_option linter.unusedSimpArgs false

/-! ### worldmintref14_Slice: function 21 -/
mutual
def worldmintref14_Slice.j0 : Nat → List (S39) → Int → Int → Bool → Option ((List (S39)) × Int)
 | 0, _, _, _, _ => none
 | k + 1, x0, x1, x2, x26 => if x26 = true then (some (([] : List (S39)), 1)) else ((worldmintref14_Total.f k x0).bind fun t300 => (if x1 > t300 then (worldmintref14_Slice.j1 k x0 x1 x2 true) else (worldmintref14_Slice.j1 k x0 x1 x2 (decide (x2 > (wrap64 (t300 - x1)))))))
def worldmintref14_Slice.j1 : Nat → List (S39) → Int → Int → Bool → Option ((List (S39)) × Int)
 | 0, _, _, _, _ => none
 | k + 1, x0, x1, x2, x38 => if x38 = true then (some (([] : List (S39)), 5)) else (worldmintref14_Slice.l0 k x0 x1 x2 ([] : List (S39)) 0 0)
def worldmintref14_Slice.l0 : Nat → List (S39) → Int → Int → List (S39) → Int → Int → Option ((List (S39)) × Int)
 | 0, _, _, _, _, _, _ => none
 | k + 1, x0, x1, x2, x10, x11, x12 => if x12 < (x0.length : Int) then (if 0 ≤ x12 then (if (mx x1 x11) < (mn (wrap64 (x1 + x2)) (wrap64 (x11 + ((rd_T39 x0 x12).f2)))) then ((worldmintref14_Add.f k x10 ((rd_T39 x0 x12).f0) (wrap64 ((wrap64 (((rd_T39 x0 x12).f1) + (mx x1 x11))) - x11)) (wrap64 ((mn (wrap64 (x1 + x2)) (wrap64 (x11 + ((rd_T39 x0 x12).f2)))) - (mx x1 x11)))).bind fun t304 => (worldmintref14_Slice.l0 k x0 x1 x2 t304 (wrap64 (x11 + ((rd_T39 x0 x12).f2))) (wrap64 (x12 + 1)))) else (worldmintref14_Slice.l0 k x0 x1 x2 x10 (wrap64 (x11 + ((rd_T39 x0 x12).f2))) (wrap64 (x12 + 1)))) else (none)) else (some (x10, 0))
end
def worldmintref14_Slice.f (k : Nat) (l0 : List (S39)) (a1 : Int) (a2 : Int) : Option ((List (S39)) × Int) := (worldmintref14_Valid.f k l0).bind fun t299 => (if t299 = true then (if a1 < 0 then (worldmintref14_Slice.j0 k l0 a1 a2 true) else (worldmintref14_Slice.j0 k l0 a1 a2 (decide (a2 < 0)))) else (worldmintref14_Slice.j0 k l0 a1 a2 true))
def worldmintref14_Slice.T15 : Bool × List (List Nat × List Nat) := (true, [([], []), ([], []), ([], []), ([1, 2], [1, 2]), ([3], [3]), ([4], [4]), ([], []), ([], []), ([6, 7], [6, 7]), ([8], [8]), ([9], [9]), ([], []), ([10, 11], [10, 11]), ([], []), ([12, 13], [12, 13]), ([], []), ([], []), ([15, 16], [15, 16]), ([5, 14, 17], [5, 14, 17]), ([0, 18], [0, 18]), ([19, 19, 0, 1, 2, 3, 4, 5, 6, 7, 8, 9, 10, 11, 12, 13, 14, 15, 16, 17, 18, 19], [0, 19])])
def worldmintref14_Slice.B15 : List Nat := [0, 0, 0, 6, 14, 30, 0, 0, 192, 448, 960, 0, 4032, 0, 16320, 0, 0, 98304, 262142, 524287, 1048575]
theorem worldmintref14_Slice.tab15 : rtab .any (opsOf Try.f21 15) = worldmintref14_Slice.T15 := by kernel_rfl
theorem worldmintref14_Slice.bits15 : waitsOk worldmintref14_Slice.T15.2 worldmintref14_Slice.B15 = true := by kernel_rfl
set_option maxHeartbeats 8000000 in
set_option maxRecDepth 100000 in
theorem worldmintref14_Slice.calls (k : Nat) (A0 : Option Addr) (c0 : Nat) (l0 : List (S39)) (a1 : Int) (a2 : Int) (r1 : List (S39)) (r2 : Int) (w : World) (hr0 : Kd.C k39 w A0 l0.length l0) (hc0 : l0.length ≤ c0) (h : worldmintref14_Slice.f k l0 a1 a2 = some (r1, r2)) :
  Calls Try.prog 21 #[.slice A0 l0.length c0, .int .i64 a1, .int .i64 a2] w fun e w' => ∃ v0_ : Value, e = .returned (.tuple #[v0_, .int .i64 r2]) ∧ Kd.R k39 39 w' w.heap.size (fun _ => True) v0_ r1 ∧ Below w.heap.size w w' := by
 have hu39 := Try.underlying39
 have HR0 := Aside0.mk hr0
 have HC0 := Aside0.mk hc0
 clear hr0 hc0
 have HB := Aside0.mk (Below.refl w.heap.size w)
 have H : ((worldmintref14_Valid.f k l0).bind fun t299 => (if t299 = true then (if a1 < 0 then (worldmintref14_Slice.j0 k l0 a1 a2 true) else (worldmintref14_Slice.j0 k l0 a1 a2 (decide (a2 < 0)))) else (worldmintref14_Slice.j0 k l0 a1 a2 true))) = some (r1, r2) := h
 clear h
 replace H := Option.bind_eq_some_iff.mp H
 obtain ⟨t299, A40, H⟩ := H
 replace H : (if t299 = true then (if a1 < 0 then (worldmintref14_Slice.j0 k l0 a1 a2 true) else (worldmintref14_Slice.j0 k l0 a1 a2 (decide (a2 < 0)))) else (worldmintref14_Slice.j0 k l0 a1 a2 true)) = some (r1, r2) := H
 have A4 := Aside0.mk A40
 clear A40
 have HC5 := Aside0.mk H
 clear H
 go_enter Try.func21, Try.ntmps21
 go_upto_region 2 with (first | ((with_reducible refine gate_callee (f := 23) rfl ?_); refine goesL_ (some 16) rfl rfl Try.func23 (by kernel_rfl) rfl #[.slice A0 l0.length c0] rfl (by (try simp only [List.map_toArray, List.map_cons, List.map_nil]); first | done | rfl | (simp only [List.length_drop, List.length_take]; rfl)) ?_; (with_reducible refine (worldmintref14_Valid.calls k _ _ l0 t299 _ ?side1 ?side2 A4.out).mono ?_); (case side1 => repeat (first | exact HR0.out | (with_reducible refine Kd.C_alloc ?_ _) | (with_reducible refine Kd.C_drewN ?_ _) | (with_reducible refine Kd.C_drew ?_))); (case side2 => exact HC0.out); rintro e w6 ⟨rfl, hb⟩; refine ⟨_, rfl, ?_⟩; have n0_ := Aside0.mk (below_step (bw) hb); clear HB; have HB := n0_; clear n0_; (try clear hb); (try clear hb2); (try clear hk); (try clear hi)))
 (try simp only [Act.put, List.setIfInBounds_toArray, List.set_cons_zero, List.set_cons_succ])
 go_cut [26] (fun v26 wc => ∃ (kq : Nat) (x26_4 : Bool), v26 = .bool x26_4 ∧ Aside0 (worldmintref14_Slice.j0 kq l0 a1 a2 x26_4 = some (r1, r2)) ∧ Aside0 (kq ≤ k) ∧ Aside0 (Below w.heap.size w wc))
 case first =>
  have H := HC5.out
  clear HC5
  by_cases c7 : t299 = true
  ·subst c7
   have H1 : (if a1 < 0 then (worldmintref14_Slice.j0 k l0 a1 a2 true) else (worldmintref14_Slice.j0 k l0 a1 a2 (decide (a2 < 0)))) = some (r1, r2) := by rw [if_pos rfl] at H; exact H
   clear H
   have H := H1
   clear H1
   by_cases c8 : a1 < 0
   ·rw [if_pos c8] at H
    have c8b0 : decide (a1 < 0) = true := decide_eq_true c8
    clear c8
    (first | rw [c8b0] | (simp only [i64_w, i32_w]; rw [c8b0]) | skip)
    have H' := Aside0.mk H
    clear H
    go_wp2
    go_meet
    case rel => exact ⟨_, (true), eqs, H', ⟨by first | omega | exact Nat.le_refl _⟩, ⟨bw⟩⟩
   ·rw [if_neg c8] at H
    have c8b0 : decide (a1 < 0) = false := decide_eq_false c8
    clear c8
    (first | rw [c8b0] | (simp only [i64_w, i32_w]; rw [c8b0]) | skip)
    have H' := Aside0.mk H
    clear H
    go_wp2
    go_meet
    case rel => exact ⟨_, (decide (a2 < 0)), eqs, H', ⟨by first | omega | exact Nat.le_refl _⟩, ⟨bw⟩⟩
  ·replace c7 := Bool.eq_false_iff.mpr c7
   subst c7
   have H1 : (worldmintref14_Slice.j0 k l0 a1 a2 true) = some (r1, r2) := by rw [if_neg (show ¬ (false = true) by decide)] at H; exact H
   clear H
   have H := H1
   clear H1
   have H' := Aside0.mk H
   clear H
   go_wp2
   go_meet
   case rel => exact ⟨_, (true), eqs, H', ⟨by first | omega | exact Nat.le_refl _⟩, ⟨bw⟩⟩
 case rest =>
  clear HC5
  try clear c7
  try clear c8
  try clear c8b0
  obtain ⟨kq, x26_4, rfl, HA, HJ4, HB⟩ := hcut
  cases kq with
  | zero => exact absurd HA.out (by simp [worldmintref14_Slice.j0])
  | succ kj4 =>
   have H := HA.out
   clear HA
   simp only [worldmintref14_Slice.j0] at H
   by_cases c9 : x26_4 = true
   ·subst c9
    have H1 : (some (([] : List (S39)), 1)) = some (r1, r2) := by rw [if_pos rfl] at H; exact H
    clear H
    have H := H1
    clear H1
    simp only [Option.some.injEq, Prod.mk.injEq] at H
    obtain ⟨rfl, rfl⟩ := H
    go_wp2
    go_ret2
    exact ⟨_, by first | rfl | (simp [errW_none, errW_some] <;> rfl) | (simp [*, errW_none, errW_some] <;> rfl), by first | exact Kd.R_nil _ _ _ _ _ | exact Kd.N_nil _ _ _ _ _ | exact Kd.V_nil _ _ _ _ _ | exact Kd.Q_nil _ _ _ _ _ | exact Kd.S_nil _ _ _ _ _, bw⟩
   ·replace c9 := Bool.eq_false_iff.mpr c9
    subst c9
    have H1 : ((worldmintref14_Total.f kj4 l0).bind fun t300 => (if a1 > t300 then (worldmintref14_Slice.j1 kj4 l0 a1 a2 true) else (worldmintref14_Slice.j1 kj4 l0 a1 a2 (decide (a2 > (wrap64 (t300 - a1))))))) = some (r1, r2) := by rw [if_neg (show ¬ (false = true) by decide)] at H; exact H
    clear H
    have H := H1
    clear H1
    replace H := Option.bind_eq_some_iff.mp H
    obtain ⟨t300, A100, H⟩ := H
    replace H : (if a1 > t300 then (worldmintref14_Slice.j1 kj4 l0 a1 a2 true) else (worldmintref14_Slice.j1 kj4 l0 a1 a2 (decide (a2 > (wrap64 (t300 - a1)))))) = some (r1, r2) := H
    have A10 := Aside0.mk A100
    clear A100
    have HC11 := Aside0.mk H
    clear H
    go_upto_region 5 with (first | ((with_reducible refine gate_callee (f := 15) rfl ?_); refine goesL_ (some 28) rfl rfl Try.func15 (by kernel_rfl) rfl #[.slice A0 l0.length c0] rfl (by (try simp only [List.map_toArray, List.map_cons, List.map_nil]); first | done | rfl | (simp only [List.length_drop, List.length_take]; rfl)) ?_; (with_reducible refine (worldmintref14_Total.calls kj4 _ _ l0 t300 _ ?side1 ?side2 A10.out).mono ?_); (case side1 => repeat (first | exact (Kd.C_below HR0.out HB.out) | (with_reducible refine Kd.C_alloc ?_ _) | (with_reducible refine Kd.C_drewN ?_ _) | (with_reducible refine Kd.C_drew ?_))); (case side2 => exact HC0.out); rintro e w12 ⟨rfl, hb⟩; refine ⟨_, rfl, ?_⟩; have n0_ := Aside0.mk (below_step (bw) hb); clear HB; have HB := n0_; clear n0_; (try clear hb); (try clear hb2); (try clear hk); (try clear hi)))
    (try simp only [Act.put, List.setIfInBounds_toArray, List.set_cons_zero, List.set_cons_succ])
    go_cut [38] (fun v38 wc => ∃ (kq : Nat) (x38_10 : Bool), v38 = .bool x38_10 ∧ Aside0 (worldmintref14_Slice.j1 kq l0 a1 a2 x38_10 = some (r1, r2)) ∧ Aside0 (kq ≤ kj4) ∧ Aside0 (Below w.heap.size w wc))
    case first =>
     have H := HC11.out
     clear HC11
     by_cases c13 : a1 > t300
     ·rw [if_pos c13] at H
      have c13b0 : decide (t300 < a1) = true := decide_eq_true c13
      clear c13
      (first | rw [c13b0] | (simp only [i64_w, i32_w]; rw [c13b0]) | skip)
      have H' := Aside0.mk H
      clear H
      go_wp2
      go_meet
      case rel => exact ⟨_, (true), eqs, H', ⟨by have := HJ4.out; first | omega | exact Nat.le_refl _⟩, ⟨bw⟩⟩
     ·rw [if_neg c13] at H
      have c13b0 : decide (t300 < a1) = false := decide_eq_false c13
      clear c13
      (first | rw [c13b0] | (simp only [i64_w, i32_w]; rw [c13b0]) | skip)
      have H' := Aside0.mk H
      clear H
      go_wp2
      go_meet
      case rel => exact ⟨_, (decide (a2 > (wrap64 (t300 - a1)))), eqs, H', ⟨by have := HJ4.out; first | omega | exact Nat.le_refl _⟩, ⟨bw⟩⟩
    case rest =>
     clear HC11
     try clear c7
     try clear c8
     try clear c8b0
     try clear c9
     try clear c13
     try clear c13b0
     obtain ⟨kq, x38_10, rfl, HA, HJ10, HB⟩ := hcut
     cases kq with
     | zero => exact absurd HA.out (by simp [worldmintref14_Slice.j1])
     | succ kj10 =>
      have H := HA.out
      clear HA
      simp only [worldmintref14_Slice.j1] at H
      by_cases c14 : x38_10 = true
      ·subst c14
       have H1 : (some (([] : List (S39)), 5)) = some (r1, r2) := by rw [if_pos rfl] at H; exact H
       clear H
       have H := H1
       clear H1
       simp only [Option.some.injEq, Prod.mk.injEq] at H
       obtain ⟨rfl, rfl⟩ := H
       go_wp2
       go_ret2
       exact ⟨_, by first | rfl | (simp [errW_none, errW_some] <;> rfl) | (simp [*, errW_none, errW_some] <;> rfl), by first | exact Kd.R_nil _ _ _ _ _ | exact Kd.N_nil _ _ _ _ _ | exact Kd.V_nil _ _ _ _ _ | exact Kd.Q_nil _ _ _ _ _ | exact Kd.S_nil _ _ _ _ _, bw⟩
      ·replace c14 := Bool.eq_false_iff.mpr c14
       subst c14
       have H1 : (worldmintref14_Slice.l0 kj10 l0 a1 a2 ([] : List (S39)) 0 0) = some (r1, r2) := by rw [if_neg (show ¬ (false = true) by decide)] at H; exact H
       clear H
       have H := H1
       clear H1
       have H' := Aside0.mk H
       clear H
       go_wp2
       go_loopg [10, 11, 12] kj10 (fun kq v10 v11 v12 w' => ∃ (x10_3 : List (S39)) (x11_3 : Int) (x12_3 : Int), v11 = .int .i64 x11_3 ∧ v12 = .int .i64 x12_3 ∧ Aside0 (worldmintref14_Slice.l0 kq l0 a1 a2 x10_3 x11_3 x12_3 = some (r1, r2)) ∧ Aside0 (kq ≤ kj10) ∧ Aside0 (Kd.R k39 39 w' w.heap.size (fun _ => True) v10 x10_3) ∧ Aside0 (Below w.heap.size w w'))
       case atStart => exact ⟨(([] : List (S39))), (0), (0), eqs, eqs, H', ⟨Nat.le_refl _⟩, ⟨by first | exact Kd.R_nil _ _ _ _ _ | exact Kd.N_nil _ _ _ _ _ | exact Kd.V_nil _ _ _ _ _ | exact Kd.Q_nil _ _ _ _ _ | exact Kd.S_nil _ _ _ _ _⟩, ⟨bw⟩⟩
       case round =>
        clear H'
        try clear c7
        try clear c8
        try clear c8b0
        try clear c9
        try clear c13
        try clear c13b0
        try clear c14
        obtain ⟨x10_3, x11_3, x12_3, rfl, rfl, HA, HK3, HO_10, HB⟩ := hrel
        cases gk with
        | zero => exact absurd HA.out (by simp [worldmintref14_Slice.l0])
        | succ k3 =>
         have H := HA.out
         clear HA
         simp only [worldmintref14_Slice.l0] at H
         by_cases c15 : x12_3 < (l0.length : Int)
         ·rw [if_pos c15] at H
          have c15b0 : decide (x12_3 < (l0.length : Int)) = true := decide_eq_true c15
          clear c15
          obtain ⟨ji16, hji16⟩ : ∃ j_ : Int, (mx a1 x11_3) = j_ := ⟨_, rfl⟩
          replace H : (if 0 ≤ x12_3 then (if (ji16) < (mn (wrap64 (a1 + a2)) (wrap64 (x11_3 + ((rd_T39 l0 x12_3).f2)))) then ((worldmintref14_Add.f k3 x10_3 ((rd_T39 l0 x12_3).f0) (wrap64 ((wrap64 (((rd_T39 l0 x12_3).f1) + (ji16))) - x11_3)) (wrap64 ((mn (wrap64 (a1 + a2)) (wrap64 (x11_3 + ((rd_T39 l0 x12_3).f2)))) - (ji16)))).bind fun t304 => (worldmintref14_Slice.l0 k3 l0 a1 a2 t304 (wrap64 (x11_3 + ((rd_T39 l0 x12_3).f2))) (wrap64 (x12_3 + 1)))) else (worldmintref14_Slice.l0 k3 l0 a1 a2 x10_3 (wrap64 (x11_3 + ((rd_T39 l0 x12_3).f2))) (wrap64 (x12_3 + 1)))) else (none)) = some (r1, r2) := by first | (rw [hji16] at H; exact H) | (simp only [hji16] at H ⊢; exact H)
          have hji16_ : (if a1 < x11_3 then x11_3 else a1) = ji16 := hji16
          by_cases c17 : 0 ≤ x12_3
          ·rw [if_pos c17] at H
           have c17b0 : decide (0 ≤ x12_3) = true := decide_eq_true c17
           clear c17
           obtain ⟨ji18, hji18⟩ : ∃ j_ : Int, (mn (wrap64 (a1 + a2)) (wrap64 (x11_3 + ((rd_T39 l0 x12_3).f2)))) = j_ := ⟨_, rfl⟩
           replace H : (if (ji16) < (ji18) then ((worldmintref14_Add.f k3 x10_3 ((rd_T39 l0 x12_3).f0) (wrap64 ((wrap64 (((rd_T39 l0 x12_3).f1) + (ji16))) - x11_3)) (wrap64 ((ji18) - (ji16)))).bind fun t304 => (worldmintref14_Slice.l0 k3 l0 a1 a2 t304 (wrap64 (x11_3 + ((rd_T39 l0 x12_3).f2))) (wrap64 (x12_3 + 1)))) else (worldmintref14_Slice.l0 k3 l0 a1 a2 x10_3 (wrap64 (x11_3 + ((rd_T39 l0 x12_3).f2))) (wrap64 (x12_3 + 1)))) = some (r1, r2) := by first | (rw [hji18] at H; exact H) | (simp only [hji18] at H ⊢; exact H)
           have hji18_ : (if (wrap64 (x11_3 + ((rd_T39 l0 x12_3).f2))) < (wrap64 (a1 + a2)) then (wrap64 (x11_3 + ((rd_T39 l0 x12_3).f2))) else (wrap64 (a1 + a2))) = ji18 := hji18
           by_cases c19 : (ji16) < (ji18)
           ·rw [if_pos c19] at H
            have c19b0 : decide ((ji16) < (ji18)) = true := decide_eq_true c19
            clear c19
            replace H := Option.bind_eq_some_iff.mp H
            obtain ⟨t304, A200, H⟩ := H
            replace H : (worldmintref14_Slice.l0 k3 l0 a1 a2 t304 (wrap64 (x11_3 + ((rd_T39 l0 x12_3).f2))) (wrap64 (x12_3 + 1))) = some (r1, r2) := H
            have A20 := Aside0.mk A200
            clear A200
            have H' := Aside0.mk H
            clear H
            have p301 : 0 ≤ (x12_3 : Int) := oda
            have q301 : x12_3 < (l0.length : Int) := oda
            obtain ⟨ad301, e301, hx301_0, hx301_1, hx301_2⟩ := at_T39 HR0.out x12_3 p301 q301
            cases e301
            replace hx301_0 := (HB.out.cell (World.block_lt_of_cell? w _ hx301_0)).trans hx301_0
            replace hx301_1 := (HB.out.cell (World.block_lt_of_cell? w _ hx301_1)).trans hx301_1
            replace hx301_2 := (HB.out.cell (World.block_lt_of_cell? w _ hx301_2)).trans hx301_2
            replace p301 := eq_true p301
            replace q301 := eq_true q301
            try go_wp2
            have n0_ := Aside0.mk (Kd.R_drew HO_10.out)
            have n1_ := Aside0.mk (below_drew1 HB.out)
            clear HO_10
            clear HB
            have HO_10 := n0_
            have HB := n1_
            clear n0_ n1_
            have p302 : 0 ≤ (x12_3 : Int) := oda
            have q302 : x12_3 < (l0.length : Int) := oda
            obtain ⟨ad302, e302, hx302_0, hx302_1, hx302_2⟩ := at_T39 HR0.out x12_3 p302 q302
            have hw302_2 := hx302_2
            have hw302_1 := hx302_1
            have hw302_0 := hx302_0
            obtain rfl : ad301 = ad302 := (by injection e302)
            replace hx302_0 := (HB.out.cell (World.block_lt_of_cell? w _ hx302_0)).trans hx302_0
            replace hx302_1 := (HB.out.cell (World.block_lt_of_cell? w _ hx302_1)).trans hx302_1
            replace hx302_2 := (HB.out.cell (World.block_lt_of_cell? w _ hx302_2)).trans hx302_2
            replace p302 := eq_true p302
            replace q302 := eq_true q302
            have p303 : 0 ≤ (x12_3 : Int) := oda
            have q303 : x12_3 < (l0.length : Int) := oda
            obtain ⟨ad303, e303, hx303_0, hx303_1, hx303_2⟩ := at_T39 HR0.out x12_3 p303 q303
            have hw303_2 := hx303_2
            have hw303_1 := hx303_1
            have hw303_0 := hx303_0
            obtain rfl : ad301 = ad303 := (by injection e303)
            replace hx303_0 := (HB.out.cell (World.block_lt_of_cell? w _ hx303_0)).trans hx303_0
            replace hx303_1 := (HB.out.cell (World.block_lt_of_cell? w _ hx303_1)).trans hx303_1
            replace hx303_2 := (HB.out.cell (World.block_lt_of_cell? w _ hx303_2)).trans hx303_2
            replace p303 := eq_true p303
            replace q303 := eq_true q303
            obtain ⟨Ao22, co22, eo22⟩ := Kd.R_slice HO_10.out
            (first | subst eo22 | (injection eo22 with f1_ f2_ f3_; have f4_ := f1_.symm; have f5_ := f3_.symm; clear f1_ f2_ f3_; subst f4_; subst f5_))
            refine start_ (n := 21) (S := fun w' => w'.cell? (ad301.add ((x12_3).toNat * 3)) = some (.int .i64 ((rd_T39 l0 x12_3).f0)) ∧ w'.cell? ⟨(ad301.add ((x12_3).toNat * 3)).block, (ad301.add ((x12_3).toNat * 3)).off + 1, none⟩ = some (.int .i64 ((rd_T39 l0 x12_3).f1)) ∧ w'.cell? ⟨(ad301.add ((x12_3).toNat * 3)).block, (ad301.add ((x12_3).toNat * 3)).off + 2, none⟩ = some (.int .i64 ((rd_T39 l0 x12_3).f2)) ∧ w'.cell? (ad301.add ((x12_3).toNat * 3)) = some (.int .i64 ((rd_T39 l0 x12_3).f0)) ∧ w'.cell? ⟨(ad301.add ((x12_3).toNat * 3)).block, (ad301.add ((x12_3).toNat * 3)).off + 1, none⟩ = some (.int .i64 ((rd_T39 l0 x12_3).f1)) ∧ w'.cell? ⟨(ad301.add ((x12_3).toNat * 3)).block, (ad301.add ((x12_3).toNat * 3)).off + 2, none⟩ = some (.int .i64 ((rd_T39 l0 x12_3).f2))) (ds := []) (bs 21 0) (by kernel_rfl) rfl rfl ⟨((HB.out.cell (World.block_lt_of_cell? w _ hw302_0)).trans hw302_0), ((HB.out.cell (World.block_lt_of_cell? w _ hw302_1)).trans hw302_1), ((HB.out.cell (World.block_lt_of_cell? w _ hw302_2)).trans hw302_2), ((HB.out.cell (World.block_lt_of_cell? w _ hw303_0)).trans hw303_0), ((HB.out.cell (World.block_lt_of_cell? w _ hw303_1)).trans hw303_1), ((HB.out.cell (World.block_lt_of_cell? w _ hw303_2)).trans hw303_2)⟩ (fun hHeld => ?_); refine with_tabW worldmintref14_Slice.tab15 worldmintref14_Slice.bits15 (fun HT_ HW_ => ?_)
            generalize wr.drew = w21 at HO_10 HB hx302_0 hx302_1 hx302_2 hx303_0 hx303_1 hx303_2 hHeld ⊢
            refine pu 0 62 (bs 21 1) HT_ ?_
            refine pu 1 63 (bs 21 3) HT_ ?_
            refine pu 2 64 (bs 21 7) HT_ ?_
            refine pu 3 65 (bs 21 15) HT_ ?_
            refine pu 4 66 (bs 21 31) HT_ ?_
            refine pu 6 68 (bs 21 95) HT_ ?_
            refine pu 7 69 (bs 21 223) HT_ ?_
            refine pu 8 70 (bs 21 479) HT_ ?_
            refine pu 9 71 (bs 21 991) HT_ ?_
            refine pu 11 73 (bs 21 3039) HT_ ?_
            refine pu 13 75 (bs 21 11231) HT_ ?_
            refine pu 15 77 (bs 21 43999) HT_ ?_
            refine pu 16 78 (bs 21 109535) HT_ ?_
            refine pu 17 79 (bs 21 240607) HT_ ?_
            refine take_ (i := 5) (N := some 67) (v := ?_) (a' := ?_) (bs 21 240639) rfl rfl (take_ofW HT_.out HW_.out (by kernel_rfl)) (fun _ _ _ h => h) (Or.inl ⟨by rfl, ?_⟩) hHeld ?_ ?_
            rotate_left
            ·rintro w' ⟨s0, s1, s2, s3, s4, s5⟩
             go_simp
             with_reducible rfl
            rotate_left
            ·simp only [Act.put, List.setIfInBounds_toArray, List.set_cons_zero, List.set_cons_succ, i64_w, i32_w]
             rfl
            refine take_ (i := 10) (N := some 72) (v := ?_) (a' := ?_) (bs 21 241663) rfl rfl (take_ofW HT_.out HW_.out (by kernel_rfl)) (fun _ _ _ h => h) (Or.inl ⟨by rfl, ?_⟩) hHeld ?_ ?_
            rotate_left
            ·rintro w' ⟨s0, s1, s2, s3, s4, s5⟩
             go_simp
             with_reducible rfl
            rotate_left
            ·simp only [Act.put, List.setIfInBounds_toArray, List.set_cons_zero, List.set_cons_succ, i64_w, i32_w]
             rfl
            refine pu 12 74 (bs 21 245759) HT_ ?_
            refine pu 14 76 (bs 21 262143) HT_ ?_
            refine pu 18 80 (bs 21 524287) HT_ ?_
            refine one_ (i := 19) (N := some 81) (bs 21 1048575) rfl rfl (one_of HT_.out (by kernel_rfl)) (by decide) (fun K hK => ?_)
            refine goes_ Try.func53 (by kernel_rfl) rfl #[.slice Ao22 x10_3.length co22, .agg #[.int .i64 ((rd_T39 l0 x12_3).f0), .int .i64 (wrap64 ((wrap64 (((rd_T39 l0 x12_3).f1) + (ji16))) - x11_3)), .int .i64 (wrap64 ((ji18) - (ji16)))]] (by rfl) rfl rfl (by (try simp only [List.map_toArray, List.map_cons, List.map_nil]); first | done | (simp only [hji16, hji18]; rfl) | rfl | (simp only [List.length_drop, List.length_take]; rfl)) ?_
            with_reducible refine (worldmintref14_Add.calls k3 _ _ x10_3 ((rd_T39 l0 x12_3).f0) (wrap64 ((wrap64 (((rd_T39 l0 x12_3).f1) + (ji16))) - x11_3)) (wrap64 ((ji18) - (ji16))) t304 _ ?side1 ?side2 A20.out).mono ?_
            (case side1 => repeat (first | exact (Kd.R_reads' HO_10.out).2.2 | (with_reducible refine Kd.C_alloc ?_ _) | (with_reducible refine Kd.C_drewN ?_ _) | (with_reducible refine Kd.C_drew ?_)))
            (case side2 => exact (Kd.R_reads' HO_10.out).2.1)
            rintro e w23 ⟨v305, rfl, ho0, hb⟩
            refine ⟨_, rfl, ?_⟩
            have n0_ := Aside0.mk (Kd.R_elder' (kr HO_10.out) (Kd.R_base ho0) hb)
            have n1_ := Aside0.mk (Kd.R_lower (Kd.R_new' ho0 (Kd.R_lt (kr HO_10.out))) (below_size (bw)))
            have n2_ := Aside0.mk (below_step (bw) hb)
            clear HO_10
            clear HB
            have HO_10 := n0_
            have HO306 := n1_
            have HB := n2_
            clear n0_ n1_ n2_
            (try clear hb)
            (try clear hb2)
            (try clear hk)
            (try clear hi)
            (try clear ho0)
            refine hK.out _ _ ⟨((HB.out.cell (World.block_lt_of_cell? w _ hw302_0)).trans hw302_0), ((HB.out.cell (World.block_lt_of_cell? w _ hw302_1)).trans hw302_1), ((HB.out.cell (World.block_lt_of_cell? w _ hw302_2)).trans hw302_2), ((HB.out.cell (World.block_lt_of_cell? w _ hw303_0)).trans hw303_0), ((HB.out.cell (World.block_lt_of_cell? w _ hw303_1)).trans hw303_1), ((HB.out.cell (World.block_lt_of_cell? w _ hw303_2)).trans hw303_2)⟩ (fun hHeld => ?_)
            clear hK K
            refine norm_ (a' := ?_) ?_ ?_
            rotate_left
            ·show Act.put _ (some 81) _ = _
             simp only [Act.put, List.setIfInBounds_toArray, List.set_cons_zero, List.set_cons_succ, i64_w, i32_w]
             rfl
            refine pu 20 10 (bs 21 2097151) HT_ ?_
            refine done_ (done_of HT_.out (by kernel_rfl)) ?_
            have p307 : 0 ≤ (x12_3 : Int) := oda
            have q307 : x12_3 < (l0.length : Int) := oda
            obtain ⟨ad307, e307, hx307_0, hx307_1, hx307_2⟩ := at_T39 HR0.out x12_3 p307 q307
            obtain rfl : ad301 = ad307 := (by injection e307)
            replace hx307_0 := (HB.out.cell (World.block_lt_of_cell? w _ hx307_0)).trans hx307_0
            replace hx307_1 := (HB.out.cell (World.block_lt_of_cell? w _ hx307_1)).trans hx307_1
            replace hx307_2 := (HB.out.cell (World.block_lt_of_cell? w _ hx307_2)).trans hx307_2
            replace p307 := eq_true p307
            replace q307 := eq_true q307
            try go_wp2
            go_roundg k3
            case measure => have := HJ4.out; have := HJ10.out; have := HK3.out; omega
            case rel => exact ⟨(t304), (wrap64 (x11_3 + ((rd_T39 l0 x12_3).f2))), (wrap64 (x12_3 + 1)), eqs, eqs, H', ⟨by have := HJ4.out; have := HJ10.out; have := HK3.out; omega⟩, ⟨by (with_reducible repeat (first | apply Kd.R_alloc | apply Kd.R_drewN | apply Kd.R_drew)); exact Kd.R_mono HO306.out (fun _ hk => trivial)⟩, ⟨bw⟩⟩
           ·rw [if_neg c19] at H
            have c19b0 : decide ((ji16) < (ji18)) = false := decide_eq_false c19
            clear c19
            have H' := Aside0.mk H
            clear H
            have p301 : 0 ≤ (x12_3 : Int) := oda
            have q301 : x12_3 < (l0.length : Int) := oda
            obtain ⟨ad301, e301, hx301_0, hx301_1, hx301_2⟩ := at_T39 HR0.out x12_3 p301 q301
            cases e301
            replace hx301_0 := (HB.out.cell (World.block_lt_of_cell? w _ hx301_0)).trans hx301_0
            replace hx301_1 := (HB.out.cell (World.block_lt_of_cell? w _ hx301_1)).trans hx301_1
            replace hx301_2 := (HB.out.cell (World.block_lt_of_cell? w _ hx301_2)).trans hx301_2
            replace p301 := eq_true p301
            replace q301 := eq_true q301
            have p308 : 0 ≤ (x12_3 : Int) := oda
            have q308 : x12_3 < (l0.length : Int) := oda
            obtain ⟨ad308, e308, hx308_0, hx308_1, hx308_2⟩ := at_T39 HR0.out x12_3 p308 q308
            obtain rfl : ad301 = ad308 := (by injection e308)
            replace hx308_0 := (HB.out.cell (World.block_lt_of_cell? w _ hx308_0)).trans hx308_0
            replace hx308_1 := (HB.out.cell (World.block_lt_of_cell? w _ hx308_1)).trans hx308_1
            replace hx308_2 := (HB.out.cell (World.block_lt_of_cell? w _ hx308_2)).trans hx308_2
            replace p308 := eq_true p308
            replace q308 := eq_true q308
            go_wp2
            go_roundg k3
            case measure => have := HJ4.out; have := HJ10.out; have := HK3.out; omega
            case rel => exact ⟨(x10_3), (wrap64 (x11_3 + ((rd_T39 l0 x12_3).f2))), (wrap64 (x12_3 + 1)), eqs, eqs, H', ⟨by have := HJ4.out; have := HJ10.out; have := HK3.out; omega⟩, ⟨kr HO_10.out⟩, ⟨bw⟩⟩
          ·rw [if_neg c17] at H
           exact absurd H (by simp)
         ·rw [if_neg c15] at H
          have c15b0 : decide (x12_3 < (l0.length : Int)) = false := decide_eq_false c15
          clear c15
          simp only [Option.some.injEq, Prod.mk.injEq] at H
          obtain ⟨rfl, rfl⟩ := H
          go_wp2
          go_ret2
          exact ⟨_, by first | rfl | (simp [errW_none, errW_some] <;> rfl) | (simp [*, errW_none, errW_some] <;> rfl), kr HO_10.out, bw⟩

/-! ### worldmintlaw14_LotsSlice: function 4 -/
mutual
def worldmintlaw14_LotsSlice.l0 : Nat → Int → Int → List (List (S39)) → Int → Option (Bool)
 | 0, _, _, _, _ => none
 | k + 1, x2, x3, x9, x10 => if x10 < 2 then (if 0 ≤ x10 then (if x10 < (x9.length : Int) then ((worldmintref14_Total.f k (rd_L2 x9 x10)).bind fun t319 => ((worldmintref03_Around.f x2 (wrap64 (t319 + 2))).bind fun t320 => ((lots_Slice.f k (rd_L2 x9 x10) x2 x3).bind fun bt322 => ((worldmintref14_Slice.f k (rd_L2 x9 x10) x2 x3).bind fun bt327 => ((worldmintref03_Around.f x3 (mx 1 (wrap64 ((wrap64 (t319 - t320)) + 2)))).bind fun t332 => ((lots_Slice.f k (rd_L2 x9 x10) t320 t332).bind fun bt333 => ((worldmintref03_Around.f x3 (mx 1 (wrap64 ((wrap64 (t319 - t320)) + 2)))).bind fun t338 => ((worldmintref14_Slice.f k (rd_L2 x9 x10) t320 t338).bind fun bt339 => (if bt322.2 = bt327.2 then (if bt333.2 = bt339.2 then ((worldmintref14_Same.f k bt322.1 bt327.1).bind fun t343 => (if t343 = true then ((worldmintref14_Same.f k bt333.1 bt339.1).bind fun t344 => (worldmintlaw14_LotsSlice.j1 k x2 x3 x9 x10 (!t344))) else (worldmintlaw14_LotsSlice.j1 k x2 x3 x9 x10 true))) else (worldmintlaw14_LotsSlice.j1 k x2 x3 x9 x10 true)) else (worldmintlaw14_LotsSlice.j1 k x2 x3 x9 x10 true)))))))))) else (none)) else (none)) else ((worldmintlaw14_lives.f k).bind fun t345 => (some t345))
def worldmintlaw14_LotsSlice.j1 : Nat → Int → Int → List (List (S39)) → Int → Bool → Option (Bool)
 | 0, _, _, _, _, _ => none
 | k + 1, x2, x3, x9, x10, x110 => if x110 = true then (some false) else (worldmintlaw14_LotsSlice.l0 k x2 x3 x9 (wrap64 (x10 + 1)))
end
def worldmintlaw14_LotsSlice.f (k : Nat) (l0 : List (S39)) (l1 : List Int) (a2 : Int) (a3 : Int) : Option (Bool) := (worldmintlaw14_few.f l0).bind fun t309 => ((worldmintref14_Lots.f k l1 0).bind fun t312 => (worldmintlaw14_LotsSlice.l0 k a2 a3 (([t309, t312] : List (List (S39)))) 0))
def worldmintlaw14_LotsSlice.T9 : Bool × List (List Nat × List Nat) := (true, [([], []), ([], []), ([0, 1], [0, 1]), ([2], [2]), ([], []), ([], []), ([], []), ([], []), ([6, 7], [6, 7]), ([8], [8]), ([9], [9]), ([5, 10], [5, 10]), ([3, 4, 11, 11], [3, 4, 11]), ([12], [12]), ([13], [13]), ([13], [13]), ([14, 12, 0, 1, 2, 3, 4, 5, 6, 7, 8, 9, 10, 11, 12, 13, 14], [14]), ([15, 16, 0, 1, 2, 3, 4, 5, 6, 7, 8, 9, 10, 11, 12, 13, 14, 15, 16], [15])])
def worldmintlaw14_LotsSlice.B9 : List Nat := [0, 0, 3, 7, 0, 0, 0, 0, 192, 448, 960, 2016, 4095, 8191, 16383, 16383, 32767, 131071]
theorem worldmintlaw14_LotsSlice.tab9 : rtab .any (opsOf Try.f4 9) = worldmintlaw14_LotsSlice.T9 := by kernel_rfl
theorem worldmintlaw14_LotsSlice.bits9 : waitsOk worldmintlaw14_LotsSlice.T9.2 worldmintlaw14_LotsSlice.B9 = true := by kernel_rfl
def worldmintlaw14_LotsSlice.T10 : Bool × List (List Nat × List Nat) := (true, [([], []), ([], []), ([0, 1], [0, 1]), ([2], [2]), ([], []), ([], []), ([], []), ([], []), ([6, 7], [6, 7]), ([8], [8]), ([9], [9]), ([5, 10], [5, 10]), ([3, 4, 11, 11], [3, 4, 11]), ([12], [12]), ([13], [13]), ([13], [13]), ([14, 12, 0, 1, 2, 3, 4, 5, 6, 7, 8, 9, 10, 11, 12, 13, 14], [14]), ([15, 16, 0, 1, 2, 3, 4, 5, 6, 7, 8, 9, 10, 11, 12, 13, 14, 15, 16], [15])])
def worldmintlaw14_LotsSlice.B10 : List Nat := [0, 0, 3, 7, 0, 0, 0, 0, 192, 448, 960, 2016, 4095, 8191, 16383, 16383, 32767, 131071]
theorem worldmintlaw14_LotsSlice.tab10 : rtab .any (opsOf Try.f4 10) = worldmintlaw14_LotsSlice.T10 := by kernel_rfl
theorem worldmintlaw14_LotsSlice.bits10 : waitsOk worldmintlaw14_LotsSlice.T10.2 worldmintlaw14_LotsSlice.B10 = true := by kernel_rfl
set_option maxHeartbeats 8000000 in
set_option maxRecDepth 100000 in
theorem worldmintlaw14_LotsSlice.calls (k : Nat) (A0 : Option Addr) (c0 : Nat) (l0 : List (S39)) (A1 : Option Addr) (c1 : Nat) (l1 : List Int) (a2 : Int) (a3 : Int) (r : Bool) (w : World) (hr0 : Kd.C k39 w A0 l0.length l0) (hc0 : l0.length ≤ c0) (hr1 : Kd.C (Kd.int .i64) w A1 l1.length l1) (hc1 : l1.length ≤ c1) (h : worldmintlaw14_LotsSlice.f k l0 l1 a2 a3 = some r) :
  Calls Try.prog 4 #[.slice A0 l0.length c0, .slice A1 l1.length c1, .int .i64 a2, .int .i64 a3] w fun e w' => e = .returned (.bool r) ∧ Below w.heap.size w w' := by
 have HR0 := Aside0.mk hr0
 have HC0 := Aside0.mk hc0
 clear hr0 hc0
 have HR1 := Aside0.mk hr1
 have HC1 := Aside0.mk hc1
 clear hr1 hc1
 have HB := Aside0.mk (Below.refl w.heap.size w)
 have H : ((worldmintlaw14_few.f l0).bind fun t309 => ((worldmintref14_Lots.f k l1 0).bind fun t312 => (worldmintlaw14_LotsSlice.l0 k a2 a3 (([t309, t312] : List (List (S39)))) 0))) = some r := h
 clear h
 replace H := Option.bind_eq_some_iff.mp H
 obtain ⟨t309, A50, H⟩ := H
 replace H : ((worldmintref14_Lots.f k l1 0).bind fun t312 => (worldmintlaw14_LotsSlice.l0 k a2 a3 (([t309, t312] : List (List (S39)))) 0)) = some r := H
 have A5 := Aside0.mk A50
 clear A50
 replace H := Option.bind_eq_some_iff.mp H
 obtain ⟨t312, A60, H⟩ := H
 replace H : (worldmintlaw14_LotsSlice.l0 k a2 a3 (([t309, t312] : List (List (S39)))) 0) = some r := H
 have A6 := Aside0.mk A60
 clear A60
 obtain ⟨y315, hy315⟩ : ∃ y_ : List (List (S39)), y_ = (([t309, t312] : List (List (S39)))) := ⟨_, rfl⟩
 replace H : (worldmintlaw14_LotsSlice.l0 k a2 a3 y315 0) = some r := by first | (rw [hy315]; with_reducible exact H) | (have H2_ := (Option.bind_some _ _).symm.trans H; rw [hy315]; with_reducible exact H2_) | (have H2_ := (Option.bind_some _ _).symm.trans H; with_reducible exact H2_) | with_reducible exact H | (rw [hy315]; exact H) | exact H
 have Ny315 := Aside0.mk hy315
 clear hy315
 have H' := Aside0.mk H
 clear H
 go_enter Try.func4, Try.ntmps4
 go_wp2_with (first | ((with_reducible refine gate_callee (f := 12) rfl ?_); refine goesL_ (some 22) rfl rfl Try.func12 (by kernel_rfl) rfl #[.slice A0 l0.length c0] rfl (by (try simp only [List.map_toArray, List.map_cons, List.map_nil]); first | done | rfl | (simp only [List.length_drop, List.length_take]; rfl)) ?_; (with_reducible refine (worldmintlaw14_few.calls _ _ l0 t309 _ ?side1 ?side2 A5.out).mono ?_); (case side1 => repeat (first | exact HR0.out | (with_reducible refine Kd.C_alloc ?_ _) | (with_reducible refine Kd.C_drewN ?_ _) | (with_reducible refine Kd.C_drew ?_))); (case side2 => exact HC0.out); rintro e w7 ⟨v310, rfl, ho0, hb⟩; refine ⟨_, rfl, ?_⟩; have n0_ := Aside0.mk (Kd.R_lower ho0 (below_size (bw))); have n1_ := Aside0.mk (below_step (bw) hb); clear HB; have HO311 := n0_; have HB := n1_; clear n0_ n1_; (try clear hb); (try clear hb2); (try clear hk); (try clear hi); (try clear ho0)) | ((with_reducible refine gate_callee (f := 13) rfl ?_); refine goesL_ (some 24) rfl rfl Try.func13 (by kernel_rfl) rfl #[.slice A1 l1.length c1, .int .i64 0] rfl (by (try simp only [List.map_toArray, List.map_cons, List.map_nil]); first | done | rfl | (simp only [List.length_drop, List.length_take]; rfl)) ?_; (with_reducible refine (worldmintref14_Lots.calls k _ _ l1 0 t312 _ ?side1 ?side2 A6.out).mono ?_); (case side1 => repeat (first | exact (Kd.C_below HR1.out HB.out) | (with_reducible refine Kd.C_alloc ?_ _) | (with_reducible refine Kd.C_drewN ?_ _) | (with_reducible refine Kd.C_drew ?_))); (case side2 => exact HC1.out); rintro e w8 ⟨v313, rfl, ho0, hb⟩; refine ⟨_, rfl, ?_⟩; have n0_ := Aside0.mk (Kd.R_elder' (kr HO311.out) (Kd.R_base ho0) hb); have n1_ := Aside0.mk (Kd.R_lower (Kd.R_new' ho0 (Kd.R_lt (kr HO311.out))) (below_size (bw))); have n2_ := Aside0.mk (below_step (bw) hb); clear HO311; clear HB; have HO311 := n0_; have HO314 := n1_; have HB := n2_; clear n0_ n1_ n2_; (try clear hb); (try clear hb2); (try clear hk); (try clear hi); (try clear ho0); obtain ⟨Ao9, co9, eo9⟩ := Kd.R_slice HO311.out; subst eo9; obtain ⟨Ao10, co10, eo10⟩ := Kd.R_slice HO314.out; subst eo10) | ((with_reducible refine gate_dst (N := 25) rfl ?_); refine Kd.N_lit (Kd.slice 39 k39) _ 22 ?hg (N' := 25) ?hd (xs := ([t309, t312] : List (List (S39)))) (inner := [.slice Ao9 t309.length co9, .slice Ao10 t312.length co10]) (ok := (fun _ => True)) (okp := (fun _ => True)) ?hr ?hp (fun _ hk => hk) ((show ∀ k_, w8.heap.size ≤ k_ → (fun _ => True) k_ from fun k_ hk => trivial) _ (Nat.le_refl _)) (Below.refl _ _) (Nat.le_refl _) (by simp) ?_; (case hd => rfl); (case hg => rfl); (case hr => first | (go_simp; done) | (go_simp; rfl)); (case hp => exact (Reps.one (show Kd.FK (Kd.slice 39 k39) _ _ t309 [.slice Ao9 t309.length co9] from (Kd.FK_slice_mk (Kd.R_reads' (Kd.R_mono (ok' := (fun _ => True)) (HO311.out) (fun k_ hk => trivial))).2.1 (Kd.R_F (Kd.R_mono (ok' := (fun _ => True)) (HO311.out) (fun k_ hk => trivial))))) (Reps.one (show Kd.FK (Kd.slice 39 k39) _ _ t312 [.slice Ao10 t312.length co10] from (Kd.FK_slice_mk (Kd.R_reads' (Kd.R_mono (ok' := (fun _ => True)) (HO314.out) (fun k_ hk => trivial))).2.1 (Kd.R_F (Kd.R_mono (ok' := (fun _ => True)) (HO314.out) (fun k_ hk => trivial))))) (Reps.none _ _)))); intro v316 w11 ho12 hb hg_ hnew_; clear hg_ hnew_; (first | rw [← Ny315.out] at ho12 | (simp only [Int.reduceToNat] at ho12; rw [← Ny315.out] at ho12)); have n0_ := Aside0.mk (Kd.N_lower ho12 (below_size (bw))); have n1_ := Aside0.mk (below_step (bw) hb); clear HB; clear HO311; clear HO314; have HO317 := n0_; have HB := n1_; clear n0_ n1_; clear hb ho12))
 go_loopg [10] k (fun kq v10 w' => ∃ (x10_1 : Int), v10 = .int .i64 x10_1 ∧ Aside0 (worldmintlaw14_LotsSlice.l0 kq a2 a3 y315 x10_1 = some r) ∧ Aside0 (kq ≤ k) ∧ Aside0 (Kd.N (Kd.slice 39 k39) 22 w' w.heap.size (fun _ => True) v316 y315) ∧ Aside0 (Below w.heap.size w w'))
 case atStart => exact ⟨(0), eqs, H', ⟨Nat.le_refl _⟩, ⟨by (with_reducible repeat (first | apply Kd.N_alloc | apply Kd.N_drewN | apply Kd.N_drew)); exact HO317.out⟩, ⟨bw⟩⟩
 case round =>
  clear H'
  try clear c1
  obtain ⟨x10_1, rfl, HA, HK1, HO_9, HB⟩ := hrel
  cases gk with
  | zero => exact absurd HA.out (by simp [worldmintlaw14_LotsSlice.l0])
  | succ k1 =>
   have H := HA.out
   clear HA
   simp only [worldmintlaw14_LotsSlice.l0] at H
   by_cases c13 : x10_1 < 2
   ·rw [if_pos c13] at H
    have c13b0 : decide (x10_1 < 2) = true := decide_eq_true c13
    clear c13
    by_cases c14 : 0 ≤ x10_1
    ·rw [if_pos c14] at H
     have c14b0 : decide (0 ≤ x10_1) = true := decide_eq_true c14
     clear c14
     by_cases c15 : x10_1 < (y315.length : Int)
     ·rw [if_pos c15] at H
      have c15b0 : decide (x10_1 < (y315.length : Int)) = true := decide_eq_true c15
      clear c15
      replace H := Option.bind_eq_some_iff.mp H
      obtain ⟨t319, A160, H⟩ := H
      replace H : ((worldmintref03_Around.f a2 (wrap64 (t319 + 2))).bind fun t320 => ((lots_Slice.f k1 (rd_L2 y315 x10_1) a2 a3).bind fun bt322 => ((worldmintref14_Slice.f k1 (rd_L2 y315 x10_1) a2 a3).bind fun bt327 => ((worldmintref03_Around.f a3 (mx 1 (wrap64 ((wrap64 (t319 - t320)) + 2)))).bind fun t332 => ((lots_Slice.f k1 (rd_L2 y315 x10_1) t320 t332).bind fun bt333 => ((worldmintref03_Around.f a3 (mx 1 (wrap64 ((wrap64 (t319 - t320)) + 2)))).bind fun t338 => ((worldmintref14_Slice.f k1 (rd_L2 y315 x10_1) t320 t338).bind fun bt339 => (if bt322.2 = bt327.2 then (if bt333.2 = bt339.2 then ((worldmintref14_Same.f k1 bt322.1 bt327.1).bind fun t343 => (if t343 = true then ((worldmintref14_Same.f k1 bt333.1 bt339.1).bind fun t344 => (worldmintlaw14_LotsSlice.j1 k1 a2 a3 y315 x10_1 (!t344))) else (worldmintlaw14_LotsSlice.j1 k1 a2 a3 y315 x10_1 true))) else (worldmintlaw14_LotsSlice.j1 k1 a2 a3 y315 x10_1 true)) else (worldmintlaw14_LotsSlice.j1 k1 a2 a3 y315 x10_1 true))))))))) = some r := H
      have A16 := Aside0.mk A160
      clear A160
      replace H := Option.bind_eq_some_iff.mp H
      obtain ⟨t320, A170, H⟩ := H
      replace H : ((lots_Slice.f k1 (rd_L2 y315 x10_1) a2 a3).bind fun bt322 => ((worldmintref14_Slice.f k1 (rd_L2 y315 x10_1) a2 a3).bind fun bt327 => ((worldmintref03_Around.f a3 (mx 1 (wrap64 ((wrap64 (t319 - t320)) + 2)))).bind fun t332 => ((lots_Slice.f k1 (rd_L2 y315 x10_1) t320 t332).bind fun bt333 => ((worldmintref03_Around.f a3 (mx 1 (wrap64 ((wrap64 (t319 - t320)) + 2)))).bind fun t338 => ((worldmintref14_Slice.f k1 (rd_L2 y315 x10_1) t320 t338).bind fun bt339 => (if bt322.2 = bt327.2 then (if bt333.2 = bt339.2 then ((worldmintref14_Same.f k1 bt322.1 bt327.1).bind fun t343 => (if t343 = true then ((worldmintref14_Same.f k1 bt333.1 bt339.1).bind fun t344 => (worldmintlaw14_LotsSlice.j1 k1 a2 a3 y315 x10_1 (!t344))) else (worldmintlaw14_LotsSlice.j1 k1 a2 a3 y315 x10_1 true))) else (worldmintlaw14_LotsSlice.j1 k1 a2 a3 y315 x10_1 true)) else (worldmintlaw14_LotsSlice.j1 k1 a2 a3 y315 x10_1 true)))))))) = some r := H
      have A17 := Aside0.mk A170
      clear A170
      replace H := Option.bind_eq_some_iff.mp H
      obtain ⟨⟨t322, t323⟩, A180, H⟩ := H
      replace H : ((worldmintref14_Slice.f k1 (rd_L2 y315 x10_1) a2 a3).bind fun bt327 => ((worldmintref03_Around.f a3 (mx 1 (wrap64 ((wrap64 (t319 - t320)) + 2)))).bind fun t332 => ((lots_Slice.f k1 (rd_L2 y315 x10_1) t320 t332).bind fun bt333 => ((worldmintref03_Around.f a3 (mx 1 (wrap64 ((wrap64 (t319 - t320)) + 2)))).bind fun t338 => ((worldmintref14_Slice.f k1 (rd_L2 y315 x10_1) t320 t338).bind fun bt339 => (if t323 = bt327.2 then (if bt333.2 = bt339.2 then ((worldmintref14_Same.f k1 t322 bt327.1).bind fun t343 => (if t343 = true then ((worldmintref14_Same.f k1 bt333.1 bt339.1).bind fun t344 => (worldmintlaw14_LotsSlice.j1 k1 a2 a3 y315 x10_1 (!t344))) else (worldmintlaw14_LotsSlice.j1 k1 a2 a3 y315 x10_1 true))) else (worldmintlaw14_LotsSlice.j1 k1 a2 a3 y315 x10_1 true)) else (worldmintlaw14_LotsSlice.j1 k1 a2 a3 y315 x10_1 true))))))) = some r := H
      have A18 := Aside0.mk A180
      clear A180
      replace H := Option.bind_eq_some_iff.mp H
      obtain ⟨⟨t327, t328⟩, A190, H⟩ := H
      replace H : ((worldmintref03_Around.f a3 (mx 1 (wrap64 ((wrap64 (t319 - t320)) + 2)))).bind fun t332 => ((lots_Slice.f k1 (rd_L2 y315 x10_1) t320 t332).bind fun bt333 => ((worldmintref03_Around.f a3 (mx 1 (wrap64 ((wrap64 (t319 - t320)) + 2)))).bind fun t338 => ((worldmintref14_Slice.f k1 (rd_L2 y315 x10_1) t320 t338).bind fun bt339 => (if t323 = t328 then (if bt333.2 = bt339.2 then ((worldmintref14_Same.f k1 t322 t327).bind fun t343 => (if t343 = true then ((worldmintref14_Same.f k1 bt333.1 bt339.1).bind fun t344 => (worldmintlaw14_LotsSlice.j1 k1 a2 a3 y315 x10_1 (!t344))) else (worldmintlaw14_LotsSlice.j1 k1 a2 a3 y315 x10_1 true))) else (worldmintlaw14_LotsSlice.j1 k1 a2 a3 y315 x10_1 true)) else (worldmintlaw14_LotsSlice.j1 k1 a2 a3 y315 x10_1 true)))))) = some r := H
      have A19 := Aside0.mk A190
      clear A190
      obtain ⟨ji20, hji20⟩ : ∃ j_ : Int, (mx 1 (wrap64 ((wrap64 (t319 - t320)) + 2))) = j_ := ⟨_, rfl⟩
      replace H : ((worldmintref03_Around.f a3 (ji20)).bind fun t332 => ((lots_Slice.f k1 (rd_L2 y315 x10_1) t320 t332).bind fun bt333 => ((worldmintref03_Around.f a3 (ji20)).bind fun t338 => ((worldmintref14_Slice.f k1 (rd_L2 y315 x10_1) t320 t338).bind fun bt339 => (if t323 = t328 then (if bt333.2 = bt339.2 then ((worldmintref14_Same.f k1 t322 t327).bind fun t343 => (if t343 = true then ((worldmintref14_Same.f k1 bt333.1 bt339.1).bind fun t344 => (worldmintlaw14_LotsSlice.j1 k1 a2 a3 y315 x10_1 (!t344))) else (worldmintlaw14_LotsSlice.j1 k1 a2 a3 y315 x10_1 true))) else (worldmintlaw14_LotsSlice.j1 k1 a2 a3 y315 x10_1 true)) else (worldmintlaw14_LotsSlice.j1 k1 a2 a3 y315 x10_1 true)))))) = some r := by first | (rw [hji20] at H; exact H) | (simp only [hji20] at H ⊢; exact H)
      (try rw [hji20] at A16)
      (try rw [hji20] at A17)
      (try rw [hji20] at A18)
      (try rw [hji20] at A19)
      (try (have hji20l : 1 ≤ ji20 := by (rw [← hji20]; unfold mx; (repeat' split) <;> omega)))
      (try (have hji20m : 0 ≤ ji20 := by omega))
      have hji20_ : (if 1 < (wrap64 ((wrap64 (t319 - t320)) + 2)) then (wrap64 ((wrap64 (t319 - t320)) + 2)) else 1) = ji20 := hji20
      replace H := Option.bind_eq_some_iff.mp H
      obtain ⟨t332, A210, H⟩ := H
      replace H : ((lots_Slice.f k1 (rd_L2 y315 x10_1) t320 t332).bind fun bt333 => ((worldmintref03_Around.f a3 (ji20)).bind fun t338 => ((worldmintref14_Slice.f k1 (rd_L2 y315 x10_1) t320 t338).bind fun bt339 => (if t323 = t328 then (if bt333.2 = bt339.2 then ((worldmintref14_Same.f k1 t322 t327).bind fun t343 => (if t343 = true then ((worldmintref14_Same.f k1 bt333.1 bt339.1).bind fun t344 => (worldmintlaw14_LotsSlice.j1 k1 a2 a3 y315 x10_1 (!t344))) else (worldmintlaw14_LotsSlice.j1 k1 a2 a3 y315 x10_1 true))) else (worldmintlaw14_LotsSlice.j1 k1 a2 a3 y315 x10_1 true)) else (worldmintlaw14_LotsSlice.j1 k1 a2 a3 y315 x10_1 true))))) = some r := H
      have A21 := Aside0.mk A210
      clear A210
      replace H := Option.bind_eq_some_iff.mp H
      obtain ⟨⟨t333, t334⟩, A220, H⟩ := H
      replace H : ((worldmintref03_Around.f a3 (ji20)).bind fun t338 => ((worldmintref14_Slice.f k1 (rd_L2 y315 x10_1) t320 t338).bind fun bt339 => (if t323 = t328 then (if t334 = bt339.2 then ((worldmintref14_Same.f k1 t322 t327).bind fun t343 => (if t343 = true then ((worldmintref14_Same.f k1 t333 bt339.1).bind fun t344 => (worldmintlaw14_LotsSlice.j1 k1 a2 a3 y315 x10_1 (!t344))) else (worldmintlaw14_LotsSlice.j1 k1 a2 a3 y315 x10_1 true))) else (worldmintlaw14_LotsSlice.j1 k1 a2 a3 y315 x10_1 true)) else (worldmintlaw14_LotsSlice.j1 k1 a2 a3 y315 x10_1 true)))) = some r := H
      have A22 := Aside0.mk A220
      clear A220
      replace H := Option.bind_eq_some_iff.mp H
      obtain ⟨t338, A230, H⟩ := H
      replace H : ((worldmintref14_Slice.f k1 (rd_L2 y315 x10_1) t320 t338).bind fun bt339 => (if t323 = t328 then (if t334 = bt339.2 then ((worldmintref14_Same.f k1 t322 t327).bind fun t343 => (if t343 = true then ((worldmintref14_Same.f k1 t333 bt339.1).bind fun t344 => (worldmintlaw14_LotsSlice.j1 k1 a2 a3 y315 x10_1 (!t344))) else (worldmintlaw14_LotsSlice.j1 k1 a2 a3 y315 x10_1 true))) else (worldmintlaw14_LotsSlice.j1 k1 a2 a3 y315 x10_1 true)) else (worldmintlaw14_LotsSlice.j1 k1 a2 a3 y315 x10_1 true))) = some r := H
      have A23 := Aside0.mk A230
      clear A230
      replace H := Option.bind_eq_some_iff.mp H
      obtain ⟨⟨t339, t340⟩, A240, H⟩ := H
      replace H : (if t323 = t328 then (if t334 = t340 then ((worldmintref14_Same.f k1 t322 t327).bind fun t343 => (if t343 = true then ((worldmintref14_Same.f k1 t333 t339).bind fun t344 => (worldmintlaw14_LotsSlice.j1 k1 a2 a3 y315 x10_1 (!t344))) else (worldmintlaw14_LotsSlice.j1 k1 a2 a3 y315 x10_1 true))) else (worldmintlaw14_LotsSlice.j1 k1 a2 a3 y315 x10_1 true)) else (worldmintlaw14_LotsSlice.j1 k1 a2 a3 y315 x10_1 true)) = some r := H
      have A24 := Aside0.mk A240
      clear A240
      have HC25 := Aside0.mk H
      clear H
      obtain ⟨Ao26, co26, eo26⟩ := Kd.N_slice HO_9.out
      subst eo26
      have p318 : 0 ≤ (x10_1 : Int) := oda
      have q318 : x10_1 < (y315.length : Int) := oda
      obtain ⟨ad318, A318_0, c318_0, e318, hx318_0, hl318_0, hi318_0⟩ := at_L2 (Kd.N_reads' HO_9.out).2.2 x10_1 p318 q318
      cases e318
      obtain ⟨ce318, hce318, hMe318, hcc318⟩ := Kd.N_get HO_9.out [] x10_1 p318 (by first | exact q318 | exact oda | (have e_ := (Kd.N_reads' HO_9.out).1; omega))
      obtain ⟨ua318_0, uc318_0, rfl, ul318_0, ge318_0⟩ := Kd.FK_slice_open hMe318
      have hv318_0 := hcc318 0 _ rfl
      rw [Nat.add_zero, show ((Kd.slice 39 k39)).sz = 1 from rfl, Nat.mul_one] at hv318_0
      replace hv318_0 := Option.some.inj (hv318_0.symm.trans hx318_0)
      injection hv318_0 with hva_ hvn_ hvc_
      rw [hva_] at ge318_0
      rw [hvc_] at ul318_0
      have HL318_0 := Aside0.mk (show Kd.V k39 39 _ w.heap.size _ _ (rd_L2 y315 x10_1) from Kd.V_mk ul318_0 ge318_0)
      clear hva_ hvn_ hvc_ ge318_0 ul318_0
      clear hcc318 hce318
      have HR318_0 := Aside0.mk hi318_0
      have HC318_0 := Aside0.mk hl318_0
      clear hi318_0 hl318_0
      replace p318 := eq_true p318
      replace q318 := eq_true q318
      try go_wp2_with (first | ((with_reducible refine gate_callee (f := 15) rfl ?_); refine goesL_ (some 34) rfl rfl Try.func15 (by kernel_rfl) rfl #[.slice A318_0 (rd_L2 y315 x10_1).length c318_0] rfl (by (try simp only [List.map_toArray, List.map_cons, List.map_nil]); first | done | rfl | (simp only [List.length_drop, List.length_take]; rfl)) ?_; (with_reducible refine (worldmintref14_Total.calls k1 _ _ (rd_L2 y315 x10_1) t319 _ ?side1 ?side2 A16.out).mono ?_); (case side1 => repeat (first | exact (by repeat (first | (with_reducible exact HR318_0.out) | (with_reducible refine Kd.C_alloc ?_ _) | (with_reducible refine Kd.C_drewN ?_ _) | (with_reducible refine Kd.C_drew ?_) | exact HR318_0.out)) | (with_reducible refine Kd.C_alloc ?_ _) | (with_reducible refine Kd.C_drewN ?_ _) | (with_reducible refine Kd.C_drew ?_))); (case side2 => exact HC318_0.out); rintro e w27 ⟨rfl, hb⟩; refine ⟨_, rfl, ?_⟩; have n0_ := Aside0.mk (Kd.N_below (by (with_reducible repeat (first | apply Kd.N_alloc | apply Kd.N_drewN | apply Kd.N_drew)); exact HO_9.out) hb); have n1_ := Aside0.mk (Kd.V_below (by (with_reducible repeat (first | apply Kd.V_alloc | apply Kd.V_drewN | apply Kd.V_drew)); exact HL318_0.out) hb); have n2_ := Aside0.mk (Kd.C_below (by repeat (first | (with_reducible exact HR318_0.out) | (with_reducible refine Kd.C_alloc ?_ _) | (with_reducible refine Kd.C_drewN ?_ _) | (with_reducible refine Kd.C_drew ?_) | exact HR318_0.out)) hb); have n3_ := Aside0.mk (below_step (bw) hb); clear HO_9; clear HL318_0; clear HR318_0; clear HB; have HO_9 := n0_; have HL318_0 := n1_; have HR318_0 := n2_; have HB := n3_; clear n0_ n1_ n2_ n3_; (try clear hb); (try clear hb2); (try clear hk); (try clear hi)) | ((with_reducible refine gate_callee (f := 14) rfl ?_); refine goesL_ (some 38) rfl rfl Try.func14 (by kernel_rfl) rfl #[.int .i64 a2, .int .i64 (wrap64 (t319 + 2))] rfl (by (try simp only [List.map_toArray, List.map_cons, List.map_nil]); first | done | rfl | (simp only [List.length_drop, List.length_take]; rfl)) ?_; (with_reducible refine (worldmintref03_Around.calls a2 (wrap64 (t319 + 2)) t320 _ A17.out).mono ?_); rintro e w' ⟨rfl, ⟨nd, rfl⟩⟩; refine ⟨_, rfl, ?_⟩; have p321 : 0 ≤ (x10_1 : Int) := oda; have q321 : x10_1 < (y315.length : Int) := oda; obtain ⟨ad321, A321_0, c321_0, e321, hx321_0, hl321_0, hi321_0⟩ := at_L2 (Kd.N_reads' HO_9.out).2.2 x10_1 p321 q321; obtain rfl : ad318 = ad321 := (by injection e321); obtain ⟨ce321, hce321, hMe321, hcc321⟩ := Kd.N_get HO_9.out [] x10_1 p321 (by first | exact q321 | exact oda | (have e_ := (Kd.N_reads' HO_9.out).1; omega)); obtain ⟨ua321_0, uc321_0, rfl, ul321_0, ge321_0⟩ := Kd.FK_slice_open hMe321; have hv321_0 := hcc321 0 _ rfl; rw [Nat.add_zero, show ((Kd.slice 39 k39)).sz = 1 from rfl, Nat.mul_one] at hv321_0; replace hv321_0 := Option.some.inj (hv321_0.symm.trans hx321_0); injection hv321_0 with hva_ hvn_ hvc_; rw [hva_] at ge321_0; rw [hvc_] at ul321_0; have HL321_0 := Aside0.mk (show Kd.V k39 39 _ w.heap.size _ _ (rd_L2 y315 x10_1) from Kd.V_mk ul321_0 ge321_0); clear hva_ hvn_ hvc_ ge321_0 ul321_0; clear hcc321 hce321; have HR321_0 := Aside0.mk hi321_0; have HC321_0 := Aside0.mk hl321_0; clear hi321_0 hl321_0; replace p321 := eq_true p321; replace q321 := eq_true q321) | ((with_reducible refine gate_callee (f := 20) rfl ?_); refine goesL_ (some 46) rfl rfl Try.func20 (by kernel_rfl) rfl #[.slice A321_0 (rd_L2 y315 x10_1).length c321_0, .int .i64 a2, .int .i64 a3] rfl (by (try simp only [List.map_toArray, List.map_cons, List.map_nil]); first | done | rfl | (simp only [List.length_drop, List.length_take]; rfl)) ?_; (with_reducible refine (lots_Slice.calls k1 _ _ (rd_L2 y315 x10_1) a2 a3 t322 t323 _ ?side1 ?side2 A18.out).mono ?_); (case side1 => repeat (first | exact (by repeat (first | (with_reducible exact HR321_0.out) | (with_reducible refine Kd.C_alloc ?_ _) | (with_reducible refine Kd.C_drewN ?_ _) | (with_reducible refine Kd.C_drew ?_) | exact HR321_0.out)) | (with_reducible refine Kd.C_alloc ?_ _) | (with_reducible refine Kd.C_drewN ?_ _) | (with_reducible refine Kd.C_drew ?_))); (case side2 => exact HC321_0.out); rintro e w28 ⟨v324, rfl, ho0, hb⟩; refine ⟨_, rfl, ?_⟩; have n0_ := Aside0.mk (Kd.N_elder' (by (with_reducible repeat (first | apply Kd.N_alloc | apply Kd.N_drewN | apply Kd.N_drew)); exact HO_9.out) (Kd.R_base ho0) hb); have n1_ := Aside0.mk (Kd.V_elder' (by (with_reducible repeat (first | apply Kd.V_alloc | apply Kd.V_drewN | apply Kd.V_drew)); exact HL318_0.out) (Kd.R_base ho0) hb); have n2_ := Aside0.mk (Kd.V_elder' (by (with_reducible repeat (first | apply Kd.V_alloc | apply Kd.V_drewN | apply Kd.V_drew)); exact HL321_0.out) (Kd.R_base ho0) hb); have n3_ := Aside0.mk (Kd.R_lower ho0 (below_size (bw))); have n4_ := Aside0.mk (Kd.C_below (by repeat (first | (with_reducible exact HR318_0.out) | (with_reducible refine Kd.C_alloc ?_ _) | (with_reducible refine Kd.C_drewN ?_ _) | (with_reducible refine Kd.C_drew ?_) | exact HR318_0.out)) hb); have n5_ := Aside0.mk (Kd.C_below (by repeat (first | (with_reducible exact HR321_0.out) | (with_reducible refine Kd.C_alloc ?_ _) | (with_reducible refine Kd.C_drewN ?_ _) | (with_reducible refine Kd.C_drew ?_) | exact HR321_0.out)) hb); have n6_ := Aside0.mk (below_step (bw) hb); clear HO_9; clear HL318_0; clear HL321_0; clear HR318_0; clear HR321_0; clear HB; have HO_9 := n0_; have HL318_0 := n1_; have HL321_0 := n2_; have HO325 := n3_; have HR318_0 := n4_; have HR321_0 := n5_; have HB := n6_; clear n0_ n1_ n2_ n3_ n4_ n5_ n6_; (try clear hb); (try clear hb2); (try clear hk); (try clear hi); (try clear ho0); have p326 : 0 ≤ (x10_1 : Int) := oda; have q326 : x10_1 < (y315.length : Int) := oda; obtain ⟨ad326, A326_0, c326_0, e326, hx326_0, hl326_0, hi326_0⟩ := at_L2 (Kd.N_reads' HO_9.out).2.2 x10_1 p326 q326; obtain rfl : ad318 = ad326 := (by injection e326); obtain ⟨ce326, hce326, hMe326, hcc326⟩ := Kd.N_get HO_9.out [] x10_1 p326 (by first | exact q326 | exact oda | (have e_ := (Kd.N_reads' HO_9.out).1; omega)); obtain ⟨ua326_0, uc326_0, rfl, ul326_0, ge326_0⟩ := Kd.FK_slice_open hMe326; have hv326_0 := hcc326 0 _ rfl; rw [Nat.add_zero, show ((Kd.slice 39 k39)).sz = 1 from rfl, Nat.mul_one] at hv326_0; replace hv326_0 := Option.some.inj (hv326_0.symm.trans hx326_0); injection hv326_0 with hva_ hvn_ hvc_; rw [hva_] at ge326_0; rw [hvc_] at ul326_0; have HL326_0 := Aside0.mk (show Kd.V k39 39 _ w.heap.size _ _ (rd_L2 y315 x10_1) from Kd.V_mk ul326_0 ge326_0); clear hva_ hvn_ hvc_ ge326_0 ul326_0; clear hcc326 hce326; have HR326_0 := Aside0.mk hi326_0; have HC326_0 := Aside0.mk hl326_0; clear hi326_0 hl326_0; replace p326 := eq_true p326; replace q326 := eq_true q326) | ((with_reducible refine gate_callee (f := 21) rfl ?_); refine goesL_ (some 56) rfl rfl Try.func21 (by kernel_rfl) rfl #[.slice A326_0 (rd_L2 y315 x10_1).length c326_0, .int .i64 a2, .int .i64 a3] rfl (by (try simp only [List.map_toArray, List.map_cons, List.map_nil]); first | done | rfl | (simp only [List.length_drop, List.length_take]; rfl)) ?_; (with_reducible refine (worldmintref14_Slice.calls k1 _ _ (rd_L2 y315 x10_1) a2 a3 t327 t328 _ ?side1 ?side2 A19.out).mono ?_); (case side1 => repeat (first | exact (by repeat (first | (with_reducible exact HR326_0.out) | (with_reducible refine Kd.C_alloc ?_ _) | (with_reducible refine Kd.C_drewN ?_ _) | (with_reducible refine Kd.C_drew ?_) | exact HR326_0.out)) | (with_reducible refine Kd.C_alloc ?_ _) | (with_reducible refine Kd.C_drewN ?_ _) | (with_reducible refine Kd.C_drew ?_))); (case side2 => exact HC326_0.out); rintro e w29 ⟨v329, rfl, ho0, hb⟩; refine ⟨_, rfl, ?_⟩; have n0_ := Aside0.mk (Kd.N_elder' (by (with_reducible repeat (first | apply Kd.N_alloc | apply Kd.N_drewN | apply Kd.N_drew)); exact HO_9.out) (Kd.R_base ho0) hb); have n1_ := Aside0.mk (Kd.V_elder' (by (with_reducible repeat (first | apply Kd.V_alloc | apply Kd.V_drewN | apply Kd.V_drew)); exact HL318_0.out) (Kd.R_base ho0) hb); have n2_ := Aside0.mk (Kd.V_elder' (by (with_reducible repeat (first | apply Kd.V_alloc | apply Kd.V_drewN | apply Kd.V_drew)); exact HL321_0.out) (Kd.R_base ho0) hb); have n3_ := Aside0.mk (Kd.R_elder' (kr HO325.out) (Kd.R_base ho0) hb); have n4_ := Aside0.mk (Kd.V_elder' (by (with_reducible repeat (first | apply Kd.V_alloc | apply Kd.V_drewN | apply Kd.V_drew)); exact HL326_0.out) (Kd.R_base ho0) hb); have n5_ := Aside0.mk (Kd.R_lower (Kd.R_new' ho0 (Kd.R_lt (kr HO325.out))) (below_size (bw))); have n6_ := Aside0.mk (Kd.C_below (by repeat (first | (with_reducible exact HR318_0.out) | (with_reducible refine Kd.C_alloc ?_ _) | (with_reducible refine Kd.C_drewN ?_ _) | (with_reducible refine Kd.C_drew ?_) | exact HR318_0.out)) hb); have n7_ := Aside0.mk (Kd.C_below (by repeat (first | (with_reducible exact HR321_0.out) | (with_reducible refine Kd.C_alloc ?_ _) | (with_reducible refine Kd.C_drewN ?_ _) | (with_reducible refine Kd.C_drew ?_) | exact HR321_0.out)) hb); have n8_ := Aside0.mk (Kd.C_below (by repeat (first | (with_reducible exact HR326_0.out) | (with_reducible refine Kd.C_alloc ?_ _) | (with_reducible refine Kd.C_drewN ?_ _) | (with_reducible refine Kd.C_drew ?_) | exact HR326_0.out)) hb); have n9_ := Aside0.mk (below_step (bw) hb); clear HO_9; clear HL318_0; clear HL321_0; clear HO325; clear HL326_0; clear HR318_0; clear HR321_0; clear HR326_0; clear HB; have HO_9 := n0_; have HL318_0 := n1_; have HL321_0 := n2_; have HO325 := n3_; have HL326_0 := n4_; have HO330 := n5_; have HR318_0 := n6_; have HR321_0 := n7_; have HR326_0 := n8_; have HB := n9_; clear n0_ n1_ n2_ n3_ n4_ n5_ n6_ n7_ n8_ n9_; (try clear hb); (try clear hb2); (try clear hk); (try clear hi); (try clear ho0)))
      have n0_ := Aside0.mk (Kd.N_drew HO_9.out)
      have n1_ := Aside0.mk (Kd.V_drew HL318_0.out)
      have n2_ := Aside0.mk (Kd.V_drew HL321_0.out)
      have n3_ := Aside0.mk (Kd.R_drew HO325.out)
      have n4_ := Aside0.mk (Kd.V_drew HL326_0.out)
      have n5_ := Aside0.mk (Kd.R_drew HO330.out)
      have n6_ := Aside0.mk (Kd.C_drew HR318_0.out)
      have n7_ := Aside0.mk (Kd.C_drew HR321_0.out)
      have n8_ := Aside0.mk (Kd.C_drew HR326_0.out)
      have n9_ := Aside0.mk (below_drew1 HB.out)
      clear HO_9
      clear HL318_0
      clear HL321_0
      clear HO325
      clear HL326_0
      clear HO330
      clear HR318_0
      clear HR321_0
      clear HR326_0
      clear HB
      have HO_9 := n0_
      have HL318_0 := n1_
      have HL321_0 := n2_
      have HO325 := n3_
      have HL326_0 := n4_
      have HO330 := n5_
      have HR318_0 := n6_
      have HR321_0 := n7_
      have HR326_0 := n8_
      have HB := n9_
      clear n0_ n1_ n2_ n3_ n4_ n5_ n6_ n7_ n8_ n9_
      have p331 : 0 ≤ (x10_1 : Int) := oda
      have q331 : x10_1 < (y315.length : Int) := oda
      obtain ⟨ad331, A331_0, c331_0, e331, hx331_0, hl331_0, hi331_0⟩ := at_L2 (Kd.N_reads' HO_9.out).2.2 x10_1 p331 q331
      obtain rfl : ad318 = ad331 := (by injection e331)
      obtain ⟨ce331, hce331, hMe331, hcc331⟩ := Kd.N_get HO_9.out [] x10_1 p331 (by first | exact q331 | exact oda | (have e_ := (Kd.N_reads' HO_9.out).1; omega))
      obtain ⟨ua331_0, uc331_0, rfl, ul331_0, ge331_0⟩ := Kd.FK_slice_open hMe331
      have hv331_0 := hcc331 0 _ rfl
      rw [Nat.add_zero, show ((Kd.slice 39 k39)).sz = 1 from rfl, Nat.mul_one] at hv331_0
      replace hv331_0 := Option.some.inj (hv331_0.symm.trans hx331_0)
      injection hv331_0 with hva_ hvn_ hvc_
      rw [hva_] at ge331_0
      rw [hvc_] at ul331_0
      have HL331_0 := Aside0.mk (show Kd.V k39 39 _ w.heap.size _ _ (rd_L2 y315 x10_1) from Kd.V_mk ul331_0 ge331_0)
      clear hva_ hvn_ hvc_ ge331_0 ul331_0
      clear hcc331 hce331
      have HR331_0 := Aside0.mk hi331_0
      have HC331_0 := Aside0.mk hl331_0
      clear hi331_0 hl331_0
      replace p331 := eq_true p331
      replace q331 := eq_true q331
      refine start_ (n := 18) (S := fun w' => w'.cell? (ad318.add (x10_1).toNat) = some (.slice A331_0 (rd_L2 y315 x10_1).length c331_0)) (ds := []) (bs 18 0) (by kernel_rfl) rfl rfl (hx331_0) (fun hHeld => ?_); refine with_tabW worldmintlaw14_LotsSlice.tab9 worldmintlaw14_LotsSlice.bits9 (fun HT_ HW_ => ?_)
      generalize w29.drew = w30 at HO_9 HL318_0 HL321_0 HO325 HL326_0 HO330 HR318_0 HR321_0 HR326_0 HB HL331_0 HR331_0 hx331_0 hHeld ⊢
      refine pu 0 60 (bs 18 1) HT_ ?_
      refine pu 1 61 (bs 18 3) HT_ ?_
      refine pu 2 62 (bs 18 7) HT_ ?_
      refine pu 4 64 (bs 18 23) HT_ ?_
      refine pu 5 65 (bs 18 55) HT_ ?_
      refine pu 6 66 (bs 18 119) HT_ ?_
      refine pu 7 67 (bs 18 247) HT_ ?_
      refine pu 8 68 (bs 18 503) HT_ ?_
      refine pu 9 69 (bs 18 1015) HT_ ?_
      refine pu 10 70 (bs 18 2039) HT_ ?_
      refine take_ (i := 3) (N := some 63) (v := ?_) (a' := ?_) (bs 18 2047) rfl rfl (take_ofW HT_.out HW_.out (by kernel_rfl)) (fun _ _ _ h => h) (Or.inl ⟨by rfl, ?_⟩) hHeld ?_ ?_
      rotate_left
      ·intro w' s0
       go_simp
       with_reducible rfl
      rotate_left
      ·simp only [Act.put, List.setIfInBounds_toArray, List.set_cons_zero, List.set_cons_succ, i64_w, i32_w]
       rfl
      refine one_ (i := 11) (N := some 71) (bs 18 4095) rfl rfl (one_of HT_.out (by kernel_rfl)) (by decide) (fun K hK => ?_)
      refine goes_ Try.func14 (by kernel_rfl) rfl #[.int .i64 a3, .int .i64 ji20] (by rfl) rfl rfl (by (try simp only [List.map_toArray, List.map_cons, List.map_nil]); first | done | (simp only [hji20]; rfl) | rfl | (simp only [List.length_drop, List.length_take]; rfl)) ?_
      with_reducible refine (worldmintref03_Around.calls a3 ji20 t332 _ A21.out).mono ?_
      rintro e w' ⟨rfl, ⟨nd, rfl⟩⟩
      refine ⟨_, rfl, ?_⟩
      refine hK.out _ _ (hHeld) (fun hHeld => ?_)
      clear hK K
      refine norm_ (a' := ?_) ?_ ?_
      rotate_left
      ·show Act.put _ (some 71) _ = _
       simp only [Act.put, List.setIfInBounds_toArray, List.set_cons_zero, List.set_cons_succ, i64_w, i32_w]
       rfl
      refine one_ (i := 12) (N := some 72) (bs 18 8191) rfl rfl (one_of HT_.out (by kernel_rfl)) (by decide) (fun K hK => ?_)
      refine goes_ Try.func20 (by kernel_rfl) rfl #[.slice A331_0 (rd_L2 y315 x10_1).length c331_0, .int .i64 t320, .int .i64 t332] (by rfl) rfl rfl (by (try simp only [List.map_toArray, List.map_cons, List.map_nil]); first | done | rfl | (simp only [List.length_drop, List.length_take]; rfl)) ?_
      with_reducible refine (lots_Slice.calls k1 _ _ (rd_L2 y315 x10_1) t320 t332 t333 t334 _ ?side1 ?side2 A22.out).mono ?_
      (case side1 => repeat (first | exact (by repeat (first | (with_reducible exact HR331_0.out) | (with_reducible refine Kd.C_alloc ?_ _) | (with_reducible refine Kd.C_drewN ?_ _) | (with_reducible refine Kd.C_drew ?_) | exact HR331_0.out)) | (with_reducible refine Kd.C_alloc ?_ _) | (with_reducible refine Kd.C_drewN ?_ _) | (with_reducible refine Kd.C_drew ?_)))
      (case side2 => exact HC331_0.out)
      rintro e w31 ⟨v335, rfl, ho0, hb⟩
      have HS0_ := (hb.cell (World.block_lt_of_cell? _ _ (hHeld))).trans (hHeld)
      refine ⟨_, rfl, ?_⟩
      have n0_ := Aside0.mk (Kd.N_elder' (by (with_reducible repeat (first | apply Kd.N_alloc | apply Kd.N_drewN | apply Kd.N_drew)); exact HO_9.out) (Kd.R_base ho0) hb)
      have n1_ := Aside0.mk (Kd.V_elder' (by (with_reducible repeat (first | apply Kd.V_alloc | apply Kd.V_drewN | apply Kd.V_drew)); exact HL318_0.out) (Kd.R_base ho0) hb)
      have n2_ := Aside0.mk (Kd.V_elder' (by (with_reducible repeat (first | apply Kd.V_alloc | apply Kd.V_drewN | apply Kd.V_drew)); exact HL321_0.out) (Kd.R_base ho0) hb)
      have n3_ := Aside0.mk (Kd.R_elder' (kr HO325.out) (Kd.R_base ho0) hb)
      have n4_ := Aside0.mk (Kd.V_elder' (by (with_reducible repeat (first | apply Kd.V_alloc | apply Kd.V_drewN | apply Kd.V_drew)); exact HL326_0.out) (Kd.R_base ho0) hb)
      have n5_ := Aside0.mk (Kd.R_elder' (kr HO330.out) (Kd.R_base ho0) hb)
      have n6_ := Aside0.mk (Kd.V_elder' (by (with_reducible repeat (first | apply Kd.V_alloc | apply Kd.V_drewN | apply Kd.V_drew)); exact HL331_0.out) (Kd.R_base ho0) hb)
      have n7_ := Aside0.mk (Kd.R_lower (Kd.R_new' (Kd.R_new' ho0 (Kd.R_lt (kr HO325.out))) (Kd.R_lt (kr HO330.out))) (below_size (bw)))
      have n8_ := Aside0.mk (Kd.C_below (by repeat (first | (with_reducible exact HR318_0.out) | (with_reducible refine Kd.C_alloc ?_ _) | (with_reducible refine Kd.C_drewN ?_ _) | (with_reducible refine Kd.C_drew ?_) | exact HR318_0.out)) hb)
      have n9_ := Aside0.mk (Kd.C_below (by repeat (first | (with_reducible exact HR321_0.out) | (with_reducible refine Kd.C_alloc ?_ _) | (with_reducible refine Kd.C_drewN ?_ _) | (with_reducible refine Kd.C_drew ?_) | exact HR321_0.out)) hb)
      have n10_ := Aside0.mk (Kd.C_below (by repeat (first | (with_reducible exact HR326_0.out) | (with_reducible refine Kd.C_alloc ?_ _) | (with_reducible refine Kd.C_drewN ?_ _) | (with_reducible refine Kd.C_drew ?_) | exact HR326_0.out)) hb)
      have n11_ := Aside0.mk (Kd.C_below (by repeat (first | (with_reducible exact HR331_0.out) | (with_reducible refine Kd.C_alloc ?_ _) | (with_reducible refine Kd.C_drewN ?_ _) | (with_reducible refine Kd.C_drew ?_) | exact HR331_0.out)) hb)
      have n12_ := Aside0.mk (below_step (bw) hb)
      clear HO_9
      clear HL318_0
      clear HL321_0
      clear HO325
      clear HL326_0
      clear HO330
      clear HL331_0
      clear HR318_0
      clear HR321_0
      clear HR326_0
      clear HR331_0
      clear HB
      have HO_9 := n0_
      have HL318_0 := n1_
      have HL321_0 := n2_
      have HO325 := n3_
      have HL326_0 := n4_
      have HO330 := n5_
      have HL331_0 := n6_
      have HO336 := n7_
      have HR318_0 := n8_
      have HR321_0 := n9_
      have HR326_0 := n10_
      have HR331_0 := n11_
      have HB := n12_
      clear n0_ n1_ n2_ n3_ n4_ n5_ n6_ n7_ n8_ n9_ n10_ n11_ n12_
      (try clear hb)
      (try clear hb2)
      (try clear hk)
      (try clear hi)
      (try clear ho0)
      refine hK.out _ _ (HS0_) (fun hHeld => ?_)
      clear hK K
      refine norm_ (a' := ?_) ?_ ?_
      rotate_left
      ·show Act.put _ (some 72) _ = _
       simp only [Act.put, List.setIfInBounds_toArray, List.set_cons_zero, List.set_cons_succ, i64_w, i32_w]
       rfl
      refine pu 13 59 (bs 18 16383) HT_ ?_
      refine pu 14 73 (bs 18 32767) HT_ ?_
      refine pu 15 74 (bs 18 65535) HT_ ?_
      refine pu 16 17 (bs 18 131071) HT_ ?_
      refine pu 17 18 (bs 18 262143) HT_ ?_
      refine done_ (done_of HT_.out (by kernel_rfl)) ?_
      try go_wp2
      have n0_ := Aside0.mk (Kd.N_drew HO_9.out)
      have n1_ := Aside0.mk (Kd.V_drew HL318_0.out)
      have n2_ := Aside0.mk (Kd.V_drew HL321_0.out)
      have n3_ := Aside0.mk (Kd.R_drew HO325.out)
      have n4_ := Aside0.mk (Kd.V_drew HL326_0.out)
      have n5_ := Aside0.mk (Kd.R_drew HO330.out)
      have n6_ := Aside0.mk (Kd.V_drew HL331_0.out)
      have n7_ := Aside0.mk (Kd.R_drew HO336.out)
      have n8_ := Aside0.mk (Kd.C_drew HR318_0.out)
      have n9_ := Aside0.mk (Kd.C_drew HR321_0.out)
      have n10_ := Aside0.mk (Kd.C_drew HR326_0.out)
      have n11_ := Aside0.mk (Kd.C_drew HR331_0.out)
      have n12_ := Aside0.mk (below_drew1 HB.out)
      clear HO_9
      clear HL318_0
      clear HL321_0
      clear HO325
      clear HL326_0
      clear HO330
      clear HL331_0
      clear HO336
      clear HR318_0
      clear HR321_0
      clear HR326_0
      clear HR331_0
      clear HB
      have HO_9 := n0_
      have HL318_0 := n1_
      have HL321_0 := n2_
      have HO325 := n3_
      have HL326_0 := n4_
      have HO330 := n5_
      have HL331_0 := n6_
      have HO336 := n7_
      have HR318_0 := n8_
      have HR321_0 := n9_
      have HR326_0 := n10_
      have HR331_0 := n11_
      have HB := n12_
      clear n0_ n1_ n2_ n3_ n4_ n5_ n6_ n7_ n8_ n9_ n10_ n11_ n12_
      have p337 : 0 ≤ (x10_1 : Int) := oda
      have q337 : x10_1 < (y315.length : Int) := oda
      obtain ⟨ad337, A337_0, c337_0, e337, hx337_0, hl337_0, hi337_0⟩ := at_L2 (Kd.N_reads' HO_9.out).2.2 x10_1 p337 q337
      obtain rfl : ad318 = ad337 := (by injection e337)
      obtain ⟨ce337, hce337, hMe337, hcc337⟩ := Kd.N_get HO_9.out [] x10_1 p337 (by first | exact q337 | exact oda | (have e_ := (Kd.N_reads' HO_9.out).1; omega))
      obtain ⟨ua337_0, uc337_0, rfl, ul337_0, ge337_0⟩ := Kd.FK_slice_open hMe337
      have hv337_0 := hcc337 0 _ rfl
      rw [Nat.add_zero, show ((Kd.slice 39 k39)).sz = 1 from rfl, Nat.mul_one] at hv337_0
      replace hv337_0 := Option.some.inj (hv337_0.symm.trans hx337_0)
      injection hv337_0 with hva_ hvn_ hvc_
      rw [hva_] at ge337_0
      rw [hvc_] at ul337_0
      have HL337_0 := Aside0.mk (show Kd.V k39 39 _ w.heap.size _ _ (rd_L2 y315 x10_1) from Kd.V_mk ul337_0 ge337_0)
      clear hva_ hvn_ hvc_ ge337_0 ul337_0
      clear hcc337 hce337
      have HR337_0 := Aside0.mk hi337_0
      have HC337_0 := Aside0.mk hl337_0
      clear hi337_0 hl337_0
      replace p337 := eq_true p337
      replace q337 := eq_true q337
      refine start_ (n := 18) (S := fun w' => w'.cell? (ad318.add (x10_1).toNat) = some (.slice A337_0 (rd_L2 y315 x10_1).length c337_0)) (ds := []) (bs 18 0) (by kernel_rfl) rfl rfl (hx337_0) (fun hHeld => ?_); refine with_tabW worldmintlaw14_LotsSlice.tab10 worldmintlaw14_LotsSlice.bits10 (fun HT_ HW_ => ?_)
      generalize w31.drew = w32 at HO_9 HL318_0 HL321_0 HO325 HL326_0 HO330 HL331_0 HO336 HR318_0 HR321_0 HR326_0 HR331_0 HB HL337_0 HR337_0 hx337_0 hHeld ⊢
      refine pu 0 76 (bs 18 1) HT_ ?_
      refine pu 1 77 (bs 18 3) HT_ ?_
      refine pu 2 78 (bs 18 7) HT_ ?_
      refine pu 4 80 (bs 18 23) HT_ ?_
      refine pu 5 81 (bs 18 55) HT_ ?_
      refine pu 6 82 (bs 18 119) HT_ ?_
      refine pu 7 83 (bs 18 247) HT_ ?_
      refine pu 8 84 (bs 18 503) HT_ ?_
      refine pu 9 85 (bs 18 1015) HT_ ?_
      refine pu 10 86 (bs 18 2039) HT_ ?_
      refine take_ (i := 3) (N := some 79) (v := ?_) (a' := ?_) (bs 18 2047) rfl rfl (take_ofW HT_.out HW_.out (by kernel_rfl)) (fun _ _ _ h => h) (Or.inl ⟨by rfl, ?_⟩) hHeld ?_ ?_
      rotate_left
      ·intro w' s0
       go_simp
       with_reducible rfl
      rotate_left
      ·simp only [Act.put, List.setIfInBounds_toArray, List.set_cons_zero, List.set_cons_succ, i64_w, i32_w]
       rfl
      refine one_ (i := 11) (N := some 87) (bs 18 4095) rfl rfl (one_of HT_.out (by kernel_rfl)) (by decide) (fun K hK => ?_)
      refine goes_ Try.func14 (by kernel_rfl) rfl #[.int .i64 a3, .int .i64 ji20] (by rfl) rfl rfl (by (try simp only [List.map_toArray, List.map_cons, List.map_nil]); first | done | (simp only [hji20]; rfl) | rfl | (simp only [List.length_drop, List.length_take]; rfl)) ?_
      with_reducible refine (worldmintref03_Around.calls a3 ji20 t338 _ A23.out).mono ?_
      rintro e w' ⟨rfl, ⟨nd, rfl⟩⟩
      refine ⟨_, rfl, ?_⟩
      refine hK.out _ _ (hHeld) (fun hHeld => ?_)
      clear hK K
      refine norm_ (a' := ?_) ?_ ?_
      rotate_left
      ·show Act.put _ (some 87) _ = _
       simp only [Act.put, List.setIfInBounds_toArray, List.set_cons_zero, List.set_cons_succ, i64_w, i32_w]
       rfl
      refine one_ (i := 12) (N := some 88) (bs 18 8191) rfl rfl (one_of HT_.out (by kernel_rfl)) (by decide) (fun K hK => ?_)
      refine goes_ Try.func21 (by kernel_rfl) rfl #[.slice A337_0 (rd_L2 y315 x10_1).length c337_0, .int .i64 t320, .int .i64 t338] (by rfl) rfl rfl (by (try simp only [List.map_toArray, List.map_cons, List.map_nil]); first | done | rfl | (simp only [List.length_drop, List.length_take]; rfl)) ?_
      with_reducible refine (worldmintref14_Slice.calls k1 _ _ (rd_L2 y315 x10_1) t320 t338 t339 t340 _ ?side1 ?side2 A24.out).mono ?_
      (case side1 => repeat (first | exact (by repeat (first | (with_reducible exact HR337_0.out) | (with_reducible refine Kd.C_alloc ?_ _) | (with_reducible refine Kd.C_drewN ?_ _) | (with_reducible refine Kd.C_drew ?_) | exact HR337_0.out)) | (with_reducible refine Kd.C_alloc ?_ _) | (with_reducible refine Kd.C_drewN ?_ _) | (with_reducible refine Kd.C_drew ?_)))
      (case side2 => exact HC337_0.out)
      rintro e w33 ⟨v341, rfl, ho0, hb⟩
      have HS0_ := (hb.cell (World.block_lt_of_cell? _ _ (hHeld))).trans (hHeld)
      refine ⟨_, rfl, ?_⟩
      have n0_ := Aside0.mk (Kd.N_elder' (by (with_reducible repeat (first | apply Kd.N_alloc | apply Kd.N_drewN | apply Kd.N_drew)); exact HO_9.out) (Kd.R_base ho0) hb)
      have n1_ := Aside0.mk (Kd.V_elder' (by (with_reducible repeat (first | apply Kd.V_alloc | apply Kd.V_drewN | apply Kd.V_drew)); exact HL318_0.out) (Kd.R_base ho0) hb)
      have n2_ := Aside0.mk (Kd.V_elder' (by (with_reducible repeat (first | apply Kd.V_alloc | apply Kd.V_drewN | apply Kd.V_drew)); exact HL321_0.out) (Kd.R_base ho0) hb)
      have n3_ := Aside0.mk (Kd.R_elder' (kr HO325.out) (Kd.R_base ho0) hb)
      have n4_ := Aside0.mk (Kd.V_elder' (by (with_reducible repeat (first | apply Kd.V_alloc | apply Kd.V_drewN | apply Kd.V_drew)); exact HL326_0.out) (Kd.R_base ho0) hb)
      have n5_ := Aside0.mk (Kd.R_elder' (kr HO330.out) (Kd.R_base ho0) hb)
      have n6_ := Aside0.mk (Kd.V_elder' (by (with_reducible repeat (first | apply Kd.V_alloc | apply Kd.V_drewN | apply Kd.V_drew)); exact HL331_0.out) (Kd.R_base ho0) hb)
      have n7_ := Aside0.mk (Kd.R_elder' (kr HO336.out) (Kd.R_base ho0) hb)
      have n8_ := Aside0.mk (Kd.V_elder' (by (with_reducible repeat (first | apply Kd.V_alloc | apply Kd.V_drewN | apply Kd.V_drew)); exact HL337_0.out) (Kd.R_base ho0) hb)
      have n9_ := Aside0.mk (Kd.R_lower (Kd.R_new' (Kd.R_new' (Kd.R_new' ho0 (Kd.R_lt (kr HO325.out))) (Kd.R_lt (kr HO330.out))) (Kd.R_lt (kr HO336.out))) (below_size (bw)))
      have n10_ := Aside0.mk (Kd.C_below (by repeat (first | (with_reducible exact HR318_0.out) | (with_reducible refine Kd.C_alloc ?_ _) | (with_reducible refine Kd.C_drewN ?_ _) | (with_reducible refine Kd.C_drew ?_) | exact HR318_0.out)) hb)
      have n11_ := Aside0.mk (Kd.C_below (by repeat (first | (with_reducible exact HR321_0.out) | (with_reducible refine Kd.C_alloc ?_ _) | (with_reducible refine Kd.C_drewN ?_ _) | (with_reducible refine Kd.C_drew ?_) | exact HR321_0.out)) hb)
      have n12_ := Aside0.mk (Kd.C_below (by repeat (first | (with_reducible exact HR326_0.out) | (with_reducible refine Kd.C_alloc ?_ _) | (with_reducible refine Kd.C_drewN ?_ _) | (with_reducible refine Kd.C_drew ?_) | exact HR326_0.out)) hb)
      have n13_ := Aside0.mk (Kd.C_below (by repeat (first | (with_reducible exact HR331_0.out) | (with_reducible refine Kd.C_alloc ?_ _) | (with_reducible refine Kd.C_drewN ?_ _) | (with_reducible refine Kd.C_drew ?_) | exact HR331_0.out)) hb)
      have n14_ := Aside0.mk (Kd.C_below (by repeat (first | (with_reducible exact HR337_0.out) | (with_reducible refine Kd.C_alloc ?_ _) | (with_reducible refine Kd.C_drewN ?_ _) | (with_reducible refine Kd.C_drew ?_) | exact HR337_0.out)) hb)
      have n15_ := Aside0.mk (below_step (bw) hb)
      clear HO_9
      clear HL318_0
      clear HL321_0
      clear HO325
      clear HL326_0
      clear HO330
      clear HL331_0
      clear HO336
      clear HL337_0
      clear HR318_0
      clear HR321_0
      clear HR326_0
      clear HR331_0
      clear HR337_0
      clear HB
      have HO_9 := n0_
      have HL318_0 := n1_
      have HL321_0 := n2_
      have HO325 := n3_
      have HL326_0 := n4_
      have HO330 := n5_
      have HL331_0 := n6_
      have HO336 := n7_
      have HL337_0 := n8_
      have HO342 := n9_
      have HR318_0 := n10_
      have HR321_0 := n11_
      have HR326_0 := n12_
      have HR331_0 := n13_
      have HR337_0 := n14_
      have HB := n15_
      clear n0_ n1_ n2_ n3_ n4_ n5_ n6_ n7_ n8_ n9_ n10_ n11_ n12_ n13_ n14_ n15_
      (try clear hb)
      (try clear hb2)
      (try clear hk)
      (try clear hi)
      (try clear ho0)
      refine hK.out _ _ (HS0_) (fun hHeld => ?_)
      clear hK K
      refine norm_ (a' := ?_) ?_ ?_
      rotate_left
      ·show Act.put _ (some 88) _ = _
       simp only [Act.put, List.setIfInBounds_toArray, List.set_cons_zero, List.set_cons_succ, i64_w, i32_w]
       rfl
      refine pu 13 75 (bs 18 16383) HT_ ?_
      refine pu 14 89 (bs 18 32767) HT_ ?_
      refine pu 15 90 (bs 18 65535) HT_ ?_
      refine pu 16 19 (bs 18 131071) HT_ ?_
      refine pu 17 20 (bs 18 262143) HT_ ?_
      refine done_ (done_of HT_.out (by kernel_rfl)) ?_
      go_upto_region 11 with (fail)
      go_cut [110] (fun v110 wc => ∃ (kq : Nat) (x110_24 : Bool), v110 = .bool x110_24 ∧ Aside0 (worldmintlaw14_LotsSlice.j1 kq a2 a3 y315 x10_1 x110_24 = some r) ∧ Aside0 (kq ≤ k1) ∧ Aside0 (Kd.N (Kd.slice 39 k39) 22 wc w.heap.size (fun _ => True) (.slice (some ad318) y315.length co26) y315) ∧ Aside0 (Kd.C k39 wc A318_0 (rd_L2 y315 x10_1).length (rd_L2 y315 x10_1)) ∧ Aside0 (Kd.C k39 wc A321_0 (rd_L2 y315 x10_1).length (rd_L2 y315 x10_1)) ∧ Aside0 (Kd.C k39 wc A326_0 (rd_L2 y315 x10_1).length (rd_L2 y315 x10_1)) ∧ Aside0 (Kd.C k39 wc A331_0 (rd_L2 y315 x10_1).length (rd_L2 y315 x10_1)) ∧ Aside0 (Kd.C k39 wc A337_0 (rd_L2 y315 x10_1).length (rd_L2 y315 x10_1)) ∧ Aside0 (Below w.heap.size w wc))
      case first =>
       have H := HC25.out
       clear HC25
       by_cases c34 : t323 = t328
       ·rw [if_pos c34] at H
        have c34b0 : (t323 == t328) = true := beq_iff_eq.mpr c34
        have c34b1 : (t323 != t328) = false := bne_eq_false_iff_eq.mpr c34
        clear c34
        (first | rw [c34b0] | (simp only [i64_w, i32_w]; rw [c34b0]) | skip)
        by_cases c35 : t334 = t340
        ·rw [if_pos c35] at H
         have c35b0 : (t334 == t340) = true := beq_iff_eq.mpr c35
         have c35b1 : (t334 != t340) = false := bne_eq_false_iff_eq.mpr c35
         clear c35
         replace H := Option.bind_eq_some_iff.mp H
         obtain ⟨t343, A360, H⟩ := H
         replace H : (if t343 = true then ((worldmintref14_Same.f k1 t333 t339).bind fun t344 => (worldmintlaw14_LotsSlice.j1 k1 a2 a3 y315 x10_1 (!t344))) else (worldmintlaw14_LotsSlice.j1 k1 a2 a3 y315 x10_1 true)) = some r := H
         have A36 := Aside0.mk A360
         clear A360
         by_cases c37 : t343 = true
         ·subst c37
          have H1 : ((worldmintref14_Same.f k1 t333 t339).bind fun t344 => (worldmintlaw14_LotsSlice.j1 k1 a2 a3 y315 x10_1 (!t344))) = some r := by rw [if_pos rfl] at H; exact H
          clear H
          have H := H1
          clear H1
          replace H := Option.bind_eq_some_iff.mp H
          obtain ⟨t344, A380, H⟩ := H
          replace H : (worldmintlaw14_LotsSlice.j1 k1 a2 a3 y315 x10_1 (!t344)) = some r := H
          have A38 := Aside0.mk A380
          clear A380
          have H' := Aside0.mk H
          clear H
          obtain ⟨Ao39, co39, eo39⟩ := Kd.R_slice HO325.out
          subst eo39
          obtain ⟨Ao40, co40, eo40⟩ := Kd.R_slice HO330.out
          subst eo40
          go_wp2_with (first | (go_at_call 18; (with_reducible refine (worldmintref14_Same.calls k1 _ _ t322 _ _ t327 true _ ?side1 ?side2 ?side3 ?side4 A36.out).mono ?_); (case side1 => repeat (first | exact (Kd.R_reads' HO325.out).2.2 | (with_reducible refine Kd.C_alloc ?_ _) | (with_reducible refine Kd.C_drewN ?_ _) | (with_reducible refine Kd.C_drew ?_))); (case side2 => exact (Kd.R_reads' HO325.out).2.1); (case side3 => repeat (first | exact (Kd.R_reads' HO330.out).2.2 | (with_reducible refine Kd.C_alloc ?_ _) | (with_reducible refine Kd.C_drewN ?_ _) | (with_reducible refine Kd.C_drew ?_))); (case side4 => exact (Kd.R_reads' HO330.out).2.1); rintro e w' ⟨rfl, ⟨nd, rfl⟩⟩; obtain ⟨Ao41, co41, eo41⟩ := Kd.R_slice HO336.out; subst eo41; obtain ⟨Ao42, co42, eo42⟩ := Kd.R_slice HO342.out; subst eo42) | (go_at_call 18; (with_reducible refine (worldmintref14_Same.calls k1 _ _ t333 _ _ t339 t344 _ ?side1 ?side2 ?side3 ?side4 A38.out).mono ?_); (case side1 => repeat (first | exact (Kd.R_reads' HO336.out).2.2 | (with_reducible refine Kd.C_alloc ?_ _) | (with_reducible refine Kd.C_drewN ?_ _) | (with_reducible refine Kd.C_drew ?_))); (case side2 => exact (Kd.R_reads' HO336.out).2.1); (case side3 => repeat (first | exact (Kd.R_reads' HO342.out).2.2 | (with_reducible refine Kd.C_alloc ?_ _) | (with_reducible refine Kd.C_drewN ?_ _) | (with_reducible refine Kd.C_drew ?_))); (case side4 => exact (Kd.R_reads' HO342.out).2.1); rintro e w' ⟨rfl, ⟨nd, rfl⟩⟩))
          go_meet
          case rel => exact ⟨_, (!t344), eqs, H', ⟨by have := HK1.out; first | omega | exact Nat.le_refl _⟩, ⟨by (with_reducible repeat (first | apply Kd.N_alloc | apply Kd.N_drewN | apply Kd.N_drew)); exact Kd.N_mono HO_9.out (fun _ hk => trivial)⟩, ⟨by repeat (first | (with_reducible exact HR318_0.out) | (with_reducible refine Kd.C_alloc ?_ _) | (with_reducible refine Kd.C_drewN ?_ _) | (with_reducible refine Kd.C_drew ?_) | exact HR318_0.out)⟩, ⟨by repeat (first | (with_reducible exact HR321_0.out) | (with_reducible refine Kd.C_alloc ?_ _) | (with_reducible refine Kd.C_drewN ?_ _) | (with_reducible refine Kd.C_drew ?_) | exact HR321_0.out)⟩, ⟨by repeat (first | (with_reducible exact HR326_0.out) | (with_reducible refine Kd.C_alloc ?_ _) | (with_reducible refine Kd.C_drewN ?_ _) | (with_reducible refine Kd.C_drew ?_) | exact HR326_0.out)⟩, ⟨by repeat (first | (with_reducible exact HR331_0.out) | (with_reducible refine Kd.C_alloc ?_ _) | (with_reducible refine Kd.C_drewN ?_ _) | (with_reducible refine Kd.C_drew ?_) | exact HR331_0.out)⟩, ⟨by repeat (first | (with_reducible exact HR337_0.out) | (with_reducible refine Kd.C_alloc ?_ _) | (with_reducible refine Kd.C_drewN ?_ _) | (with_reducible refine Kd.C_drew ?_) | exact HR337_0.out)⟩, ⟨bw⟩⟩
         ·replace c37 := Bool.eq_false_iff.mpr c37
          subst c37
          have H1 : (worldmintlaw14_LotsSlice.j1 k1 a2 a3 y315 x10_1 true) = some r := by rw [if_neg (show ¬ (false = true) by decide)] at H; exact H
          clear H
          have H := H1
          clear H1
          have H' := Aside0.mk H
          clear H
          obtain ⟨Ao43, co43, eo43⟩ := Kd.R_slice HO325.out
          subst eo43
          obtain ⟨Ao44, co44, eo44⟩ := Kd.R_slice HO330.out
          subst eo44
          go_wp2_with (first | (go_at_call 18; (with_reducible refine (worldmintref14_Same.calls k1 _ _ t322 _ _ t327 false _ ?side1 ?side2 ?side3 ?side4 A36.out).mono ?_); (case side1 => repeat (first | exact (Kd.R_reads' HO325.out).2.2 | (with_reducible refine Kd.C_alloc ?_ _) | (with_reducible refine Kd.C_drewN ?_ _) | (with_reducible refine Kd.C_drew ?_))); (case side2 => exact (Kd.R_reads' HO325.out).2.1); (case side3 => repeat (first | exact (Kd.R_reads' HO330.out).2.2 | (with_reducible refine Kd.C_alloc ?_ _) | (with_reducible refine Kd.C_drewN ?_ _) | (with_reducible refine Kd.C_drew ?_))); (case side4 => exact (Kd.R_reads' HO330.out).2.1); rintro e w' ⟨rfl, ⟨nd, rfl⟩⟩))
          go_meet
          case rel => exact ⟨_, (true), eqs, H', ⟨by have := HK1.out; first | omega | exact Nat.le_refl _⟩, ⟨by (with_reducible repeat (first | apply Kd.N_alloc | apply Kd.N_drewN | apply Kd.N_drew)); exact Kd.N_mono HO_9.out (fun _ hk => trivial)⟩, ⟨by repeat (first | (with_reducible exact HR318_0.out) | (with_reducible refine Kd.C_alloc ?_ _) | (with_reducible refine Kd.C_drewN ?_ _) | (with_reducible refine Kd.C_drew ?_) | exact HR318_0.out)⟩, ⟨by repeat (first | (with_reducible exact HR321_0.out) | (with_reducible refine Kd.C_alloc ?_ _) | (with_reducible refine Kd.C_drewN ?_ _) | (with_reducible refine Kd.C_drew ?_) | exact HR321_0.out)⟩, ⟨by repeat (first | (with_reducible exact HR326_0.out) | (with_reducible refine Kd.C_alloc ?_ _) | (with_reducible refine Kd.C_drewN ?_ _) | (with_reducible refine Kd.C_drew ?_) | exact HR326_0.out)⟩, ⟨by repeat (first | (with_reducible exact HR331_0.out) | (with_reducible refine Kd.C_alloc ?_ _) | (with_reducible refine Kd.C_drewN ?_ _) | (with_reducible refine Kd.C_drew ?_) | exact HR331_0.out)⟩, ⟨by repeat (first | (with_reducible exact HR337_0.out) | (with_reducible refine Kd.C_alloc ?_ _) | (with_reducible refine Kd.C_drewN ?_ _) | (with_reducible refine Kd.C_drew ?_) | exact HR337_0.out)⟩, ⟨bw⟩⟩
        ·rw [if_neg c35] at H
         have c35b0 : (t334 == t340) = false := beq_eq_false_iff_ne.mpr c35
         have c35b1 : (t334 != t340) = true := bne_iff_ne.mpr c35
         have H' := Aside0.mk H
         clear H
         go_wp2
         go_meet
         case rel => exact ⟨_, (true), eqs, H', ⟨by have := HK1.out; first | omega | exact Nat.le_refl _⟩, ⟨by (with_reducible repeat (first | apply Kd.N_alloc | apply Kd.N_drewN | apply Kd.N_drew)); exact Kd.N_mono HO_9.out (fun _ hk => trivial)⟩, ⟨by repeat (first | (with_reducible exact HR318_0.out) | (with_reducible refine Kd.C_alloc ?_ _) | (with_reducible refine Kd.C_drewN ?_ _) | (with_reducible refine Kd.C_drew ?_) | exact HR318_0.out)⟩, ⟨by repeat (first | (with_reducible exact HR321_0.out) | (with_reducible refine Kd.C_alloc ?_ _) | (with_reducible refine Kd.C_drewN ?_ _) | (with_reducible refine Kd.C_drew ?_) | exact HR321_0.out)⟩, ⟨by repeat (first | (with_reducible exact HR326_0.out) | (with_reducible refine Kd.C_alloc ?_ _) | (with_reducible refine Kd.C_drewN ?_ _) | (with_reducible refine Kd.C_drew ?_) | exact HR326_0.out)⟩, ⟨by repeat (first | (with_reducible exact HR331_0.out) | (with_reducible refine Kd.C_alloc ?_ _) | (with_reducible refine Kd.C_drewN ?_ _) | (with_reducible refine Kd.C_drew ?_) | exact HR331_0.out)⟩, ⟨by repeat (first | (with_reducible exact HR337_0.out) | (with_reducible refine Kd.C_alloc ?_ _) | (with_reducible refine Kd.C_drewN ?_ _) | (with_reducible refine Kd.C_drew ?_) | exact HR337_0.out)⟩, ⟨bw⟩⟩
       ·rw [if_neg c34] at H
        have c34b0 : (t323 == t328) = false := beq_eq_false_iff_ne.mpr c34
        have c34b1 : (t323 != t328) = true := bne_iff_ne.mpr c34
        (first | rw [c34b0] | (simp only [i64_w, i32_w]; rw [c34b0]) | skip)
        have H' := Aside0.mk H
        clear H
        go_wp2
        go_meet
        case rel => exact ⟨_, (true), eqs, H', ⟨by have := HK1.out; first | omega | exact Nat.le_refl _⟩, ⟨by (with_reducible repeat (first | apply Kd.N_alloc | apply Kd.N_drewN | apply Kd.N_drew)); exact Kd.N_mono HO_9.out (fun _ hk => trivial)⟩, ⟨by repeat (first | (with_reducible exact HR318_0.out) | (with_reducible refine Kd.C_alloc ?_ _) | (with_reducible refine Kd.C_drewN ?_ _) | (with_reducible refine Kd.C_drew ?_) | exact HR318_0.out)⟩, ⟨by repeat (first | (with_reducible exact HR321_0.out) | (with_reducible refine Kd.C_alloc ?_ _) | (with_reducible refine Kd.C_drewN ?_ _) | (with_reducible refine Kd.C_drew ?_) | exact HR321_0.out)⟩, ⟨by repeat (first | (with_reducible exact HR326_0.out) | (with_reducible refine Kd.C_alloc ?_ _) | (with_reducible refine Kd.C_drewN ?_ _) | (with_reducible refine Kd.C_drew ?_) | exact HR326_0.out)⟩, ⟨by repeat (first | (with_reducible exact HR331_0.out) | (with_reducible refine Kd.C_alloc ?_ _) | (with_reducible refine Kd.C_drewN ?_ _) | (with_reducible refine Kd.C_drew ?_) | exact HR331_0.out)⟩, ⟨by repeat (first | (with_reducible exact HR337_0.out) | (with_reducible refine Kd.C_alloc ?_ _) | (with_reducible refine Kd.C_drewN ?_ _) | (with_reducible refine Kd.C_drew ?_) | exact HR337_0.out)⟩, ⟨bw⟩⟩
      case rest =>
       clear HC25
       try clear c1
       try clear c14
       try clear c34
       try clear c34b0
       try clear c34b1
       try clear c35
       try clear c35b0
       try clear c35b1
       try clear c37
       try clear hx331_0
       try clear hx337_0
       try clear p331
       try clear p337
       try clear q331
       try clear q337
       obtain ⟨kq, x110_24, rfl, HA, HJ24, HO_9, HR318_0, HR321_0, HR326_0, HR331_0, HR337_0, HB⟩ := hcut
       cases kq with
       | zero => exact absurd HA.out (by simp [worldmintlaw14_LotsSlice.j1])
       | succ kj24 =>
        have H := HA.out
        clear HA
        simp only [worldmintlaw14_LotsSlice.j1] at H
        by_cases c45 : x110_24 = true
        ·subst c45
         have H1 : (some false) = some r := by rw [if_pos rfl] at H; exact H
         clear H
         have H := H1
         clear H1
         obtain rfl := Option.some.inj H
         go_wp2
         go_ret
         exact ⟨by first | rfl | (simp [errW_none, errW_some] <;> rfl) | (simp only [← hji20]; first | rfl | (simp [errW_none, errW_some] <;> rfl)) | (simp [*, errW_none, errW_some] <;> rfl), bw⟩
        ·replace c45 := Bool.eq_false_iff.mpr c45
         subst c45
         have H1 : (worldmintlaw14_LotsSlice.l0 kj24 a2 a3 y315 (wrap64 (x10_1 + 1))) = some r := by rw [if_neg (show ¬ (false = true) by decide)] at H; exact H
         clear H
         have H := H1
         clear H1
         have H' := Aside0.mk H
         clear H
         go_wp2
         go_roundg kj24
         case measure => have := HK1.out; have := HJ24.out; omega
         case rel => exact ⟨(wrap64 (x10_1 + 1)), eqs, H', ⟨by have := HK1.out; have := HJ24.out; omega⟩, ⟨by (with_reducible repeat (first | apply Kd.N_alloc | apply Kd.N_drewN | apply Kd.N_drew)); exact HO_9.out⟩, ⟨bw⟩⟩
     ·rw [if_neg c15] at H
      exact absurd H (by simp)
    ·rw [if_neg c14] at H
     exact absurd H (by simp)
   ·rw [if_neg c13] at H
    have c13b0 : decide (x10_1 < 2) = false := decide_eq_false c13
    clear c13
    replace H := Option.bind_eq_some_iff.mp H
    obtain ⟨t345, A460, H⟩ := H
    replace H : (some t345) = some r := H
    have A46 := Aside0.mk A460
    clear A460
    obtain rfl := Option.some.inj H
    go_wp2_with (first | ((with_reducible refine gate_callee (f := 19) rfl ?_); refine goesL_ (some 111) rfl rfl Try.func19 (by kernel_rfl) rfl #[] rfl (by (try simp only [List.map_toArray, List.map_cons, List.map_nil]); first | done | rfl | (simp only [List.length_drop, List.length_take]; rfl)) ?_; (with_reducible refine (worldmintlaw14_lives.calls k1  t345 _ A46.out).mono ?_); rintro e w47 ⟨rfl, hb⟩; refine ⟨_, rfl, ?_⟩; have n0_ := Aside0.mk (Kd.N_below (by (with_reducible repeat (first | apply Kd.N_alloc | apply Kd.N_drewN | apply Kd.N_drew)); exact HO_9.out) hb); have n1_ := Aside0.mk (below_step (bw) hb); clear HO_9; clear HB; have HO_9 := n0_; have HB := n1_; clear n0_ n1_; (try clear hb); (try clear hb2); (try clear hk); (try clear hi)))
    go_ret
    exact ⟨by first | rfl | (simp [errW_none, errW_some] <;> rfl) | (simp [*, errW_none, errW_some] <;> rfl), bw⟩

end Go.Proofs.Ytcicjbgfahdejaa.P
