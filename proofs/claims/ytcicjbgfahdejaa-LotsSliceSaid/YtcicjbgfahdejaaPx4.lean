/- Written by a program of this session out of the translation: functions told as plain Lean, each with the walk that shows it. -/
import Derived.Test.YtcicjbgfahdejaaPx0
import Derived.Test.YtcicjbgfahdejaaPx3
import Derived.Test.YtcicjbgfahdejaaEV
namespace Go.Proofs.Ytcicjbgfahdejaa.P
open Go.RowKit Go.Proofs.YtcicjbgfahdejaaW.PrintWords Go.Proofs.YtcicjbgfahdejaaW.PrintLast Go.Proofs.YtcicjbgfahdejaaW.PrintMore
attribute [local go_sem] max2_int min2_int max_two min_two max_three min_three max_four min_four   -- for this text's walks alone
set_option linter.unusedVariables false
set_option linter.unusedSimpArgs false

/-! ### lots_Slice: function 20 -/
mutual
def lots_Slice.j0 : Nat → List (S39) → Int → Int → Bool → Option ((List (S39)) × Int)
 | 0, _, _, _, _ => none
 | k + 1, x0, x1, x2, x27 => if x27 = true then (some (([] : List (S39)), 1)) else ((lots_Total.f k x0).bind fun t189 => (if x1 > t189 then (lots_Slice.j1 k x0 x1 x2 true) else (lots_Slice.j1 k x0 x1 x2 (decide (x2 > (wrap64 (t189 - x1)))))))
def lots_Slice.j1 : Nat → List (S39) → Int → Int → Bool → Option ((List (S39)) × Int)
 | 0, _, _, _, _ => none
 | k + 1, x0, x1, x2, x39 => if x39 = true then (some (([] : List (S39)), 5)) else (lots_Slice.l0 k x1 x2 ([] : List (S39)) x0 (x0.length : Int) 0)
def lots_Slice.l0 : Nat → Int → Int → List (S39) → List (S39) → Int → Int → Option ((List (S39)) × Int)
 | 0, _, _, _, _, _, _ => none
 | k + 1, x1, x2, x9, x40, x41, x42 => if x42 < x41 then (if 0 ≤ x42 then (if x42 < (x40.length : Int) then ((lots_cut.f ((rd_T39 x40 x42).f0) ((rd_T39 x40 x42).f1) ((rd_T39 x40 x42).f2) (mn x1 ((rd_T39 x40 x42).f2))).bind fun bt192 => ((lots_cut.f bt192.2.2.2.1 bt192.2.2.2.2.1 bt192.2.2.2.2.2 (mn x2 bt192.2.2.2.2.2)).bind fun bt200 => ((lots_some.f x9 bt200.1 bt200.2.1 bt200.2.2.1).bind fun t208 => (lots_Slice.l0 k (wrap64 (x1 - (mn x1 ((rd_T39 x40 x42).f2)))) (wrap64 (x2 - bt200.2.2.1)) t208 x40 x41 (wrap64 (x42 + 1)))))) else (none)) else (none)) else (some (x9, 0))
end
def lots_Slice.f (k : Nat) (l0 : List (S39)) (a1 : Int) (a2 : Int) : Option ((List (S39)) × Int) := (lots_Valid.f l0).bind fun t188 => (if t188 = true then (if a1 < 0 then (lots_Slice.j0 k l0 a1 a2 true) else (lots_Slice.j0 k l0 a1 a2 (decide (a2 < 0)))) else (lots_Slice.j0 k l0 a1 a2 true))
set_option maxHeartbeats 8000000 in
set_option maxRecDepth 100000 in
theorem lots_Slice.calls (k : Nat) (A0 : Option Addr) (c0 : Nat) (l0 : List (S39)) (a1 : Int) (a2 : Int) (r1 : List (S39)) (r2 : Int) (w : World) (hr0 : Kd.C k39 w A0 l0.length l0) (hc0 : l0.length ≤ c0) (h : lots_Slice.f k l0 a1 a2 = some (r1, r2)) :
  Calls Try.prog 20 #[.slice A0 l0.length c0, .int .i64 a1, .int .i64 a2] w fun e w' => ∃ v0_ : Value, e = .returned (.tuple #[v0_, .int .i64 r2]) ∧ Kd.R k39 39 w' w.heap.size (fun _ => True) v0_ r1 ∧ Below w.heap.size w w' := by
 have hu39 := Try.underlying39
 have HR0 := Aside0.mk hr0
 have HC0 := Aside0.mk hc0
 clear hr0 hc0
 have HB := Aside0.mk (Below.refl w.heap.size w)
 have H : ((lots_Valid.f l0).bind fun t188 => (if t188 = true then (if a1 < 0 then (lots_Slice.j0 k l0 a1 a2 true) else (lots_Slice.j0 k l0 a1 a2 (decide (a2 < 0)))) else (lots_Slice.j0 k l0 a1 a2 true))) = some (r1, r2) := h
 clear h
 have HC4 := Aside0.mk H
 clear H
 go_enter Try.func20, Try.ntmps20
 go_upto_region 1 with (fail)
 repeat (go_quiet (fail); go_upto_region 1 with (fail))
 go_cut [27] (fun v27 wc => ∃ (kq : Nat) (x27_3 : Bool), v27 = .bool x27_3 ∧ Aside0 (lots_Slice.j0 kq l0 a1 a2 x27_3 = some (r1, r2)) ∧ Aside0 (kq ≤ k) ∧ Aside0 (Below w.heap.size w wc))
 case first =>
  have H := HC4.out
  clear HC4
  replace H := Option.bind_eq_some_iff.mp H
  obtain ⟨t188, A50, H⟩ := H
  replace H : (if t188 = true then (if a1 < 0 then (lots_Slice.j0 k l0 a1 a2 true) else (lots_Slice.j0 k l0 a1 a2 (decide (a2 < 0)))) else (lots_Slice.j0 k l0 a1 a2 true)) = some (r1, r2) := H
  have A5 := Aside0.mk A50
  clear A50
  by_cases c6 : t188 = true
  ·subst c6
   have H1 : (if a1 < 0 then (lots_Slice.j0 k l0 a1 a2 true) else (lots_Slice.j0 k l0 a1 a2 (decide (a2 < 0)))) = some (r1, r2) := by rw [if_pos rfl] at H; exact H
   clear H
   have H := H1
   clear H1
   by_cases c7 : a1 < 0
   ·rw [if_pos c7] at H
    have c7b0 : decide (a1 < 0) = true := decide_eq_true c7
    clear c7
    (first | rw [c7b0] | (simp only [i64_w, i32_w]; rw [c7b0]) | skip)
    have H' := Aside0.mk H
    clear H
    go_wp2_with (first | (go_at_call 22; (with_reducible refine (lots_Valid.calls _ _ l0 true _ ?side1 ?side2 A5.out).mono ?_); (case side1 => repeat (first | exact (Kd.C_below HR0.out HB.out) | (with_reducible refine Kd.C_alloc ?_ _) | (with_reducible refine Kd.C_drewN ?_ _) | (with_reducible refine Kd.C_drew ?_))); (case side2 => exact HC0.out); rintro e w8 ⟨rfl, hb⟩; have n0_ := Aside0.mk (below_step (bw) hb); clear HB; have HB := n0_; clear n0_; (try clear hb); (try clear hb2); (try clear hk); (try clear hi)))
    go_meet
    case rel => exact ⟨_, (true), eqs, H', ⟨by first | omega | exact Nat.le_refl _⟩, ⟨bw⟩⟩
   ·rw [if_neg c7] at H
    have c7b0 : decide (a1 < 0) = false := decide_eq_false c7
    clear c7
    (first | rw [c7b0] | (simp only [i64_w, i32_w]; rw [c7b0]) | skip)
    have H' := Aside0.mk H
    clear H
    go_wp2_with (first | (go_at_call 22; (with_reducible refine (lots_Valid.calls _ _ l0 true _ ?side1 ?side2 A5.out).mono ?_); (case side1 => repeat (first | exact (Kd.C_below HR0.out HB.out) | (with_reducible refine Kd.C_alloc ?_ _) | (with_reducible refine Kd.C_drewN ?_ _) | (with_reducible refine Kd.C_drew ?_))); (case side2 => exact HC0.out); rintro e w9 ⟨rfl, hb⟩; have n0_ := Aside0.mk (below_step (bw) hb); clear HB; have HB := n0_; clear n0_; (try clear hb); (try clear hb2); (try clear hk); (try clear hi)))
    go_meet
    case rel => exact ⟨_, (decide (a2 < 0)), eqs, H', ⟨by first | omega | exact Nat.le_refl _⟩, ⟨bw⟩⟩
  ·replace c6 := Bool.eq_false_iff.mpr c6
   subst c6
   have H1 : (lots_Slice.j0 k l0 a1 a2 true) = some (r1, r2) := by rw [if_neg (show ¬ (false = true) by decide)] at H; exact H
   clear H
   have H := H1
   clear H1
   have H' := Aside0.mk H
   clear H
   go_wp2_with (first | (go_at_call 22; (with_reducible refine (lots_Valid.calls _ _ l0 false _ ?side1 ?side2 A5.out).mono ?_); (case side1 => repeat (first | exact (Kd.C_below HR0.out HB.out) | (with_reducible refine Kd.C_alloc ?_ _) | (with_reducible refine Kd.C_drewN ?_ _) | (with_reducible refine Kd.C_drew ?_))); (case side2 => exact HC0.out); rintro e w10 ⟨rfl, hb⟩; have n0_ := Aside0.mk (below_step (bw) hb); clear HB; have HB := n0_; clear n0_; (try clear hb); (try clear hb2); (try clear hk); (try clear hi)))
   go_meet
   case rel => exact ⟨_, (true), eqs, H', ⟨by first | omega | exact Nat.le_refl _⟩, ⟨bw⟩⟩
 case rest =>
  clear HC4
  try clear c6
  try clear c7
  try clear c7b0
  obtain ⟨kq, x27_3, rfl, HA, HJ3, HB⟩ := hcut
  cases kq with
  | zero => exact absurd HA.out (by simp [lots_Slice.j0])
  | succ kj3 =>
   have H := HA.out
   clear HA
   simp only [lots_Slice.j0] at H
   by_cases c11 : x27_3 = true
   ·subst c11
    have H1 : (some (([] : List (S39)), 1)) = some (r1, r2) := by rw [if_pos rfl] at H; exact H
    clear H
    have H := H1
    clear H1
    simp only [Option.some.injEq, Prod.mk.injEq] at H
    obtain ⟨rfl, rfl⟩ := H
    go_wp2
    repeat (go_quiet (fail); try go_wp2)
    go_ret2
    exact ⟨_, by first | rfl | (simp [errW_none, errW_some] <;> rfl) | (simp [*, errW_none, errW_some] <;> rfl), by first | exact Kd.R_nil _ _ _ _ _ | exact Kd.N_nil _ _ _ _ _ | exact Kd.V_nil _ _ _ _ _ | exact Kd.Q_nil _ _ _ _ _ | exact Kd.S_nil _ _ _ _ _, bw⟩
   ·replace c11 := Bool.eq_false_iff.mpr c11
    subst c11
    have H1 : ((lots_Total.f kj3 l0).bind fun t189 => (if a1 > t189 then (lots_Slice.j1 kj3 l0 a1 a2 true) else (lots_Slice.j1 kj3 l0 a1 a2 (decide (a2 > (wrap64 (t189 - a1))))))) = some (r1, r2) := by rw [if_neg (show ¬ (false = true) by decide)] at H; exact H
    clear H
    have H := H1
    clear H1
    replace H := Option.bind_eq_some_iff.mp H
    obtain ⟨t189, A120, H⟩ := H
    replace H : (if a1 > t189 then (lots_Slice.j1 kj3 l0 a1 a2 true) else (lots_Slice.j1 kj3 l0 a1 a2 (decide (a2 > (wrap64 (t189 - a1)))))) = some (r1, r2) := H
    have A12 := Aside0.mk A120
    clear A120
    have HC13 := Aside0.mk H
    clear H
    go_upto_region 4 with (first | (go_at_call 24; (with_reducible refine (lots_Total.calls kj3 _ _ l0 t189 _ ?side1 ?side2 A12.out).mono ?_); (case side1 => repeat (first | exact (Kd.C_below HR0.out HB.out) | (with_reducible refine Kd.C_alloc ?_ _) | (with_reducible refine Kd.C_drewN ?_ _) | (with_reducible refine Kd.C_drew ?_))); (case side2 => exact HC0.out); rintro e w14 ⟨rfl, hb⟩; have n0_ := Aside0.mk (below_step (bw) hb); clear HB; have HB := n0_; clear n0_; (try clear hb); (try clear hb2); (try clear hk); (try clear hi)))
    (try simp only [Act.put, List.setIfInBounds_toArray, List.set_cons_zero, List.set_cons_succ])
    go_cut [39] (fun v39 wc => ∃ (kq : Nat) (x39_12 : Bool), v39 = .bool x39_12 ∧ Aside0 (lots_Slice.j1 kq l0 a1 a2 x39_12 = some (r1, r2)) ∧ Aside0 (kq ≤ kj3) ∧ Aside0 (Below w.heap.size w wc))
    case first =>
     have H := HC13.out
     clear HC13
     by_cases c15 : a1 > t189
     ·rw [if_pos c15] at H
      have c15b0 : decide (t189 < a1) = true := decide_eq_true c15
      clear c15
      (first | rw [c15b0] | (simp only [i64_w, i32_w]; rw [c15b0]) | skip)
      have H' := Aside0.mk H
      clear H
      go_wp2
      repeat (go_quiet (fail); try go_wp2)
      go_meet
      case rel => exact ⟨_, (true), eqs, H', ⟨by have := HJ3.out; first | omega | exact Nat.le_refl _⟩, ⟨bw⟩⟩
     ·rw [if_neg c15] at H
      have c15b0 : decide (t189 < a1) = false := decide_eq_false c15
      clear c15
      (first | rw [c15b0] | (simp only [i64_w, i32_w]; rw [c15b0]) | skip)
      have H' := Aside0.mk H
      clear H
      go_wp2
      repeat (go_quiet (fail); try go_wp2)
      go_meet
      case rel => exact ⟨_, (decide (a2 > (wrap64 (t189 - a1)))), eqs, H', ⟨by have := HJ3.out; first | omega | exact Nat.le_refl _⟩, ⟨bw⟩⟩
    case rest =>
     clear HC13
     try clear c6
     try clear c7
     try clear c7b0
     try clear c11
     try clear c15
     try clear c15b0
     obtain ⟨kq, x39_12, rfl, HA, HJ12, HB⟩ := hcut
     cases kq with
     | zero => exact absurd HA.out (by simp [lots_Slice.j1])
     | succ kj12 =>
      have H := HA.out
      clear HA
      simp only [lots_Slice.j1] at H
      by_cases c16 : x39_12 = true
      ·subst c16
       have H1 : (some (([] : List (S39)), 5)) = some (r1, r2) := by rw [if_pos rfl] at H; exact H
       clear H
       have H := H1
       clear H1
       simp only [Option.some.injEq, Prod.mk.injEq] at H
       obtain ⟨rfl, rfl⟩ := H
       go_wp2
       repeat (go_quiet (fail); try go_wp2)
       go_ret2
       exact ⟨_, by first | rfl | (simp [errW_none, errW_some] <;> rfl) | (simp [*, errW_none, errW_some] <;> rfl), by first | exact Kd.R_nil _ _ _ _ _ | exact Kd.N_nil _ _ _ _ _ | exact Kd.V_nil _ _ _ _ _ | exact Kd.Q_nil _ _ _ _ _ | exact Kd.S_nil _ _ _ _ _, bw⟩
      ·replace c16 := Bool.eq_false_iff.mpr c16
       subst c16
       have H1 : (lots_Slice.l0 kj12 a1 a2 ([] : List (S39)) l0 (l0.length : Int) 0) = some (r1, r2) := by rw [if_neg (show ¬ (false = true) by decide)] at H; exact H
       clear H
       have H := H1
       clear H1
       have H' := Aside0.mk H
       clear H
       go_wp2
       repeat (go_quiet (fail); try go_wp2)
       go_loopg [1, 2, 9, 42] kj12 (fun kq v1 v2 v9 v42 w' => ∃ (x1_3 : Int) (x2_3 : Int) (x9_3 : List (S39)) (x42_3 : Int), v1 = .int .i64 x1_3 ∧ v2 = .int .i64 x2_3 ∧ v42 = .int .i64 x42_3 ∧ Aside0 (lots_Slice.l0 kq x1_3 x2_3 x9_3 l0 (l0.length : Int) x42_3 = some (r1, r2)) ∧ Aside0 (kq ≤ kj12) ∧ Aside0 (Kd.R k39 39 w' w.heap.size (fun _ => True) v9 x9_3) ∧ Aside0 (Below w.heap.size w w'))
       case atStart => exact ⟨(a1), (a2), (([] : List (S39))), (0), eqs, eqs, eqs, H', ⟨Nat.le_refl _⟩, ⟨by first | exact Kd.R_nil _ _ _ _ _ | exact Kd.N_nil _ _ _ _ _ | exact Kd.V_nil _ _ _ _ _ | exact Kd.Q_nil _ _ _ _ _ | exact Kd.S_nil _ _ _ _ _⟩, ⟨bw⟩⟩
       case round =>
        clear H'
        try clear c6
        try clear c7
        try clear c7b0
        try clear c11
        try clear c15
        try clear c15b0
        try clear c16
        obtain ⟨x1_3, x2_3, x9_3, x42_3, rfl, rfl, rfl, HA, HK3, HO_9, HB⟩ := hrel
        cases gk with
        | zero => exact absurd HA.out (by simp [lots_Slice.l0])
        | succ k3 =>
         have H := HA.out
         clear HA
         simp only [lots_Slice.l0] at H
         by_cases c17 : x42_3 < (l0.length : Int)
         ·rw [if_pos c17] at H
          have c17b0 : decide (x42_3 < (l0.length : Int)) = true := decide_eq_true c17
          clear c17
          by_cases c18 : 0 ≤ x42_3
          ·rw [if_pos c18] at H
           have c18b0 : decide (0 ≤ x42_3) = true := decide_eq_true c18
           clear c18
           by_cases c19 : x42_3 < (l0.length : Int)
           ·rw [if_pos c19] at H
            have c19b0 : decide (x42_3 < (l0.length : Int)) = true := decide_eq_true c19
            clear c19
            obtain ⟨ji20, hji20⟩ : ∃ j_ : Int, (mn x1_3 ((rd_T39 l0 x42_3).f2)) = j_ := ⟨_, rfl⟩
            replace H : ((lots_cut.f ((rd_T39 l0 x42_3).f0) ((rd_T39 l0 x42_3).f1) ((rd_T39 l0 x42_3).f2) (ji20)).bind fun bt192 => ((lots_cut.f bt192.2.2.2.1 bt192.2.2.2.2.1 bt192.2.2.2.2.2 (mn x2_3 bt192.2.2.2.2.2)).bind fun bt200 => ((lots_some.f x9_3 bt200.1 bt200.2.1 bt200.2.2.1).bind fun t208 => (lots_Slice.l0 k3 (wrap64 (x1_3 - (ji20))) (wrap64 (x2_3 - bt200.2.2.1)) t208 l0 (l0.length : Int) (wrap64 (x42_3 + 1)))))) = some (r1, r2) := by first | (rw [hji20] at H; exact H) | (simp only [hji20] at H ⊢; exact H)
            have hji20_ : (if ((rd_T39 l0 x42_3).f2) < x1_3 then ((rd_T39 l0 x42_3).f2) else x1_3) = ji20 := hji20
            replace H := Option.bind_eq_some_iff.mp H
            obtain ⟨⟨t192, t193, t194, t195, t196, t197⟩, A210, H⟩ := H
            replace H : ((lots_cut.f t195 t196 t197 (mn x2_3 t197)).bind fun bt200 => ((lots_some.f x9_3 bt200.1 bt200.2.1 bt200.2.2.1).bind fun t208 => (lots_Slice.l0 k3 (wrap64 (x1_3 - (ji20))) (wrap64 (x2_3 - bt200.2.2.1)) t208 l0 (l0.length : Int) (wrap64 (x42_3 + 1))))) = some (r1, r2) := H
            have A21 := Aside0.mk A210
            clear A210
            obtain ⟨ji22, hji22⟩ : ∃ j_ : Int, (mn x2_3 t197) = j_ := ⟨_, rfl⟩
            replace H : ((lots_cut.f t195 t196 t197 (ji22)).bind fun bt200 => ((lots_some.f x9_3 bt200.1 bt200.2.1 bt200.2.2.1).bind fun t208 => (lots_Slice.l0 k3 (wrap64 (x1_3 - (ji20))) (wrap64 (x2_3 - bt200.2.2.1)) t208 l0 (l0.length : Int) (wrap64 (x42_3 + 1))))) = some (r1, r2) := by first | (rw [hji22] at H; exact H) | (simp only [hji22] at H ⊢; exact H)
            (try rw [hji22] at A21)
            have hji22_ : (if t197 < x2_3 then t197 else x2_3) = ji22 := hji22
            replace H := Option.bind_eq_some_iff.mp H
            obtain ⟨⟨t200, t201, t202, t203, t204, t205⟩, A230, H⟩ := H
            replace H : ((lots_some.f x9_3 t200 t201 t202).bind fun t208 => (lots_Slice.l0 k3 (wrap64 (x1_3 - (ji20))) (wrap64 (x2_3 - t202)) t208 l0 (l0.length : Int) (wrap64 (x42_3 + 1)))) = some (r1, r2) := H
            have A23 := Aside0.mk A230
            clear A230
            replace H := Option.bind_eq_some_iff.mp H
            obtain ⟨t208, A240, H⟩ := H
            replace H : (lots_Slice.l0 k3 (wrap64 (x1_3 - (ji20))) (wrap64 (x2_3 - t202)) t208 l0 (l0.length : Int) (wrap64 (x42_3 + 1))) = some (r1, r2) := H
            have A24 := Aside0.mk A240
            clear A240
            have H' := Aside0.mk H
            clear H
            have p190 : 0 ≤ (x42_3 : Int) := oda
            have q190 : x42_3 < (l0.length : Int) := oda
            obtain ⟨ad190, e190, hx190_0, hx190_1, hx190_2⟩ := at_T39 HR0.out x42_3 p190 q190
            cases e190
            replace hx190_0 := (HB.out.cell (World.block_lt_of_cell? w _ hx190_0)).trans hx190_0
            replace hx190_1 := (HB.out.cell (World.block_lt_of_cell? w _ hx190_1)).trans hx190_1
            replace hx190_2 := (HB.out.cell (World.block_lt_of_cell? w _ hx190_2)).trans hx190_2
            replace p190 := eq_true p190
            replace q190 := eq_true q190
            go_wp2_with (first | ((with_reducible refine gate_dst (N := 11) rfl ?_); refine box_event ?hg (N := 11) ?hd (cs := #[.int .i64 0, .int .i64 0, .int .i64 0]) (t := 39) ?hr ?_; (case hd => rfl); (case hg => rfl); (case hr => first | (go_simp; done) | (go_simp; rfl)); intro gb191 hg w25 hbox hb; have n0_ := Aside0.mk (Kd.R_below (Kd.R_elderB (kr HO_9.out) gb191 (Nat.le_of_eq hg.symm)) hb); have n1_ := Aside0.mk (below_step (bw) hb); have n2_ := Aside0.mk (hbox); have n3_ := Aside0.mk ((by rw [hg]; exact (below_size (bw)) : w.heap.size ≤ gb191)); have n4_ := Aside0.mk ((by rw [hg]; exact (below_size (bw)) : w.heap.size ≤ gb191)); clear HO_9; clear HB; have HO_9 := n0_; have HB := n1_; have BK191 := n2_; have GW191 := n3_; have GE191 := n4_; clear n0_ n1_ n2_ n3_ n4_; clear hb hbox hg; have hcz26_0 : w25.cell? ⟨gb191, 0, none⟩ = some (.int .i64 0) := (blk_cell BK191.out 0).trans rfl; have hcz26_1 : w25.cell? ⟨gb191, 1, none⟩ = some (.int .i64 0) := (blk_cell BK191.out 1).trans rfl; have hcz26_2 : w25.cell? ⟨gb191, 2, none⟩ = some (.int .i64 0) := (blk_cell BK191.out 2).trans rfl; have hfz26_0 := blk_frozen BK191.out 0; have hfz26_1 := blk_frozen BK191.out 1; have hfz26_2 := blk_frozen BK191.out 2) | (go_at_call 50; (with_reducible refine (lots_cut.calls ((rd_T39 l0 x42_3).f0) ((rd_T39 l0 x42_3).f1) ((rd_T39 l0 x42_3).f2) ji20 t192 t193 t194 t195 t196 t197 _ A21.out).mono ?_); rintro e w27 ⟨rfl, hb⟩; have n0_ := Aside0.mk (Kd.R_below (by (with_reducible repeat (first | apply Kd.R_alloc | apply Kd.R_drewN | apply Kd.R_drew)); exact (Kd.R_mono (Kd.R_far (p := ⟨gb191, 2, none⟩) (Kd.R_far (p := ⟨gb191, 1, none⟩) (Kd.R_far (p := ⟨gb191, 0, none⟩) (Kd.R_mono HO_9.out (fun k_ hk => (⟨hk, hk.2⟩ : _ ∧ k_ ≠ gb191))) (fun _ hk => hk.2) (.int .i64 ((rd_T39 l0 x42_3).f0))) (fun _ hk => hk.2) (.int .i64 ((rd_T39 l0 x42_3).f1))) (fun _ hk => hk.2) (.int .i64 ((rd_T39 l0 x42_3).f2))) (fun _ h_ => h_.1))) hb); have n1_ := Aside0.mk (blk_below (g := gb191) (o := .cells #[.int .i64 ((rd_T39 l0 x42_3).f0), .int .i64 ((rd_T39 l0 x42_3).f1), .int .i64 ((rd_T39 l0 x42_3).f2)] 39 (0, 0)) (by (with_reducible repeat (first | refine blk_drewN ?_ _ | refine blk_drew ?_ | refine blk_alloc ?_ _)); refine blk_put (cs := #[.int .i64 ((rd_T39 l0 x42_3).f0), .int .i64 ((rd_T39 l0 x42_3).f1), .int .i64 0]) ?_ 2 _ rfl; (with_reducible repeat (first | refine blk_drewN ?_ _ | refine blk_drew ?_ | refine blk_alloc ?_ _)); refine blk_put (cs := #[.int .i64 ((rd_T39 l0 x42_3).f0), .int .i64 0, .int .i64 0]) ?_ 1 _ rfl; (with_reducible repeat (first | refine blk_drewN ?_ _ | refine blk_drew ?_ | refine blk_alloc ?_ _)); refine blk_put (cs := #[.int .i64 0, .int .i64 0, .int .i64 0]) ?_ 0 _ rfl; (with_reducible repeat (first | refine blk_drewN ?_ _ | refine blk_drew ?_ | refine blk_alloc ?_ _)); exact BK191.out) hb); have n2_ := Aside0.mk (below_step (by repeat (first | (with_reducible first | exact HB.out | apply below_alloc | apply pw_below_drewN | apply below_drew1 | refine below_set ?_ GE191.out) | exact HB.out)) hb); clear HO_9; clear BK191; clear HB; have HO_9 := n0_; have BK191 := n1_; have HB := n2_; clear n0_ n1_ n2_; (try clear hb); (try clear hb2); (try clear hk); (try clear hi)) | ((with_reducible refine gate_dst (N := 13) rfl ?_); refine box_event ?hg (N := 13) ?hd (cs := #[.int .i64 0, .int .i64 0, .int .i64 0]) (t := 39) ?hr ?_; (case hd => rfl); (case hg => rfl); (case hr => first | (go_simp; done) | (go_simp; rfl)); intro gb198 hg w28 hbox hb; have n0_ := Aside0.mk (Kd.R_below (Kd.R_elderB (kr HO_9.out) gb198 (Nat.le_of_eq hg.symm)) hb); have n1_ := Aside0.mk (blk_below (g := gb191) (o := .cells #[.int .i64 ((rd_T39 l0 x42_3).f0), .int .i64 ((rd_T39 l0 x42_3).f1), .int .i64 ((rd_T39 l0 x42_3).f2)] 39 (0, 0)) (kb BK191.out) hb); have n2_ := Aside0.mk (below_step (by repeat (first | (with_reducible first | exact HB.out | apply below_alloc | apply pw_below_drewN | apply below_drew1 | refine below_set ?_ GE191.out) | exact HB.out)) hb); have n3_ := Aside0.mk (hbox); have n4_ := Aside0.mk ((by rw [hg]; exact (below_size (by repeat (first | (with_reducible first | exact HB.out | apply below_alloc | apply pw_below_drewN | apply below_drew1 | refine below_set ?_ GE191.out) | exact HB.out))) : w.heap.size ≤ gb198)); have n5_ := Aside0.mk ((by rw [hg]; exact (below_size (by repeat (first | (with_reducible first | exact HB.out | apply below_alloc | apply pw_below_drewN | apply below_drew1 | refine below_set ?_ GE191.out) | exact HB.out))) : w.heap.size ≤ gb198)); have n6_ := Aside0.mk ((by rw [hg]; exact Nat.ne_of_lt (blk_lt (g := gb191) (o := .cells #[.int .i64 ((rd_T39 l0 x42_3).f0), .int .i64 ((rd_T39 l0 x42_3).f1), .int .i64 ((rd_T39 l0 x42_3).f2)] 39 (0, 0)) (kb BK191.out)) : gb191 ≠ gb198)); have n7_ := Aside0.mk ((by rw [hg]; exact Nat.ne_of_gt (blk_lt (g := gb191) (o := .cells #[.int .i64 ((rd_T39 l0 x42_3).f0), .int .i64 ((rd_T39 l0 x42_3).f1), .int .i64 ((rd_T39 l0 x42_3).f2)] 39 (0, 0)) (kb BK191.out)) : gb198 ≠ gb191)); clear HO_9; clear BK191; clear HB; have HO_9 := n0_; have BK191 := n1_; have HB := n2_; have BK198 := n3_; have GW198 := n4_; have GE198 := n5_; have NB191_198 := n6_; have NB198_191 := n7_; clear n0_ n1_ n2_ n3_ n4_ n5_ n6_ n7_; clear hb hbox hg) | ((with_reducible refine gate_dst (N := 14) rfl ?_); refine box_event ?hg (N := 14) ?hd (cs := #[.int .i64 0, .int .i64 0, .int .i64 0]) (t := 39) ?hr ?_; (case hd => rfl); (case hg => rfl); (case hr => first | (go_simp; done) | (go_simp; rfl)); intro gb199 hg w29 hbox hb; have n0_ := Aside0.mk (Kd.R_below (Kd.R_elderB (kr HO_9.out) gb199 (Nat.le_of_eq hg.symm)) hb); have n1_ := Aside0.mk (blk_below (g := gb191) (o := .cells #[.int .i64 ((rd_T39 l0 x42_3).f0), .int .i64 ((rd_T39 l0 x42_3).f1), .int .i64 ((rd_T39 l0 x42_3).f2)] 39 (0, 0)) (kb BK191.out) hb); have n2_ := Aside0.mk (blk_below (g := gb198) (o := .cells #[.int .i64 0, .int .i64 0, .int .i64 0] 39 (0, 0)) (kb BK198.out) hb); have n3_ := Aside0.mk (below_step (by repeat (first | (with_reducible first | exact HB.out | apply below_alloc | apply pw_below_drewN | apply below_drew1 | refine below_set ?_ GE191.out | refine below_set ?_ GE198.out) | exact HB.out)) hb); have n4_ := Aside0.mk (hbox); have n5_ := Aside0.mk ((by rw [hg]; exact (below_size (by repeat (first | (with_reducible first | exact HB.out | apply below_alloc | apply pw_below_drewN | apply below_drew1 | refine below_set ?_ GE191.out | refine below_set ?_ GE198.out) | exact HB.out))) : w.heap.size ≤ gb199)); have n6_ := Aside0.mk ((by rw [hg]; exact (below_size (by repeat (first | (with_reducible first | exact HB.out | apply below_alloc | apply pw_below_drewN | apply below_drew1 | refine below_set ?_ GE191.out | refine below_set ?_ GE198.out) | exact HB.out))) : w.heap.size ≤ gb199)); have n7_ := Aside0.mk ((by rw [hg]; exact Nat.ne_of_lt (blk_lt (g := gb191) (o := .cells #[.int .i64 ((rd_T39 l0 x42_3).f0), .int .i64 ((rd_T39 l0 x42_3).f1), .int .i64 ((rd_T39 l0 x42_3).f2)] 39 (0, 0)) (kb BK191.out)) : gb191 ≠ gb199)); have n8_ := Aside0.mk ((by rw [hg]; exact Nat.ne_of_gt (blk_lt (g := gb191) (o := .cells #[.int .i64 ((rd_T39 l0 x42_3).f0), .int .i64 ((rd_T39 l0 x42_3).f1), .int .i64 ((rd_T39 l0 x42_3).f2)] 39 (0, 0)) (kb BK191.out)) : gb199 ≠ gb191)); have n9_ := Aside0.mk ((by rw [hg]; exact Nat.ne_of_lt (blk_lt (g := gb198) (o := .cells #[.int .i64 0, .int .i64 0, .int .i64 0] 39 (0, 0)) (kb BK198.out)) : gb198 ≠ gb199)); have n10_ := Aside0.mk ((by rw [hg]; exact Nat.ne_of_gt (blk_lt (g := gb198) (o := .cells #[.int .i64 0, .int .i64 0, .int .i64 0] 39 (0, 0)) (kb BK198.out)) : gb199 ≠ gb198)); clear HO_9; clear BK191; clear BK198; clear HB; have HO_9 := n0_; have BK191 := n1_; have BK198 := n2_; have HB := n3_; have BK199 := n4_; have GW199 := n5_; have GE199 := n6_; have NB191_199 := n7_; have NB199_191 := n8_; have NB198_199 := n9_; have NB199_198 := n10_; clear n0_ n1_ n2_ n3_ n4_ n5_ n6_ n7_ n8_ n9_ n10_; clear hb hbox hg; have hnb30 := NB198_191.out; have hnc30 := NB191_198.out; have hnb31 := NB198_199.out; have hnc31 := NB199_198.out; have hcz32_0 : w29.cell? ⟨gb198, 0, none⟩ = some (.int .i64 0) := (blk_cell BK198.out 0).trans rfl; have hcz32_1 : w29.cell? ⟨gb198, 1, none⟩ = some (.int .i64 0) := (blk_cell BK198.out 1).trans rfl; have hcz32_2 : w29.cell? ⟨gb198, 2, none⟩ = some (.int .i64 0) := (blk_cell BK198.out 2).trans rfl; have hfz32_0 := blk_frozen BK198.out 0; have hfz32_1 := blk_frozen BK198.out 1; have hfz32_2 := blk_frozen BK198.out 2; have hnb33 := NB199_191.out; have hnc33 := NB191_199.out; have hcz34_0 : w29.cell? ⟨gb199, 0, none⟩ = some (.int .i64 0) := (blk_cell BK199.out 0).trans rfl; have hcz34_1 : w29.cell? ⟨gb199, 1, none⟩ = some (.int .i64 0) := (blk_cell BK199.out 1).trans rfl; have hcz34_2 : w29.cell? ⟨gb199, 2, none⟩ = some (.int .i64 0) := (blk_cell BK199.out 2).trans rfl; have hfz34_0 := blk_frozen BK199.out 0; have hfz34_1 := blk_frozen BK199.out 1; have hfz34_2 := blk_frozen BK199.out 2) | (go_at_call 50; (with_reducible refine (lots_cut.calls t195 t196 t197 ji22 t200 t201 t202 t203 t204 t205 _ A23.out).mono ?_); rintro e w35 ⟨rfl, hb⟩; have n0_ := Aside0.mk (Kd.R_below (by (with_reducible repeat (first | apply Kd.R_alloc | apply Kd.R_drewN | apply Kd.R_drew)); exact (Kd.R_mono (Kd.R_mono (Kd.R_far (p := ⟨gb199, 2, none⟩) (Kd.R_far (p := ⟨gb199, 1, none⟩) (Kd.R_far (p := ⟨gb199, 0, none⟩) (Kd.R_far (p := ⟨gb198, 2, none⟩) (Kd.R_far (p := ⟨gb198, 1, none⟩) (Kd.R_far (p := ⟨gb198, 0, none⟩) (Kd.R_mono (Kd.R_mono HO_9.out (fun k_ hk => (⟨hk, hk.1.2⟩ : _ ∧ k_ ≠ gb198))) (fun k_ hk => (⟨hk, hk.1.2⟩ : _ ∧ k_ ≠ gb199))) (fun _ hk => hk.1.2) (.int .i64 t192)) (fun _ hk => hk.1.2) (.int .i64 t193)) (fun _ hk => hk.1.2) (.int .i64 t194)) (fun _ hk => hk.2) (.int .i64 t195)) (fun _ hk => hk.2) (.int .i64 t196)) (fun _ hk => hk.2) (.int .i64 t197)) (fun _ h_ => h_.1)) (fun _ h_ => h_.1))) hb); have n1_ := Aside0.mk (blk_below (g := gb191) (o := .cells #[.int .i64 ((rd_T39 l0 x42_3).f0), .int .i64 ((rd_T39 l0 x42_3).f1), .int .i64 ((rd_T39 l0 x42_3).f2)] 39 (0, 0)) (by (with_reducible repeat (first | refine blk_drewN ?_ _ | refine blk_drew ?_ | refine blk_alloc ?_ _)); refine blk_far ?_ NB191_199.out _; (with_reducible repeat (first | refine blk_drewN ?_ _ | refine blk_drew ?_ | refine blk_alloc ?_ _)); refine blk_far ?_ NB191_199.out _; (with_reducible repeat (first | refine blk_drewN ?_ _ | refine blk_drew ?_ | refine blk_alloc ?_ _)); refine blk_far ?_ NB191_199.out _; (with_reducible repeat (first | refine blk_drewN ?_ _ | refine blk_drew ?_ | refine blk_alloc ?_ _)); refine blk_far ?_ NB191_198.out _; (with_reducible repeat (first | refine blk_drewN ?_ _ | refine blk_drew ?_ | refine blk_alloc ?_ _)); refine blk_far ?_ NB191_198.out _; (with_reducible repeat (first | refine blk_drewN ?_ _ | refine blk_drew ?_ | refine blk_alloc ?_ _)); refine blk_far ?_ NB191_198.out _; (with_reducible repeat (first | refine blk_drewN ?_ _ | refine blk_drew ?_ | refine blk_alloc ?_ _)); exact BK191.out) hb); have n2_ := Aside0.mk (blk_below (g := gb198) (o := .cells #[.int .i64 t192, .int .i64 t193, .int .i64 t194] 39 (0, 0)) (by (with_reducible repeat (first | refine blk_drewN ?_ _ | refine blk_drew ?_ | refine blk_alloc ?_ _)); refine blk_far ?_ NB198_199.out _; (with_reducible repeat (first | refine blk_drewN ?_ _ | refine blk_drew ?_ | refine blk_alloc ?_ _)); refine blk_far ?_ NB198_199.out _; (with_reducible repeat (first | refine blk_drewN ?_ _ | refine blk_drew ?_ | refine blk_alloc ?_ _)); refine blk_far ?_ NB198_199.out _; (with_reducible repeat (first | refine blk_drewN ?_ _ | refine blk_drew ?_ | refine blk_alloc ?_ _)); refine blk_put (cs := #[.int .i64 t192, .int .i64 t193, .int .i64 0]) ?_ 2 _ rfl; (with_reducible repeat (first | refine blk_drewN ?_ _ | refine blk_drew ?_ | refine blk_alloc ?_ _)); refine blk_put (cs := #[.int .i64 t192, .int .i64 0, .int .i64 0]) ?_ 1 _ rfl; (with_reducible repeat (first | refine blk_drewN ?_ _ | refine blk_drew ?_ | refine blk_alloc ?_ _)); refine blk_put (cs := #[.int .i64 0, .int .i64 0, .int .i64 0]) ?_ 0 _ rfl; (with_reducible repeat (first | refine blk_drewN ?_ _ | refine blk_drew ?_ | refine blk_alloc ?_ _)); exact BK198.out) hb); have n3_ := Aside0.mk (blk_below (g := gb199) (o := .cells #[.int .i64 t195, .int .i64 t196, .int .i64 t197] 39 (0, 0)) (by (with_reducible repeat (first | refine blk_drewN ?_ _ | refine blk_drew ?_ | refine blk_alloc ?_ _)); refine blk_put (cs := #[.int .i64 t195, .int .i64 t196, .int .i64 0]) ?_ 2 _ rfl; (with_reducible repeat (first | refine blk_drewN ?_ _ | refine blk_drew ?_ | refine blk_alloc ?_ _)); refine blk_put (cs := #[.int .i64 t195, .int .i64 0, .int .i64 0]) ?_ 1 _ rfl; (with_reducible repeat (first | refine blk_drewN ?_ _ | refine blk_drew ?_ | refine blk_alloc ?_ _)); refine blk_put (cs := #[.int .i64 0, .int .i64 0, .int .i64 0]) ?_ 0 _ rfl; (with_reducible repeat (first | refine blk_drewN ?_ _ | refine blk_drew ?_ | refine blk_alloc ?_ _)); refine blk_far ?_ NB199_198.out _; (with_reducible repeat (first | refine blk_drewN ?_ _ | refine blk_drew ?_ | refine blk_alloc ?_ _)); refine blk_far ?_ NB199_198.out _; (with_reducible repeat (first | refine blk_drewN ?_ _ | refine blk_drew ?_ | refine blk_alloc ?_ _)); refine blk_far ?_ NB199_198.out _; (with_reducible repeat (first | refine blk_drewN ?_ _ | refine blk_drew ?_ | refine blk_alloc ?_ _)); exact BK199.out) hb); have n4_ := Aside0.mk (below_step (by repeat (first | (with_reducible first | exact HB.out | apply below_alloc | apply pw_below_drewN | apply below_drew1 | refine below_set ?_ GE191.out | refine below_set ?_ GE198.out | refine below_set ?_ GE199.out) | exact HB.out)) hb); clear HO_9; clear BK191; clear BK198; clear BK199; clear HB; have HO_9 := n0_; have BK191 := n1_; have BK198 := n2_; have BK199 := n3_; have HB := n4_; clear n0_ n1_ n2_ n3_ n4_; (try clear hb); (try clear hb2); (try clear hk); (try clear hi)) | ((with_reducible refine gate_dst (N := 15) rfl ?_); refine box_event ?hg (N := 15) ?hd (cs := #[.int .i64 0, .int .i64 0, .int .i64 0]) (t := 39) ?hr ?_; (case hd => rfl); (case hg => rfl); (case hr => first | (go_simp; done) | (go_simp; rfl)); intro gb206 hg w36 hbox hb; have n0_ := Aside0.mk (Kd.R_below (Kd.R_elderB (kr HO_9.out) gb206 (Nat.le_of_eq hg.symm)) hb); have n1_ := Aside0.mk (blk_below (g := gb191) (o := .cells #[.int .i64 ((rd_T39 l0 x42_3).f0), .int .i64 ((rd_T39 l0 x42_3).f1), .int .i64 ((rd_T39 l0 x42_3).f2)] 39 (0, 0)) (kb BK191.out) hb); have n2_ := Aside0.mk (blk_below (g := gb198) (o := .cells #[.int .i64 t192, .int .i64 t193, .int .i64 t194] 39 (0, 0)) (kb BK198.out) hb); have n3_ := Aside0.mk (blk_below (g := gb199) (o := .cells #[.int .i64 t195, .int .i64 t196, .int .i64 t197] 39 (0, 0)) (kb BK199.out) hb); have n4_ := Aside0.mk (below_step (by repeat (first | (with_reducible first | exact HB.out | apply below_alloc | apply pw_below_drewN | apply below_drew1 | refine below_set ?_ GE191.out | refine below_set ?_ GE198.out | refine below_set ?_ GE199.out) | exact HB.out)) hb); have n5_ := Aside0.mk (hbox); have n6_ := Aside0.mk ((by rw [hg]; exact (below_size (by repeat (first | (with_reducible first | exact HB.out | apply below_alloc | apply pw_below_drewN | apply below_drew1 | refine below_set ?_ GE191.out | refine below_set ?_ GE198.out | refine below_set ?_ GE199.out) | exact HB.out))) : w.heap.size ≤ gb206)); have n7_ := Aside0.mk ((by rw [hg]; exact (below_size (by repeat (first | (with_reducible first | exact HB.out | apply below_alloc | apply pw_below_drewN | apply below_drew1 | refine below_set ?_ GE191.out | refine below_set ?_ GE198.out | refine below_set ?_ GE199.out) | exact HB.out))) : w.heap.size ≤ gb206)); have n8_ := Aside0.mk ((by rw [hg]; exact Nat.ne_of_lt (blk_lt (g := gb191) (o := .cells #[.int .i64 ((rd_T39 l0 x42_3).f0), .int .i64 ((rd_T39 l0 x42_3).f1), .int .i64 ((rd_T39 l0 x42_3).f2)] 39 (0, 0)) (kb BK191.out)) : gb191 ≠ gb206)); have n9_ := Aside0.mk ((by rw [hg]; exact Nat.ne_of_gt (blk_lt (g := gb191) (o := .cells #[.int .i64 ((rd_T39 l0 x42_3).f0), .int .i64 ((rd_T39 l0 x42_3).f1), .int .i64 ((rd_T39 l0 x42_3).f2)] 39 (0, 0)) (kb BK191.out)) : gb206 ≠ gb191)); have n10_ := Aside0.mk ((by rw [hg]; exact Nat.ne_of_lt (blk_lt (g := gb198) (o := .cells #[.int .i64 t192, .int .i64 t193, .int .i64 t194] 39 (0, 0)) (kb BK198.out)) : gb198 ≠ gb206)); have n11_ := Aside0.mk ((by rw [hg]; exact Nat.ne_of_gt (blk_lt (g := gb198) (o := .cells #[.int .i64 t192, .int .i64 t193, .int .i64 t194] 39 (0, 0)) (kb BK198.out)) : gb206 ≠ gb198)); have n12_ := Aside0.mk ((by rw [hg]; exact Nat.ne_of_lt (blk_lt (g := gb199) (o := .cells #[.int .i64 t195, .int .i64 t196, .int .i64 t197] 39 (0, 0)) (kb BK199.out)) : gb199 ≠ gb206)); have n13_ := Aside0.mk ((by rw [hg]; exact Nat.ne_of_gt (blk_lt (g := gb199) (o := .cells #[.int .i64 t195, .int .i64 t196, .int .i64 t197] 39 (0, 0)) (kb BK199.out)) : gb206 ≠ gb199)); clear HO_9; clear BK191; clear BK198; clear BK199; clear HB; have HO_9 := n0_; have BK191 := n1_; have BK198 := n2_; have BK199 := n3_; have HB := n4_; have BK206 := n5_; have GW206 := n6_; have GE206 := n7_; have NB191_206 := n8_; have NB206_191 := n9_; have NB198_206 := n10_; have NB206_198 := n11_; have NB199_206 := n12_; have NB206_199 := n13_; clear n0_ n1_ n2_ n3_ n4_ n5_ n6_ n7_ n8_ n9_ n10_ n11_ n12_ n13_; clear hb hbox hg) | ((with_reducible refine gate_dst (N := 16) rfl ?_); refine box_event ?hg (N := 16) ?hd (cs := #[.int .i64 0, .int .i64 0, .int .i64 0]) (t := 39) ?hr ?_; (case hd => rfl); (case hg => rfl); (case hr => first | (go_simp; done) | (go_simp; rfl)); intro gb207 hg w37 hbox hb; have n0_ := Aside0.mk (Kd.R_below (Kd.R_elderB (kr HO_9.out) gb207 (Nat.le_of_eq hg.symm)) hb); have n1_ := Aside0.mk (blk_below (g := gb191) (o := .cells #[.int .i64 ((rd_T39 l0 x42_3).f0), .int .i64 ((rd_T39 l0 x42_3).f1), .int .i64 ((rd_T39 l0 x42_3).f2)] 39 (0, 0)) (kb BK191.out) hb); have n2_ := Aside0.mk (blk_below (g := gb198) (o := .cells #[.int .i64 t192, .int .i64 t193, .int .i64 t194] 39 (0, 0)) (kb BK198.out) hb); have n3_ := Aside0.mk (blk_below (g := gb199) (o := .cells #[.int .i64 t195, .int .i64 t196, .int .i64 t197] 39 (0, 0)) (kb BK199.out) hb); have n4_ := Aside0.mk (blk_below (g := gb206) (o := .cells #[.int .i64 0, .int .i64 0, .int .i64 0] 39 (0, 0)) (kb BK206.out) hb); have n5_ := Aside0.mk (below_step (by repeat (first | (with_reducible first | exact HB.out | apply below_alloc | apply pw_below_drewN | apply below_drew1 | refine below_set ?_ GE191.out | refine below_set ?_ GE198.out | refine below_set ?_ GE199.out | refine below_set ?_ GE206.out) | exact HB.out)) hb); have n6_ := Aside0.mk (hbox); have n7_ := Aside0.mk ((by rw [hg]; exact (below_size (by repeat (first | (with_reducible first | exact HB.out | apply below_alloc | apply pw_below_drewN | apply below_drew1 | refine below_set ?_ GE191.out | refine below_set ?_ GE198.out | refine below_set ?_ GE199.out | refine below_set ?_ GE206.out) | exact HB.out))) : w.heap.size ≤ gb207)); have n8_ := Aside0.mk ((by rw [hg]; exact (below_size (by repeat (first | (with_reducible first | exact HB.out | apply below_alloc | apply pw_below_drewN | apply below_drew1 | refine below_set ?_ GE191.out | refine below_set ?_ GE198.out | refine below_set ?_ GE199.out | refine below_set ?_ GE206.out) | exact HB.out))) : w.heap.size ≤ gb207)); have n9_ := Aside0.mk ((by rw [hg]; exact Nat.ne_of_lt (blk_lt (g := gb191) (o := .cells #[.int .i64 ((rd_T39 l0 x42_3).f0), .int .i64 ((rd_T39 l0 x42_3).f1), .int .i64 ((rd_T39 l0 x42_3).f2)] 39 (0, 0)) (kb BK191.out)) : gb191 ≠ gb207)); have n10_ := Aside0.mk ((by rw [hg]; exact Nat.ne_of_gt (blk_lt (g := gb191) (o := .cells #[.int .i64 ((rd_T39 l0 x42_3).f0), .int .i64 ((rd_T39 l0 x42_3).f1), .int .i64 ((rd_T39 l0 x42_3).f2)] 39 (0, 0)) (kb BK191.out)) : gb207 ≠ gb191)); have n11_ := Aside0.mk ((by rw [hg]; exact Nat.ne_of_lt (blk_lt (g := gb198) (o := .cells #[.int .i64 t192, .int .i64 t193, .int .i64 t194] 39 (0, 0)) (kb BK198.out)) : gb198 ≠ gb207)); have n12_ := Aside0.mk ((by rw [hg]; exact Nat.ne_of_gt (blk_lt (g := gb198) (o := .cells #[.int .i64 t192, .int .i64 t193, .int .i64 t194] 39 (0, 0)) (kb BK198.out)) : gb207 ≠ gb198)); have n13_ := Aside0.mk ((by rw [hg]; exact Nat.ne_of_lt (blk_lt (g := gb199) (o := .cells #[.int .i64 t195, .int .i64 t196, .int .i64 t197] 39 (0, 0)) (kb BK199.out)) : gb199 ≠ gb207)); have n14_ := Aside0.mk ((by rw [hg]; exact Nat.ne_of_gt (blk_lt (g := gb199) (o := .cells #[.int .i64 t195, .int .i64 t196, .int .i64 t197] 39 (0, 0)) (kb BK199.out)) : gb207 ≠ gb199)); have n15_ := Aside0.mk ((by rw [hg]; exact Nat.ne_of_lt (blk_lt (g := gb206) (o := .cells #[.int .i64 0, .int .i64 0, .int .i64 0] 39 (0, 0)) (kb BK206.out)) : gb206 ≠ gb207)); have n16_ := Aside0.mk ((by rw [hg]; exact Nat.ne_of_gt (blk_lt (g := gb206) (o := .cells #[.int .i64 0, .int .i64 0, .int .i64 0] 39 (0, 0)) (kb BK206.out)) : gb207 ≠ gb206)); clear HO_9; clear BK191; clear BK198; clear BK199; clear BK206; clear HB; have HO_9 := n0_; have BK191 := n1_; have BK198 := n2_; have BK199 := n3_; have BK206 := n4_; have HB := n5_; have BK207 := n6_; have GW207 := n7_; have GE207 := n8_; have NB191_207 := n9_; have NB207_191 := n10_; have NB198_207 := n11_; have NB207_198 := n12_; have NB199_207 := n13_; have NB207_199 := n14_; have NB206_207 := n15_; have NB207_206 := n16_; clear n0_ n1_ n2_ n3_ n4_ n5_ n6_ n7_ n8_ n9_ n10_ n11_ n12_ n13_ n14_ n15_ n16_; clear hb hbox hg; have hnb38 := NB206_191.out; have hnc38 := NB191_206.out; have hnb39 := NB206_198.out; have hnc39 := NB198_206.out; have hnb40 := NB206_199.out; have hnc40 := NB199_206.out; have hnb41 := NB206_207.out; have hnc41 := NB207_206.out; have hcz42_0 : w37.cell? ⟨gb206, 0, none⟩ = some (.int .i64 0) := (blk_cell BK206.out 0).trans rfl; have hcz42_1 : w37.cell? ⟨gb206, 1, none⟩ = some (.int .i64 0) := (blk_cell BK206.out 1).trans rfl; have hcz42_2 : w37.cell? ⟨gb206, 2, none⟩ = some (.int .i64 0) := (blk_cell BK206.out 2).trans rfl; have hfz42_0 := blk_frozen BK206.out 0; have hfz42_1 := blk_frozen BK206.out 1; have hfz42_2 := blk_frozen BK206.out 2) | ((with_reducible refine gate_store (t := 39) (p := 15) rfl ?_); (try (rw [drewN_self w37]; generalize hq_ : World.drewN w37 _ = w37; have n0_ := Aside0.mk (Kd.R_at hq_ HO_9.out); have n1_ := Aside0.mk (blk_at hq_ BK191.out); have n2_ := Aside0.mk (blk_at hq_ BK198.out); have n3_ := Aside0.mk (blk_at hq_ BK199.out); have n4_ := Aside0.mk (blk_at hq_ BK206.out); have n5_ := Aside0.mk (blk_at hq_ BK207.out); have n6_ := Aside0.mk (below_at hq_ HB.out); clear hq_ HO_9 BK191 BK198 BK199 BK206 BK207 HB; have HO_9 := n0_; have BK191 := n1_; have BK198 := n2_; have BK199 := n3_; have BK206 := n4_; have BK207 := n5_; have HB := n6_; clear n0_ n1_ n2_ n3_ n4_ n5_ n6_)); refine store_event (t := 39) (p := 15) (v := ?vo_w43) (w1 := (((w37.setCell ⟨gb206, 0, none⟩ (.int .i64 t200)).setCell ⟨gb206, 1, none⟩ (.int .i64 t201)).setCell ⟨gb206, 2, none⟩ (.int .i64 t202))) ?hg ?ho ?hn ?hr ?_; (case ho => rfl); (case hg => rfl); (case hn => rfl); (case hr => first | (go_simp; done) | (go_simp; rfl)); intro w43 hw; have n0_ : Aside0 (Kd.R k39 39 w43 w.heap.size (fun k_ => k_ ≠ gb191 ∧ k_ ≠ gb198 ∧ k_ ≠ gb199 ∧ k_ ≠ gb206 ∧ k_ ≠ gb207) u9 x9_3) := ⟨(by rw [hw]; exact (by (with_reducible repeat (first | apply Kd.R_alloc | apply Kd.R_drewN | apply Kd.R_drew)); exact Kd.R_mono (Kd.R_far (p := ⟨gb206, 2, none⟩) (Kd.R_far (p := ⟨gb206, 1, none⟩) (Kd.R_far (p := ⟨gb206, 0, none⟩) (Kd.R_mono HO_9.out (fun k_ hk => (⟨hk, hk.1.2⟩ : _ ∧ k_ ≠ gb206))) (fun _ hk => hk.2) (.int .i64 t200)) (fun _ hk => hk.2) (.int .i64 t201)) (fun _ hk => hk.2) (.int .i64 t202)) (fun _ hk => ⟨hk.1.1.1.1.1.2, ⟨hk.1.1.1.1.2, ⟨hk.1.1.1.2, ⟨hk.1.1.2, hk.1.2⟩⟩⟩⟩)))⟩; have n1_ : Aside0 (w43.heap[gb191]? = some (.cells #[.int .i64 ((rd_T39 l0 x42_3).f0), .int .i64 ((rd_T39 l0 x42_3).f1), .int .i64 ((rd_T39 l0 x42_3).f2)] 39 (0, 0))) := ⟨(by rw [hw]; exact (by (with_reducible repeat (first | refine blk_drewN ?_ _ | refine blk_drew ?_ | refine blk_alloc ?_ _)); refine blk_far ?_ NB191_206.out _; (with_reducible repeat (first | refine blk_drewN ?_ _ | refine blk_drew ?_ | refine blk_alloc ?_ _)); refine blk_far ?_ NB191_206.out _; (with_reducible repeat (first | refine blk_drewN ?_ _ | refine blk_drew ?_ | refine blk_alloc ?_ _)); refine blk_far ?_ NB191_206.out _; (with_reducible repeat (first | refine blk_drewN ?_ _ | refine blk_drew ?_ | refine blk_alloc ?_ _)); exact BK191.out))⟩; have n2_ : Aside0 (w43.heap[gb198]? = some (.cells #[.int .i64 t192, .int .i64 t193, .int .i64 t194] 39 (0, 0))) := ⟨(by rw [hw]; exact (by (with_reducible repeat (first | refine blk_drewN ?_ _ | refine blk_drew ?_ | refine blk_alloc ?_ _)); refine blk_far ?_ NB198_206.out _; (with_reducible repeat (first | refine blk_drewN ?_ _ | refine blk_drew ?_ | refine blk_alloc ?_ _)); refine blk_far ?_ NB198_206.out _; (with_reducible repeat (first | refine blk_drewN ?_ _ | refine blk_drew ?_ | refine blk_alloc ?_ _)); refine blk_far ?_ NB198_206.out _; (with_reducible repeat (first | refine blk_drewN ?_ _ | refine blk_drew ?_ | refine blk_alloc ?_ _)); exact BK198.out))⟩; have n3_ : Aside0 (w43.heap[gb199]? = some (.cells #[.int .i64 t195, .int .i64 t196, .int .i64 t197] 39 (0, 0))) := ⟨(by rw [hw]; exact (by (with_reducible repeat (first | refine blk_drewN ?_ _ | refine blk_drew ?_ | refine blk_alloc ?_ _)); refine blk_far ?_ NB199_206.out _; (with_reducible repeat (first | refine blk_drewN ?_ _ | refine blk_drew ?_ | refine blk_alloc ?_ _)); refine blk_far ?_ NB199_206.out _; (with_reducible repeat (first | refine blk_drewN ?_ _ | refine blk_drew ?_ | refine blk_alloc ?_ _)); refine blk_far ?_ NB199_206.out _; (with_reducible repeat (first | refine blk_drewN ?_ _ | refine blk_drew ?_ | refine blk_alloc ?_ _)); exact BK199.out))⟩; have n4_ : Aside0 (w43.heap[gb206]? = some (.cells #[.int .i64 t200, .int .i64 t201, .int .i64 t202] 39 (0, 0))) := ⟨(by rw [hw]; exact (by (with_reducible repeat (first | refine blk_drewN ?_ _ | refine blk_drew ?_ | refine blk_alloc ?_ _)); refine blk_put (cs := #[.int .i64 t200, .int .i64 t201, .int .i64 0]) ?_ 2 _ rfl; (with_reducible repeat (first | refine blk_drewN ?_ _ | refine blk_drew ?_ | refine blk_alloc ?_ _)); refine blk_put (cs := #[.int .i64 t200, .int .i64 0, .int .i64 0]) ?_ 1 _ rfl; (with_reducible repeat (first | refine blk_drewN ?_ _ | refine blk_drew ?_ | refine blk_alloc ?_ _)); refine blk_put (cs := #[.int .i64 0, .int .i64 0, .int .i64 0]) ?_ 0 _ rfl; (with_reducible repeat (first | refine blk_drewN ?_ _ | refine blk_drew ?_ | refine blk_alloc ?_ _)); exact BK206.out))⟩; have n5_ : Aside0 (w43.heap[gb207]? = some (.cells #[.int .i64 0, .int .i64 0, .int .i64 0] 39 (0, 0))) := ⟨(by rw [hw]; exact (by (with_reducible repeat (first | refine blk_drewN ?_ _ | refine blk_drew ?_ | refine blk_alloc ?_ _)); refine blk_far ?_ NB207_206.out _; (with_reducible repeat (first | refine blk_drewN ?_ _ | refine blk_drew ?_ | refine blk_alloc ?_ _)); refine blk_far ?_ NB207_206.out _; (with_reducible repeat (first | refine blk_drewN ?_ _ | refine blk_drew ?_ | refine blk_alloc ?_ _)); refine blk_far ?_ NB207_206.out _; (with_reducible repeat (first | refine blk_drewN ?_ _ | refine blk_drew ?_ | refine blk_alloc ?_ _)); exact BK207.out))⟩; have n6_ : Aside0 (Below w.heap.size w w43) := ⟨(by rw [hw]; exact (by repeat (first | (with_reducible first | exact HB.out | apply below_alloc | apply pw_below_drewN | apply below_drew1 | refine below_set ?_ GE191.out | refine below_set ?_ GE198.out | refine below_set ?_ GE199.out | refine below_set ?_ GE206.out | refine below_set ?_ GE207.out) | exact HB.out)))⟩; clear hw; clear HO_9; clear BK191; clear BK198; clear BK199; clear BK206; clear BK207; clear HB; have HO_9 := n0_; have BK191 := n1_; have BK198 := n2_; have BK199 := n3_; have BK206 := n4_; have BK207 := n5_; have HB := n6_; clear n0_ n1_ n2_ n3_ n4_ n5_ n6_; have hnb44 := NB207_191.out; have hnc44 := NB191_207.out; have hnb45 := NB207_198.out; have hnc45 := NB198_207.out; have hnb46 := NB207_199.out; have hnc46 := NB199_207.out; have hcz47_0 : w43.cell? ⟨gb207, 0, none⟩ = some (.int .i64 0) := (blk_cell BK207.out 0).trans rfl; have hcz47_1 : w43.cell? ⟨gb207, 1, none⟩ = some (.int .i64 0) := (blk_cell BK207.out 1).trans rfl; have hcz47_2 : w43.cell? ⟨gb207, 2, none⟩ = some (.int .i64 0) := (blk_cell BK207.out 2).trans rfl; have hfz47_0 := blk_frozen BK207.out 0; have hfz47_1 := blk_frozen BK207.out 1; have hfz47_2 := blk_frozen BK207.out 2) | ((with_reducible refine gate_store (t := 39) (p := 16) rfl ?_); (try (rw [drewN_self w43]; generalize hq_ : World.drewN w43 _ = w43; have n0_ := Aside0.mk (Kd.R_at hq_ HO_9.out); have n1_ := Aside0.mk (blk_at hq_ BK191.out); have n2_ := Aside0.mk (blk_at hq_ BK198.out); have n3_ := Aside0.mk (blk_at hq_ BK199.out); have n4_ := Aside0.mk (blk_at hq_ BK206.out); have n5_ := Aside0.mk (blk_at hq_ BK207.out); have n6_ := Aside0.mk (below_at hq_ HB.out); clear hq_ HO_9 BK191 BK198 BK199 BK206 BK207 HB; have HO_9 := n0_; have BK191 := n1_; have BK198 := n2_; have BK199 := n3_; have BK206 := n4_; have BK207 := n5_; have HB := n6_; clear n0_ n1_ n2_ n3_ n4_ n5_ n6_)); refine store_event (t := 39) (p := 16) (v := ?vo_w48) (w1 := (((w43.setCell ⟨gb207, 0, none⟩ (.int .i64 t203)).setCell ⟨gb207, 1, none⟩ (.int .i64 t204)).setCell ⟨gb207, 2, none⟩ (.int .i64 t205))) ?hg ?ho ?hn ?hr ?_; (case ho => rfl); (case hg => rfl); (case hn => rfl); (case hr => first | (go_simp; done) | (go_simp; rfl)); intro w48 hw; have n0_ : Aside0 (Kd.R k39 39 w48 w.heap.size (fun k_ => k_ ≠ gb191 ∧ k_ ≠ gb198 ∧ k_ ≠ gb199 ∧ k_ ≠ gb206 ∧ k_ ≠ gb207) u9 x9_3) := ⟨(by rw [hw]; exact (by (with_reducible repeat (first | apply Kd.R_alloc | apply Kd.R_drewN | apply Kd.R_drew)); exact Kd.R_mono (Kd.R_far (p := ⟨gb207, 2, none⟩) (Kd.R_far (p := ⟨gb207, 1, none⟩) (Kd.R_far (p := ⟨gb207, 0, none⟩) (Kd.R_mono HO_9.out (fun k_ hk => (⟨hk, hk.2.2.2.2⟩ : _ ∧ k_ ≠ gb207))) (fun _ hk => hk.2) (.int .i64 t203)) (fun _ hk => hk.2) (.int .i64 t204)) (fun _ hk => hk.2) (.int .i64 t205)) (fun _ hk => ⟨hk.1.1, ⟨hk.1.2.1, ⟨hk.1.2.2.1, ⟨hk.1.2.2.2.1, hk.1.2.2.2.2⟩⟩⟩⟩)))⟩; have n1_ : Aside0 (w48.heap[gb191]? = some (.cells #[.int .i64 ((rd_T39 l0 x42_3).f0), .int .i64 ((rd_T39 l0 x42_3).f1), .int .i64 ((rd_T39 l0 x42_3).f2)] 39 (0, 0))) := ⟨(by rw [hw]; exact (by (with_reducible repeat (first | refine blk_drewN ?_ _ | refine blk_drew ?_ | refine blk_alloc ?_ _)); refine blk_far ?_ NB191_207.out _; (with_reducible repeat (first | refine blk_drewN ?_ _ | refine blk_drew ?_ | refine blk_alloc ?_ _)); refine blk_far ?_ NB191_207.out _; (with_reducible repeat (first | refine blk_drewN ?_ _ | refine blk_drew ?_ | refine blk_alloc ?_ _)); refine blk_far ?_ NB191_207.out _; (with_reducible repeat (first | refine blk_drewN ?_ _ | refine blk_drew ?_ | refine blk_alloc ?_ _)); exact BK191.out))⟩; have n2_ : Aside0 (w48.heap[gb198]? = some (.cells #[.int .i64 t192, .int .i64 t193, .int .i64 t194] 39 (0, 0))) := ⟨(by rw [hw]; exact (by (with_reducible repeat (first | refine blk_drewN ?_ _ | refine blk_drew ?_ | refine blk_alloc ?_ _)); refine blk_far ?_ NB198_207.out _; (with_reducible repeat (first | refine blk_drewN ?_ _ | refine blk_drew ?_ | refine blk_alloc ?_ _)); refine blk_far ?_ NB198_207.out _; (with_reducible repeat (first | refine blk_drewN ?_ _ | refine blk_drew ?_ | refine blk_alloc ?_ _)); refine blk_far ?_ NB198_207.out _; (with_reducible repeat (first | refine blk_drewN ?_ _ | refine blk_drew ?_ | refine blk_alloc ?_ _)); exact BK198.out))⟩; have n3_ : Aside0 (w48.heap[gb199]? = some (.cells #[.int .i64 t195, .int .i64 t196, .int .i64 t197] 39 (0, 0))) := ⟨(by rw [hw]; exact (by (with_reducible repeat (first | refine blk_drewN ?_ _ | refine blk_drew ?_ | refine blk_alloc ?_ _)); refine blk_far ?_ NB199_207.out _; (with_reducible repeat (first | refine blk_drewN ?_ _ | refine blk_drew ?_ | refine blk_alloc ?_ _)); refine blk_far ?_ NB199_207.out _; (with_reducible repeat (first | refine blk_drewN ?_ _ | refine blk_drew ?_ | refine blk_alloc ?_ _)); refine blk_far ?_ NB199_207.out _; (with_reducible repeat (first | refine blk_drewN ?_ _ | refine blk_drew ?_ | refine blk_alloc ?_ _)); exact BK199.out))⟩; have n4_ : Aside0 (w48.heap[gb206]? = some (.cells #[.int .i64 t200, .int .i64 t201, .int .i64 t202] 39 (0, 0))) := ⟨(by rw [hw]; exact (by (with_reducible repeat (first | refine blk_drewN ?_ _ | refine blk_drew ?_ | refine blk_alloc ?_ _)); refine blk_far ?_ NB206_207.out _; (with_reducible repeat (first | refine blk_drewN ?_ _ | refine blk_drew ?_ | refine blk_alloc ?_ _)); refine blk_far ?_ NB206_207.out _; (with_reducible repeat (first | refine blk_drewN ?_ _ | refine blk_drew ?_ | refine blk_alloc ?_ _)); refine blk_far ?_ NB206_207.out _; (with_reducible repeat (first | refine blk_drewN ?_ _ | refine blk_drew ?_ | refine blk_alloc ?_ _)); exact BK206.out))⟩; have n5_ : Aside0 (w48.heap[gb207]? = some (.cells #[.int .i64 t203, .int .i64 t204, .int .i64 t205] 39 (0, 0))) := ⟨(by rw [hw]; exact (by (with_reducible repeat (first | refine blk_drewN ?_ _ | refine blk_drew ?_ | refine blk_alloc ?_ _)); refine blk_put (cs := #[.int .i64 t203, .int .i64 t204, .int .i64 0]) ?_ 2 _ rfl; (with_reducible repeat (first | refine blk_drewN ?_ _ | refine blk_drew ?_ | refine blk_alloc ?_ _)); refine blk_put (cs := #[.int .i64 t203, .int .i64 0, .int .i64 0]) ?_ 1 _ rfl; (with_reducible repeat (first | refine blk_drewN ?_ _ | refine blk_drew ?_ | refine blk_alloc ?_ _)); refine blk_put (cs := #[.int .i64 0, .int .i64 0, .int .i64 0]) ?_ 0 _ rfl; (with_reducible repeat (first | refine blk_drewN ?_ _ | refine blk_drew ?_ | refine blk_alloc ?_ _)); exact BK207.out))⟩; have n6_ : Aside0 (Below w.heap.size w w48) := ⟨(by rw [hw]; exact (by repeat (first | (with_reducible first | exact HB.out | apply below_alloc | apply pw_below_drewN | apply below_drew1 | refine below_set ?_ GE191.out | refine below_set ?_ GE198.out | refine below_set ?_ GE199.out | refine below_set ?_ GE206.out | refine below_set ?_ GE207.out) | exact HB.out)))⟩; clear hw; clear HO_9; clear BK191; clear BK198; clear BK199; clear BK206; clear BK207; clear HB; have HO_9 := n0_; have BK191 := n1_; have BK198 := n2_; have BK199 := n3_; have BK206 := n4_; have BK207 := n5_; have HB := n6_; clear n0_ n1_ n2_ n3_ n4_ n5_ n6_; have hcz49_0 : w48.cell? ⟨gb206, 0, none⟩ = some (.int .i64 t200) := (blk_cell BK206.out 0).trans rfl; have hcz49_1 : w48.cell? ⟨gb206, 1, none⟩ = some (.int .i64 t201) := (blk_cell BK206.out 1).trans rfl; have hcz49_2 : w48.cell? ⟨gb206, 2, none⟩ = some (.int .i64 t202) := (blk_cell BK206.out 2).trans rfl; have hfz49_0 := blk_frozen BK206.out 0; have hfz49_1 := blk_frozen BK206.out 1; have hfz49_2 := blk_frozen BK206.out 2; obtain ⟨Ao50, co50, eo50⟩ := Kd.R_slice HO_9.out; subst eo50) | (go_at_call 51; (with_reducible refine (lots_some.calls (fun k_ => some k_ = (.slice Ao50 x9_3.length co50 : Value).ownBlock) (.slice Ao50 x9_3.length co50) x9_3 t200 t201 t202 t208 w _ ?side1 ?side2 A24.out).mono ?_); (case side1 => repeat (first | (with_reducible first | exact HB.out | apply below_alloc | apply pw_below_drewN | apply below_drew1 | refine below_set ?_ GE191.out | refine below_set ?_ GE198.out | refine below_set ?_ GE199.out | refine below_set ?_ GE206.out | refine below_set ?_ GE207.out) | exact HB.out)); (case side2 => exact Kd.R_tight rfl HO_9.out); rintro e w51 ⟨v209, rfl, ho0, hb, hkp⟩; have n0_ := Aside0.mk (blk_kept (kb BK191.out) hkp (fun hs_ => (fun e_ => (Kd.R_away HO_9.out (fun _ hk => hk.1)) e_) hs_)); have n1_ := Aside0.mk (blk_kept (kb BK198.out) hkp (fun hs_ => (fun e_ => (Kd.R_away HO_9.out (fun _ hk => hk.2.1)) e_) hs_)); have n2_ := Aside0.mk (blk_kept (kb BK199.out) hkp (fun hs_ => (fun e_ => (Kd.R_away HO_9.out (fun _ hk => hk.2.2.1)) e_) hs_)); have n3_ := Aside0.mk (blk_kept (kb BK206.out) hkp (fun hs_ => (fun e_ => (Kd.R_away HO_9.out (fun _ hk => hk.2.2.2.1)) e_) hs_)); have n4_ := Aside0.mk (blk_kept (kb BK207.out) hkp (fun hs_ => (fun e_ => (Kd.R_away HO_9.out (fun _ hk => hk.2.2.2.2)) e_) hs_)); have n5_ := Aside0.mk (Kd.R_mono (ok' := fun k_ => k_ ≠ gb191 ∧ k_ ≠ gb198 ∧ k_ ≠ gb199 ∧ k_ ≠ gb206 ∧ k_ ≠ gb207) ho0 (fun k_ hk_ => ⟨Or.elim hk_ (fun hs_ => fun e_ => (Kd.R_away HO_9.out (fun _ hk => hk.1)) (by rw [← e_]; exact hs_)) (fun hn_ => (Kd.freshB (g := gb191) (o := .cells #[.int .i64 ((rd_T39 l0 x42_3).f0), .int .i64 ((rd_T39 l0 x42_3).f1), .int .i64 ((rd_T39 l0 x42_3).f2)] 39 (0, 0)) (kb BK191.out) k_ hn_)), Or.elim hk_ (fun hs_ => fun e_ => (Kd.R_away HO_9.out (fun _ hk => hk.2.1)) (by rw [← e_]; exact hs_)) (fun hn_ => (Kd.freshB (g := gb198) (o := .cells #[.int .i64 t192, .int .i64 t193, .int .i64 t194] 39 (0, 0)) (kb BK198.out) k_ hn_)), Or.elim hk_ (fun hs_ => fun e_ => (Kd.R_away HO_9.out (fun _ hk => hk.2.2.1)) (by rw [← e_]; exact hs_)) (fun hn_ => (Kd.freshB (g := gb199) (o := .cells #[.int .i64 t195, .int .i64 t196, .int .i64 t197] 39 (0, 0)) (kb BK199.out) k_ hn_)), Or.elim hk_ (fun hs_ => fun e_ => (Kd.R_away HO_9.out (fun _ hk => hk.2.2.2.1)) (by rw [← e_]; exact hs_)) (fun hn_ => (Kd.freshB (g := gb206) (o := .cells #[.int .i64 t200, .int .i64 t201, .int .i64 t202] 39 (0, 0)) (kb BK206.out) k_ hn_)), Or.elim hk_ (fun hs_ => fun e_ => (Kd.R_away HO_9.out (fun _ hk => hk.2.2.2.2)) (by rw [← e_]; exact hs_)) (fun hn_ => (Kd.freshB (g := gb207) (o := .cells #[.int .i64 t203, .int .i64 t204, .int .i64 t205] 39 (0, 0)) (kb BK207.out) k_ hn_))⟩)); have n6_ := Aside0.mk (hb); clear BK191; clear BK198; clear BK199; clear BK206; clear BK207; clear HB; clear HO_9; have BK191 := n0_; have BK198 := n1_; have BK199 := n2_; have BK206 := n3_; have BK207 := n4_; have HO210 := n5_; have HB := n6_; clear n0_ n1_ n2_ n3_ n4_ n5_ n6_; (try clear hb); (try clear hkp); (try clear ho0)))
            go_roundg k3
            case measure => have := HJ3.out; have := HJ12.out; have := HK3.out; omega
            case rel => exact ⟨(wrap64 (x1_3 - (ji20))), (wrap64 (x2_3 - t202)), (t208), (wrap64 (x42_3 + 1)), (by first | rfl | (simp only [i64_w]; done) | (simp; done) | (simp only [← hji20] <;> (first | rfl | (simp only [i64_w]; done) | simp)) | (simp [*]; done)), eqs, eqs, H', ⟨by have := HJ3.out; have := HJ12.out; have := HK3.out; omega⟩, ⟨by (with_reducible repeat (first | apply Kd.R_alloc | apply Kd.R_drewN | apply Kd.R_drew)); exact Kd.R_mono HO210.out (fun _ hk => trivial)⟩, ⟨by repeat (first | (with_reducible first | exact HB.out | apply below_alloc | apply pw_below_drewN | apply below_drew1 | refine below_set ?_ GE191.out | refine below_set ?_ GE198.out | refine below_set ?_ GE199.out | refine below_set ?_ GE206.out | refine below_set ?_ GE207.out) | exact HB.out)⟩⟩
           ·rw [if_neg c19] at H
            exact absurd H (by simp)
          ·rw [if_neg c18] at H
           exact absurd H (by simp)
         ·rw [if_neg c17] at H
          have c17b0 : decide (x42_3 < (l0.length : Int)) = false := decide_eq_false c17
          clear c17
          simp only [Option.some.injEq, Prod.mk.injEq] at H
          obtain ⟨rfl, rfl⟩ := H
          go_wp2
          repeat (go_quiet (fail); try go_wp2)
          go_ret2
          exact ⟨_, by first | rfl | (simp [errW_none, errW_some] <;> rfl) | (simp [*, errW_none, errW_some] <;> rfl), kr HO_9.out, bw⟩

-- NOT PRINTED: function 79 (lots_pieces)

-- NOT PRINTED: function 102 (api_Lot_102)

-- NOT PRINTED: function 114 (api_Lot_114)

-- NOT PRINTED: function 103 (api_Lot_103)

-- NOT PRINTED: function 110 (bits_Len32)

-- NOT PRINTED: function 98 (bits_Len)

-- NOT PRINTED: function 115 (slices_nextPowerOfTwo)

-- NOT PRINTED: function 116 (slices_xorshift_Next)

-- NOT PRINTED: function 104 (api_Lot_104)

-- NOT PRINTED: function 120 (api_Lot_120)

-- NOT PRINTED: function 118 (api_Lot_118)

-- NOT PRINTED: function 117 (api_Lot_117)

-- NOT PRINTED: function 105 (api_Lot_105)

-- NOT PRINTED: function 106 (api_Lot_106)

-- NOT PRINTED: function 107 (api_Lot_107)

-- NOT PRINTED: function 108 (api_Lot_108)

-- NOT PRINTED: function 109 (api_Lot_109)

-- NOT PRINTED: function 97 (api_Lot_97)

end Go.Proofs.Ytcicjbgfahdejaa.P
