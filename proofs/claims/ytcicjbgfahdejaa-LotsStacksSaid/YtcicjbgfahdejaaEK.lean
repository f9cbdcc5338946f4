/- share.Split: the walk as this session's programs wrote it, the boxed variable added (wip/tools/mksplit.py). -/
import Derived.Test.YtcicjbgfahdejaaPx2
import Derived.Test.YtcicjbgfahdejaaEB
import Derived.Test.YtcicjbgfahdejaaEJ
namespace Go.Proofs.Ytcicjbgfahdejaa.P
open Go.RowKit Go.Proofs.YtcicjbgfahdejaaW.PrintWords Go.Proofs.YtcicjbgfahdejaaW.PrintLast Go.Proofs.YtcicjbgfahdejaaW.PrintMore
attribute [local go_sem] max2_int min2_int max_two min_two max_three min_three max_four min_four
set_option linter.unusedVariables false
set_option linter.unusedSimpArgs false
mutual
def share_Split.l0 : Nat → Int → List Int → Int → List Int → Int → Int → Option (List Int × Int)
 | 0, _, _, _, _, _, _ => none
 | k + 1, x0, x1, x6, x16, x17, x18 => if x18 < x17 then (if 0 ≤ x18 then (if x18 < (x16.length : Int) then ((share_amount.f (rd x16 x18)).bind fun t146 => (if t146 = true then (if x6 > 1152921504606846976 then (some (([] : List Int), 1)) else (share_Split.l0 k x0 x1 (wrap64 (x6 + (rd x16 x18))) x16 x17 (wrap64 (x18 + 1)))) else (some (([] : List Int), 1)))) else (none)) else (none)) else ((share_amount.f x0).bind fun t147 => (if t147 = true then (if x6 = 0 then (share_Split.j1 k x0 x1 x6 true) else (share_Split.j1 k x0 x1 x6 (decide (x6 > 1152921504606846976)))) else (share_Split.j1 k x0 x1 x6 true)))
def share_Split.j1 : Nat → Int → List Int → Int → Bool → Option (List Int × Int)
 | 0, _, _, _, _ => none
 | k + 1, x0, x1, x6, x43 => if x43 = true then (some (([] : List Int), 1)) else (if 0 ≤ (x1.length : Int) then (if ((x1.length : Int) : Int).toNat ≤ 35184372088832 then (share_Split.l1 k x0 x1 x6 (List.replicate ((x1.length : Int) : Int).toNat 0) (List.replicate ((x1.length : Int) : Int).toNat 0) (List.replicate ((x1.length : Int) : Int).toNat 0) x0 (x1.length : Int) 0) else (none)) else (none))
def share_Split.l1 : Nat → Int → List Int → Int → List Int → List Int → List Int → Int → Int → Int → Option (List Int × Int)
 | 0, _, _, _, _, _, _, _, _, _ => none
 | k + 1, x0, x1, x6, x10, x11, x12, x13, x53, x54 => if x54 < x53 then (if 0 ≤ x54 then (if x54 < (x1.length : Int) then ((share_divide.f k x0 (rd x1 x54) x6).bind fun bt158 => (if x54 < (x10.length : Int) then ((some (x10.set (x54 : Int).toNat bt158.1 : List Int)).bind fun y161 => (if x54 < (x11.length : Int) then (if x54 < (x12.length : Int) then (share_Split.l1 k x0 x1 x6 y161 (x11.set (x54 : Int).toNat bt158.2.1) (x12.set (x54 : Int).toNat x54) (wrap64 (x13 - (rd y161 x54))) x53 (wrap64 (x54 + 1))) else (none)) else (none))) else (none))) else (none)) else (none)) else ((slices_SortStableFunc_int_int.f x12 x11).bind fun t165 => (share_Split.l2 k x10 t165 x13 0))
def share_Split.l2 : Nat → List Int → List Int → Int → Int → Option (List Int × Int)
 | 0, _, _, _, _ => none
 | k + 1, x10, x12, x88, x89 => if x89 < x88 then (if 0 ≤ x89 then (if x89 < (x12.length : Int) then (if 0 ≤ (rd x12 x89) then (if (rd x12 x89) < (x10.length : Int) then (share_Split.l2 k (x10.set ((rd x12 x89) : Int).toNat (wrap64 ((rd x10 (rd x12 x89)) + 1))) x12 x88 (wrap64 (x89 + 1))) else (none)) else (none)) else (none)) else (none)) else (some (x10, 0))
end
def share_Split.f (k : Nat) (a0 : Int) (l1 : List Int) : Option (List Int × Int) := share_Split.l0 k a0 l1 0 l1 (l1.length : Int) 0
def share_Split.T17 : Bool × List (List Nat × List Nat) := (true, [([], []), ([], []), ([], []), ([], []), ([], []), ([], []), ([], []), ([5, 6], [5, 6]), ([7], [7]), ([], []), ([4, 8, 9], [4, 8, 9]), ([10], [10]), ([11], [11]), ([11], [11]), ([11], [11]), ([0, 1, 0, 1, 4, 5, 6, 7, 8, 9, 10, 11, 12], [0, 1]), ([15, 12, 10, 0, 1, 4, 5, 6, 7, 8, 9, 10, 11, 12], [12, 15]), ([2, 3, 0, 1, 2, 3, 4, 5, 6, 7, 8, 9, 10, 11, 12, 13, 15, 16], [2, 3]), ([17, 13, 16, 0, 1, 2, 3, 4, 5, 6, 7, 8, 9, 10, 11, 12, 13, 15, 16], [13, 17])])
def share_Split.B17 : List Nat := [0, 0, 0, 0, 0, 0, 0, 96, 224, 0, 1008, 2032, 4080, 4080, 4080, 8179, 40947, 114687, 245759]
theorem share_Split.tab17 : rtab .any (opsOf Try.f75 17) = share_Split.T17 := by kernel_rfl
theorem share_Split.bits17 : waitsOk share_Split.T17.2 share_Split.B17 = true := by kernel_rfl
set_option maxHeartbeats 8000000 in
set_option maxRecDepth 100000 in
theorem share_Split.calls (k : Nat) (a0 : Int) (A1 : Option Addr) (c1 : Nat) (l1 : List Int) (r1 : List Int) (r2 : Int) (w : World) (hr1 : Kd.C (Kd.int .i64) w A1 l1.length l1) (hc1 : l1.length ≤ c1) (h : share_Split.f k a0 l1 = some (r1, r2)) :
  Calls Try.prog 75 #[.int .i64 a0, .slice A1 l1.length c1] w fun e w' => ∃ v0_ : Value, e = .returned (.tuple #[v0_, .int .i64 r2]) ∧ Kd.R (Kd.int .i64) 3 w' w.heap.size (fun _ => True) v0_ r1 ∧ Below w.heap.size w w' := by
 have HR1 := Aside0.mk hr1
 have HC1 := Aside0.mk hc1
 clear hr1 hc1
 have HB := Aside0.mk (Below.refl w.heap.size w)
 have H : (share_Split.l0 k a0 l1 0 l1 (l1.length : Int) 0) = some (r1, r2) := h
 clear h
 have H' := Aside0.mk H
 clear H
 go_enter Try.func75, Try.ntmps75
 go_wp2
 go_loopg [6, 18] k (fun kq v6 v18 w' => ∃ (x6_1 : Int) (x18_1 : Int), v6 = .int .i64 x6_1 ∧ v18 = .int .i64 x18_1 ∧ Aside0 (share_Split.l0 kq a0 l1 x6_1 l1 (l1.length : Int) x18_1 = some (r1, r2)) ∧ Aside0 (kq ≤ k) ∧ Aside0 (Below w.heap.size w w'))
 case atStart => exact ⟨(0), (0), eqs, eqs, H', ⟨Nat.le_refl _⟩, ⟨bw⟩⟩
 case round =>
  clear H'
  try clear c1
  obtain ⟨x6_1, x18_1, rfl, rfl, HA, HK1, HB⟩ := hrel
  cases gk with
  | zero => exact absurd HA.out (by simp [share_Split.l0])
  | succ k1 =>
   have H := HA.out
   clear HA
   simp only [share_Split.l0] at H
   by_cases c3 : x18_1 < (l1.length : Int)
   ·rw [if_pos c3] at H
    have c3b0 : decide (x18_1 < (l1.length : Int)) = true := decide_eq_true c3
    clear c3
    by_cases c4 : 0 ≤ x18_1
    ·rw [if_pos c4] at H
     have c4b0 : decide (0 ≤ x18_1) = true := decide_eq_true c4
     clear c4
     by_cases c5 : x18_1 < (l1.length : Int)
     ·rw [if_pos c5] at H
      have c5b0 : decide (x18_1 < (l1.length : Int)) = true := decide_eq_true c5
      clear c5
      replace H := Option.bind_eq_some_iff.mp H
      obtain ⟨t146, A60, H⟩ := H
      replace H : (if t146 = true then (if x6_1 > 1152921504606846976 then (some (([] : List Int), 1)) else (share_Split.l0 k1 a0 l1 (wrap64 (x6_1 + (rd l1 x18_1))) l1 (l1.length : Int) (wrap64 (x18_1 + 1)))) else (some (([] : List Int), 1))) = some (r1, r2) := H
      have A6 := Aside0.mk A60
      clear A60
      by_cases c7 : t146 = true
      ·subst c7
       have H1 : (if x6_1 > 1152921504606846976 then (some (([] : List Int), 1)) else (share_Split.l0 k1 a0 l1 (wrap64 (x6_1 + (rd l1 x18_1))) l1 (l1.length : Int) (wrap64 (x18_1 + 1)))) = some (r1, r2) := by rw [if_pos rfl] at H; exact H
       clear H
       have H := H1
       clear H1
       by_cases c8 : x6_1 > 1152921504606846976
       ·rw [if_pos c8] at H
        have c8b0 : decide (1152921504606846976 < x6_1) = true := decide_eq_true c8
        clear c8
        simp only [Option.some.injEq, Prod.mk.injEq] at H
        obtain ⟨rfl, rfl⟩ := H
        have p145 : 0 ≤ (x18_1 : Int) := oda
        have q145 : x18_1 < (l1.length : Int) := oda
        obtain ⟨ad145, e145, hx145_0⟩ := Kd.at_int HR1.out x18_1 p145 q145
        cases e145
        replace hx145_0 := (HB.out.cell (World.block_lt_of_cell? w _ hx145_0)).trans hx145_0
        replace p145 := eq_true p145
        replace q145 := eq_true q145
        go_wp2_with (first | ((with_reducible refine gate_callee (f := 62) rfl ?_); refine goesL_ (some 23) rfl rfl Try.func62 (by kernel_rfl) rfl #[.int .i64 (rd l1 x18_1)] rfl (by (try simp only [List.map_toArray, List.map_cons, List.map_nil]); first | done | rfl | (simp only [List.length_drop, List.length_take]; rfl)) ?_; (with_reducible refine (share_amount.calls (rd l1 x18_1) true _ A6.out).mono ?_); rintro e w' ⟨rfl, ⟨nd, rfl⟩⟩; refine ⟨_, rfl, ?_⟩))
        go_ret2
        exact ⟨_, by first | rfl | (simp [errW_none, errW_some] <;> rfl) | (simp [*, errW_none, errW_some] <;> rfl), by first | exact Kd.R_nil _ _ _ _ _ | exact Kd.N_nil _ _ _ _ _ | exact Kd.V_nil _ _ _ _ _ | exact Kd.Q_nil _ _ _ _ _ | exact Kd.S_nil _ _ _ _ _, bw⟩
       ·rw [if_neg c8] at H
        have c8b0 : decide (1152921504606846976 < x6_1) = false := decide_eq_false c8
        clear c8
        have H' := Aside0.mk H
        clear H
        have p145 : 0 ≤ (x18_1 : Int) := oda
        have q145 : x18_1 < (l1.length : Int) := oda
        obtain ⟨ad145, e145, hx145_0⟩ := Kd.at_int HR1.out x18_1 p145 q145
        cases e145
        replace hx145_0 := (HB.out.cell (World.block_lt_of_cell? w _ hx145_0)).trans hx145_0
        replace p145 := eq_true p145
        replace q145 := eq_true q145
        go_wp2_with (first | ((with_reducible refine gate_callee (f := 62) rfl ?_); refine goesL_ (some 23) rfl rfl Try.func62 (by kernel_rfl) rfl #[.int .i64 (rd l1 x18_1)] rfl (by (try simp only [List.map_toArray, List.map_cons, List.map_nil]); first | done | rfl | (simp only [List.length_drop, List.length_take]; rfl)) ?_; (with_reducible refine (share_amount.calls (rd l1 x18_1) true _ A6.out).mono ?_); rintro e w' ⟨rfl, ⟨nd, rfl⟩⟩; refine ⟨_, rfl, ?_⟩))
        go_roundg k1
        case measure => have := HK1.out; omega
        case rel => exact ⟨(wrap64 (x6_1 + (rd l1 x18_1))), (wrap64 (x18_1 + 1)), eqs, eqs, H', ⟨by have := HK1.out; omega⟩, ⟨bw⟩⟩
      ·replace c7 := Bool.eq_false_iff.mpr c7
       subst c7
       have H1 : (some (([] : List Int), 1)) = some (r1, r2) := by rw [if_neg (show ¬ (false = true) by decide)] at H; exact H
       clear H
       have H := H1
       clear H1
       simp only [Option.some.injEq, Prod.mk.injEq] at H
       obtain ⟨rfl, rfl⟩ := H
       have p145 : 0 ≤ (x18_1 : Int) := oda
       have q145 : x18_1 < (l1.length : Int) := oda
       obtain ⟨ad145, e145, hx145_0⟩ := Kd.at_int HR1.out x18_1 p145 q145
       cases e145
       replace hx145_0 := (HB.out.cell (World.block_lt_of_cell? w _ hx145_0)).trans hx145_0
       replace p145 := eq_true p145
       replace q145 := eq_true q145
       go_wp2_with (first | ((with_reducible refine gate_callee (f := 62) rfl ?_); refine goesL_ (some 23) rfl rfl Try.func62 (by kernel_rfl) rfl #[.int .i64 (rd l1 x18_1)] rfl (by (try simp only [List.map_toArray, List.map_cons, List.map_nil]); first | done | rfl | (simp only [List.length_drop, List.length_take]; rfl)) ?_; (with_reducible refine (share_amount.calls (rd l1 x18_1) false _ A6.out).mono ?_); rintro e w' ⟨rfl, ⟨nd, rfl⟩⟩; refine ⟨_, rfl, ?_⟩))
       go_ret2
       exact ⟨_, by first | rfl | (simp [errW_none, errW_some] <;> rfl) | (simp [*, errW_none, errW_some] <;> rfl), by first | exact Kd.R_nil _ _ _ _ _ | exact Kd.N_nil _ _ _ _ _ | exact Kd.V_nil _ _ _ _ _ | exact Kd.Q_nil _ _ _ _ _ | exact Kd.S_nil _ _ _ _ _, bw⟩
     ·rw [if_neg c5] at H
      exact absurd H (by simp)
    ·rw [if_neg c4] at H
     exact absurd H (by simp)
   ·rw [if_neg c3] at H
    have c3b0 : decide (x18_1 < (l1.length : Int)) = false := decide_eq_false c3
    clear c3
    have HC9 := Aside0.mk H
    clear H
    go_upto_region 9 with (fail)
    go_cut [43] (fun v43 wc => ∃ (kq : Nat) (x43_8 : Bool), v43 = .bool x43_8 ∧ Aside0 (share_Split.j1 kq a0 l1 x6_1 x43_8 = some (r1, r2)) ∧ Aside0 (kq ≤ k1) ∧ Aside0 (Below w.heap.size w wc))
    case first =>
     have H := HC9.out
     clear HC9
     replace H := Option.bind_eq_some_iff.mp H
     obtain ⟨t147, A100, H⟩ := H
     replace H : (if t147 = true then (if x6_1 = 0 then (share_Split.j1 k1 a0 l1 x6_1 true) else (share_Split.j1 k1 a0 l1 x6_1 (decide (x6_1 > 1152921504606846976)))) else (share_Split.j1 k1 a0 l1 x6_1 true)) = some (r1, r2) := H
     have A10 := Aside0.mk A100
     clear A100
     by_cases c11 : t147 = true
     ·subst c11
      have H1 : (if x6_1 = 0 then (share_Split.j1 k1 a0 l1 x6_1 true) else (share_Split.j1 k1 a0 l1 x6_1 (decide (x6_1 > 1152921504606846976)))) = some (r1, r2) := by rw [if_pos rfl] at H; exact H
      clear H
      have H := H1
      clear H1
      by_cases c12 : x6_1 = 0
      ·rw [if_pos c12] at H
       have c12b0 : (x6_1 == 0) = true := beq_iff_eq.mpr c12
       have c12b1 : (x6_1 != 0) = false := bne_eq_false_iff_eq.mpr c12
       clear c12
       (first | rw [c12b0] | (simp only [i64_w, i32_w]; rw [c12b0]) | skip)
       have H' := Aside0.mk H
       clear H
       go_wp2_with (first | ((with_reducible refine gate_callee (f := 62) rfl ?_); refine goesL_ (some 34) rfl rfl Try.func62 (by kernel_rfl) rfl #[.int .i64 a0] rfl (by (try simp only [List.map_toArray, List.map_cons, List.map_nil]); first | done | rfl | (simp only [List.length_drop, List.length_take]; rfl)) ?_; (with_reducible refine (share_amount.calls a0 true _ A10.out).mono ?_); rintro e w' ⟨rfl, ⟨nd, rfl⟩⟩; refine ⟨_, rfl, ?_⟩))
       go_meet
       case rel => exact ⟨_, (true), eqs, H', ⟨by have := HK1.out; first | omega | exact Nat.le_refl _⟩, ⟨bw⟩⟩
      ·rw [if_neg c12] at H
       have c12b0 : (x6_1 == 0) = false := beq_eq_false_iff_ne.mpr c12
       have c12b1 : (x6_1 != 0) = true := bne_iff_ne.mpr c12
       (first | rw [c12b0] | (simp only [i64_w, i32_w]; rw [c12b0]) | skip)
       have H' := Aside0.mk H
       clear H
       go_wp2_with (first | ((with_reducible refine gate_callee (f := 62) rfl ?_); refine goesL_ (some 34) rfl rfl Try.func62 (by kernel_rfl) rfl #[.int .i64 a0] rfl (by (try simp only [List.map_toArray, List.map_cons, List.map_nil]); first | done | rfl | (simp only [List.length_drop, List.length_take]; rfl)) ?_; (with_reducible refine (share_amount.calls a0 true _ A10.out).mono ?_); rintro e w' ⟨rfl, ⟨nd, rfl⟩⟩; refine ⟨_, rfl, ?_⟩))
       go_meet
       case rel => exact ⟨_, (decide (x6_1 > 1152921504606846976)), eqs, H', ⟨by have := HK1.out; first | omega | exact Nat.le_refl _⟩, ⟨bw⟩⟩
     ·replace c11 := Bool.eq_false_iff.mpr c11
      subst c11
      have H1 : (share_Split.j1 k1 a0 l1 x6_1 true) = some (r1, r2) := by rw [if_neg (show ¬ (false = true) by decide)] at H; exact H
      clear H
      have H := H1
      clear H1
      have H' := Aside0.mk H
      clear H
      go_wp2_with (first | ((with_reducible refine gate_callee (f := 62) rfl ?_); refine goesL_ (some 34) rfl rfl Try.func62 (by kernel_rfl) rfl #[.int .i64 a0] rfl (by (try simp only [List.map_toArray, List.map_cons, List.map_nil]); first | done | rfl | (simp only [List.length_drop, List.length_take]; rfl)) ?_; (with_reducible refine (share_amount.calls a0 false _ A10.out).mono ?_); rintro e w' ⟨rfl, ⟨nd, rfl⟩⟩; refine ⟨_, rfl, ?_⟩))
      go_meet
      case rel => exact ⟨_, (true), eqs, H', ⟨by have := HK1.out; first | omega | exact Nat.le_refl _⟩, ⟨bw⟩⟩
    case rest =>
     clear HC9
     try clear c1
     try clear c3
     try clear c3b0
     try clear c4
     try clear c4b0
     try clear c5
     try clear c5b0
     try clear c7
     try clear c8
     try clear c8b0
     try clear c11
     try clear c12
     try clear c12b0
     try clear c12b1
     try clear hx145_0
     try clear p145
     try clear q145
     obtain ⟨kq, x43_8, rfl, HA, HJ8, HB⟩ := hcut
     cases kq with
     | zero => exact absurd HA.out (by simp [share_Split.j1])
     | succ kj8 =>
      have H := HA.out
      clear HA
      simp only [share_Split.j1] at H
      by_cases c13 : x43_8 = true
      ·subst c13
       have H1 : (some (([] : List Int), 1)) = some (r1, r2) := by rw [if_pos rfl] at H; exact H
       clear H
       have H := H1
       clear H1
       simp only [Option.some.injEq, Prod.mk.injEq] at H
       obtain ⟨rfl, rfl⟩ := H
       go_wp2
       go_ret2
       exact ⟨_, by first | rfl | (simp [errW_none, errW_some] <;> rfl) | (simp [*, errW_none, errW_some] <;> rfl), by first | exact Kd.R_nil _ _ _ _ _ | exact Kd.N_nil _ _ _ _ _ | exact Kd.V_nil _ _ _ _ _ | exact Kd.Q_nil _ _ _ _ _ | exact Kd.S_nil _ _ _ _ _, bw⟩
      ·replace c13 := Bool.eq_false_iff.mpr c13
       subst c13
       have H1 : (if 0 ≤ (l1.length : Int) then (if ((l1.length : Int) : Int).toNat ≤ 35184372088832 then (share_Split.l1 kj8 a0 l1 x6_1 (List.replicate ((l1.length : Int) : Int).toNat 0) (List.replicate ((l1.length : Int) : Int).toNat 0) (List.replicate ((l1.length : Int) : Int).toNat 0) a0 (l1.length : Int) 0) else (none)) else (none)) = some (r1, r2) := by rw [if_neg (show ¬ (false = true) by decide)] at H; exact H
       clear H
       have H := H1
       clear H1
       by_cases c14 : 0 ≤ (l1.length : Int)
       ·rw [if_pos c14] at H
        have c14b0 := eq_true c14
        have c14b1 : decide (0 ≤ (l1.length : Int)) = true := decide_eq_true c14
        clear c14
        by_cases c15 : ((l1.length : Int) : Int).toNat ≤ 35184372088832
        ·rw [if_pos c15] at H
         have c15b0 := eq_true c15
         have c15b1 : decide (((l1.length : Int) : Int).toNat ≤ 35184372088832) = true := decide_eq_true c15
         clear c15
         obtain ⟨y148, hy148⟩ : ∃ y_ : List Int, y_ = (List.replicate ((l1.length : Int) : Int).toNat 0) := ⟨_, rfl⟩
         replace H : (share_Split.l1 kj8 a0 l1 x6_1 y148 (List.replicate ((l1.length : Int) : Int).toNat 0) (List.replicate ((l1.length : Int) : Int).toNat 0) a0 (l1.length : Int) 0) = some (r1, r2) := by first | (rw [hy148]; with_reducible exact H) | (have H2_ := (Option.bind_some _ _).symm.trans H; rw [hy148]; with_reducible exact H2_) | (have H2_ := (Option.bind_some _ _).symm.trans H; with_reducible exact H2_) | with_reducible exact H | (rw [hy148]; exact H) | exact H
         have Ny148 := Aside0.mk hy148
         clear hy148
         obtain ⟨y151, hy151⟩ : ∃ y_ : List Int, y_ = (List.replicate ((l1.length : Int) : Int).toNat 0) := ⟨_, rfl⟩
         replace H : (share_Split.l1 kj8 a0 l1 x6_1 y148 y151 (List.replicate ((l1.length : Int) : Int).toNat 0) a0 (l1.length : Int) 0) = some (r1, r2) := by first | (rw [hy151]; with_reducible exact H) | (have H2_ := (Option.bind_some _ _).symm.trans H; rw [hy151]; with_reducible exact H2_) | (have H2_ := (Option.bind_some _ _).symm.trans H; with_reducible exact H2_) | with_reducible exact H | (rw [hy151]; exact H) | exact H
         have Ny151 := Aside0.mk hy151
         clear hy151
         obtain ⟨y154, hy154⟩ : ∃ y_ : List Int, y_ = (List.replicate ((l1.length : Int) : Int).toNat 0) := ⟨_, rfl⟩
         replace H : (share_Split.l1 kj8 a0 l1 x6_1 y148 y151 y154 a0 (l1.length : Int) 0) = some (r1, r2) := by first | (rw [hy154]; with_reducible exact H) | (have H2_ := (Option.bind_some _ _).symm.trans H; rw [hy154]; with_reducible exact H2_) | (have H2_ := (Option.bind_some _ _).symm.trans H; with_reducible exact H2_) | with_reducible exact H | (rw [hy154]; exact H) | exact H
         have Ny154 := Aside0.mk hy154
         clear hy154
         have H' := Aside0.mk H
         clear H
         try go_wp2
         have n0_ := Aside0.mk (below_drew1 HB.out)
         clear HB
         have HB := n0_
         clear n0_
         refine start_ (n := 10) (S := fun w' => True) (ds := []) (bs 10 0) (by kernel_rfl) rfl rfl trivial (fun hHeld => ?_); refine with_tabW Split12.tab Split12.bits (fun HT_ HW_ => ?_)
         generalize wc.drew = w16 at HB hHeld ⊢
         refine pu 0 46 (bs 10 1) HT_ ?_
         refine pu 2 48 (bs 10 5) HT_ ?_
         refine pu 4 50 (bs 10 21) HT_ ?_
         refine Split12.all w w16 l1.length (by have h_ : (l1.length : Int).toNat ≤ 35184372088832 := oda; omega) _ _ rfl rfl rfl rfl HB.out (fun v149 v152 v155 gb w22 hB2 hr1 hr2 hr3 hbx hgb => ?_)
         clear HB
         have HB := Aside0.mk hB2
         have HX := Aside0.mk hbx
         have HO150 : Aside0 (Kd.R (Kd.int .i64) 3 w22 w.heap.size (fun k => some k ≠ v152.ownBlock ∧ some k ≠ v155.ownBlock) v149 y148) := ⟨by rw [Ny148.out, Int.toNat_natCast]; exact hr1⟩
         have HO153 : Aside0 (Kd.R (Kd.int .i64) 3 w22 w.heap.size (fun k => some k ≠ v149.ownBlock ∧ some k ≠ v155.ownBlock) v152 y151) := ⟨by rw [Ny151.out, Int.toNat_natCast]; exact hr2⟩
         have HO156 : Aside0 (Kd.R (Kd.int .i64) 3 w22 w.heap.size (fun k => some k ≠ v149.ownBlock ∧ some k ≠ v152.ownBlock) v155 y154) := ⟨by rw [Ny154.out, Int.toNat_natCast]; exact hr3⟩
         clear hB2 hbx hgb hr1 hr2 hr3
         simp only [Act.put, List.setIfInBounds_toArray, List.set_cons_zero, List.set_cons_succ]
         try go_wp2
         go_loopg [13, 54] kj8 (fun kq v13 v54 w' => ∃ (x10_3 : List Int) (x11_3 : List Int) (x12_3 : List Int) (x13_3 : Int) (x54_3 : Int), v13 = .int .i64 x13_3 ∧ v54 = .int .i64 x54_3 ∧ Aside0 (share_Split.l1 kq a0 l1 x6_1 x10_3 x11_3 x12_3 x13_3 (l1.length : Int) x54_3 = some (r1, r2)) ∧ Aside0 (kq ≤ kj8) ∧ Aside0 (Kd.R (Kd.int .i64) 3 w' w.heap.size (fun k_ => some k_ ≠ (v152 : Value).ownBlock ∧ some k_ ≠ (v155 : Value).ownBlock) v149 x10_3) ∧ Aside0 (Kd.R (Kd.int .i64) 3 w' w.heap.size (fun k_ => some k_ ≠ (v149 : Value).ownBlock ∧ some k_ ≠ (v155 : Value).ownBlock) v152 x11_3) ∧ Aside0 (Kd.R (Kd.int .i64) 3 w' w.heap.size (fun k_ => some k_ ≠ (v149 : Value).ownBlock ∧ some k_ ≠ (v152 : Value).ownBlock) v155 x12_3) ∧ Aside0 (Below w.heap.size w w') ∧ Aside0 (w'.heap[gb]? = some (.cells #[v152] 23 (0, 0))))
         case atStart => exact ⟨(y148), (y151), (y154), (a0), (0), eqs, eqs, H', ⟨Nat.le_refl _⟩, ⟨kr HO150.out⟩, ⟨kr HO153.out⟩, ⟨kr HO156.out⟩, ⟨bw⟩, ⟨HX.out⟩⟩
         case round =>
          clear H'
          try clear c1
          try clear c3
          try clear c3b0
          try clear c4
          try clear c4b0
          try clear c5
          try clear c5b0
          try clear c7
          try clear c8
          try clear c8b0
          try clear c11
          try clear c12
          try clear c12b0
          try clear c12b1
          try clear c13
          try clear c14
          try clear c14b0
          try clear c14b1
          try clear c15
          try clear c15b0
          try clear c15b1
          try clear hx145_0
          try clear p145
          try clear q145
          clear HX
          obtain ⟨x10_3, x11_3, x12_3, x13_3, x54_3, rfl, rfl, HA, HK3, HO_10, HO_11, HO_12, HB, HX⟩ := hrel
          cases gk with
          | zero => exact absurd HA.out (by simp [share_Split.l1])
          | succ k3 =>
           have H := HA.out
           clear HA
           simp only [share_Split.l1] at H
           by_cases c24 : x54_3 < (l1.length : Int)
           ·rw [if_pos c24] at H
            have c24b0 : decide (x54_3 < (l1.length : Int)) = true := decide_eq_true c24
            clear c24
            by_cases c25 : 0 ≤ x54_3
            ·rw [if_pos c25] at H
             have c25b0 : decide (0 ≤ x54_3) = true := decide_eq_true c25
             clear c25
             by_cases c26 : x54_3 < (l1.length : Int)
             ·rw [if_pos c26] at H
              have c26b0 : decide (x54_3 < (l1.length : Int)) = true := decide_eq_true c26
              clear c26
              replace H := Option.bind_eq_some_iff.mp H
              obtain ⟨⟨t158, t159, t160⟩, A270, H⟩ := H
              replace H : (if x54_3 < (x10_3.length : Int) then ((some (x10_3.set (x54_3 : Int).toNat t158 : List Int)).bind fun y161 => (if x54_3 < (x11_3.length : Int) then (if x54_3 < (x12_3.length : Int) then (share_Split.l1 k3 a0 l1 x6_1 y161 (x11_3.set (x54_3 : Int).toNat t159) (x12_3.set (x54_3 : Int).toNat x54_3) (wrap64 (x13_3 - (rd y161 x54_3))) (l1.length : Int) (wrap64 (x54_3 + 1))) else (none)) else (none))) else (none)) = some (r1, r2) := H
              have A27 := Aside0.mk A270
              clear A270
              by_cases c28 : x54_3 < (x10_3.length : Int)
              ·rw [if_pos c28] at H
               have c28b0 : decide (x54_3 < (x10_3.length : Int)) = true := decide_eq_true c28
               clear c28
               obtain ⟨y161, hy161⟩ : ∃ y_ : List Int, y_ = (x10_3.set (x54_3 : Int).toNat t158) := ⟨_, rfl⟩
               replace H : (if x54_3 < (x11_3.length : Int) then (if x54_3 < (x12_3.length : Int) then (share_Split.l1 k3 a0 l1 x6_1 y161 (x11_3.set (x54_3 : Int).toNat t159) (x12_3.set (x54_3 : Int).toNat x54_3) (wrap64 (x13_3 - (rd y161 x54_3))) (l1.length : Int) (wrap64 (x54_3 + 1))) else (none)) else (none)) = some (r1, r2) := by first | (rw [hy161]; with_reducible exact H) | (have H2_ := (Option.bind_some _ _).symm.trans H; rw [hy161]; with_reducible exact H2_) | (have H2_ := (Option.bind_some _ _).symm.trans H; with_reducible exact H2_) | with_reducible exact H | (rw [hy161]; exact H) | exact H
               have Ny161 := Aside0.mk hy161
               clear hy161
               by_cases c30 : x54_3 < (x11_3.length : Int)
               ·rw [if_pos c30] at H
                have c30b0 : decide (x54_3 < (x11_3.length : Int)) = true := decide_eq_true c30
                clear c30
                obtain ⟨y162, hy162⟩ : ∃ y_ : List Int, y_ = (x11_3.set (x54_3 : Int).toNat t159) := ⟨_, rfl⟩
                replace H : (if x54_3 < (x12_3.length : Int) then (share_Split.l1 k3 a0 l1 x6_1 y161 y162 (x12_3.set (x54_3 : Int).toNat x54_3) (wrap64 (x13_3 - (rd y161 x54_3))) (l1.length : Int) (wrap64 (x54_3 + 1))) else (none)) = some (r1, r2) := by first | (rw [hy162]; with_reducible exact H) | (have H2_ := (Option.bind_some _ _).symm.trans H; rw [hy162]; with_reducible exact H2_) | (have H2_ := (Option.bind_some _ _).symm.trans H; with_reducible exact H2_) | with_reducible exact H | (rw [hy162]; exact H) | exact H
                have Ny162 := Aside0.mk hy162
                clear hy162
                by_cases c32 : x54_3 < (x12_3.length : Int)
                ·rw [if_pos c32] at H
                 have c32b0 : decide (x54_3 < (x12_3.length : Int)) = true := decide_eq_true c32
                 clear c32
                 obtain ⟨y163, hy163⟩ : ∃ y_ : List Int, y_ = (x12_3.set (x54_3 : Int).toNat x54_3) := ⟨_, rfl⟩
                 replace H : (share_Split.l1 k3 a0 l1 x6_1 y161 y162 y163 (wrap64 (x13_3 - (rd y161 x54_3))) (l1.length : Int) (wrap64 (x54_3 + 1))) = some (r1, r2) := by first | (rw [hy163]; with_reducible exact H) | (have H2_ := (Option.bind_some _ _).symm.trans H; rw [hy163]; with_reducible exact H2_) | (have H2_ := (Option.bind_some _ _).symm.trans H; with_reducible exact H2_) | with_reducible exact H | (rw [hy163]; exact H) | exact H
                 have Ny163 := Aside0.mk hy163
                 clear hy163
                 have H' := Aside0.mk H
                 clear H
                 try go_wp2
                 have n0_ := Aside0.mk (Kd.R_drew HO_10.out)
                 have n1_ := Aside0.mk (Kd.R_drew HO_11.out)
                 have n2_ := Aside0.mk (Kd.R_drew HO_12.out)
                 have n3_ := Aside0.mk (below_drew1 HB.out)
                 clear HO_10
                 clear HO_11
                 clear HO_12
                 clear HB
                 have HO_10 := n0_
                 have HO_11 := n1_
                 have HO_12 := n2_
                 have HB := n3_
                 clear n0_ n1_ n2_ n3_
                 have p157 : 0 ≤ (x54_3 : Int) := oda
                 have q157 : x54_3 < (l1.length : Int) := oda
                 obtain ⟨ad157, e157, hx157_0⟩ := Kd.at_int HR1.out x54_3 p157 q157
                 have hw157_0 := hx157_0
                 cases e157
                 replace hx157_0 := (HB.out.cell (World.block_lt_of_cell? w _ hx157_0)).trans hx157_0
                 replace p157 := eq_true p157
                 replace q157 := eq_true q157
                 refine start_ (n := 19) (S := fun w' => w'.cell? (ad157.add (x54_3).toNat) = some (.int .i64 (rd l1 x54_3)) ∧ w'.cell? ⟨gb, 0, none⟩ = some v152) (ds := [18]) (bs 19 0) (by kernel_rfl) rfl rfl (⟨(((HB.out.cell (World.block_lt_of_cell? w _ hw157_0)).trans hw157_0)), (blk_cell HX.out 0).trans rfl⟩) (fun hHeld => ?_); refine with_tabW share_Split.tab17 share_Split.bits17 (fun HT_ HW_ => ?_)
                 replace HX := Aside0.mk (blk_drew HX.out)
                 generalize wr.drew = w34 at HO_10 HO_11 HO_12 HB HX hx157_0 hHeld ⊢
                 refine pu 0 58 (bs 19 1) HT_ ?_
                 refine pu 1 59 (bs 19 3) HT_ ?_
                 refine take_ (i := 2) (N := some 60) (v := ?_) (a' := ?_) (bs 19 7) rfl rfl (take_ofW HT_.out HW_.out (by kernel_rfl)) (fun _ _ _ h => h) (Or.inl ⟨by rfl, ?_⟩) hHeld ?_ ?_
                 rotate_left
                 ·rintro w' ⟨s0, s1⟩
                  go_simp
                  with_reducible rfl
                 rotate_left
                 ·simp only [Act.put, List.setIfInBounds_toArray, List.set_cons_zero, List.set_cons_succ, i64_w, i32_w]
                  rfl
                 refine pu 3 61 (bs 19 15) HT_ ?_
                 refine pu 4 62 (bs 19 31) HT_ ?_
                 refine pu 5 63 (bs 19 63) HT_ ?_
                 refine pu 6 64 (bs 19 127) HT_ ?_
                 refine pu 7 65 (bs 19 255) HT_ ?_
                 refine pu 9 67 (bs 19 767) HT_ ?_
                 refine take_ (i := 8) (N := some 66) (v := ?_) (a' := ?_) (bs 19 1023) rfl rfl (take_ofW HT_.out HW_.out (by kernel_rfl)) (fun _ _ _ h => h) (Or.inl ⟨by rfl, ?_⟩) hHeld ?_ ?_
                 rotate_left
                 ·rintro w' ⟨s0, s1⟩
                  go_simp
                  with_reducible rfl
                 rotate_left
                 ·simp only [Act.put, List.setIfInBounds_toArray, List.set_cons_zero, List.set_cons_succ, i64_w, i32_w]
                  rfl
                 refine one_ (i := 10) (N := some 68) (bs 19 2047) rfl rfl (one_of HT_.out (by kernel_rfl)) (by decide) (fun K hK => ?_)
                 refine goes_ Try.func64 (by kernel_rfl) rfl #[.int .i64 a0, .int .i64 (rd l1 x54_3), .int .i64 x6_1] (by rfl) rfl rfl (by (try simp only [List.map_toArray, List.map_cons, List.map_nil]); first | done | rfl | (simp only [List.length_drop, List.length_take]; rfl)) ?_
                 with_reducible refine (share_divide.calls k3 a0 (rd l1 x54_3) x6_1 t158 t159 t160 _ A27.out).mono ?_
                 rintro e w35 ⟨rfl, hd⟩
                 have hb : Below w34.heap.size w34 w35 := by (obtain ⟨nd, rfl⟩ := hd; exact pw_below_drewN (Below.refl _ _) _)
                 clear hd
                 replace HX := Aside0.mk (blk_below HX.out hb)
                 refine ⟨_, rfl, ?_⟩
                 have n0_ := Aside0.mk (Kd.R_below (kr HO_10.out) hb)
                 have n1_ := Aside0.mk (Kd.R_below (kr HO_11.out) hb)
                 have n2_ := Aside0.mk (Kd.R_below (kr HO_12.out) hb)
                 have n3_ := Aside0.mk (below_step (bw) hb)
                 clear HO_10
                 clear HO_11
                 clear HO_12
                 clear HB
                 have HO_10 := n0_
                 have HO_11 := n1_
                 have HO_12 := n2_
                 have HB := n3_
                 clear n0_ n1_ n2_ n3_
                 (try clear hb)
                 have p29 : 0 ≤ (x54_3 : Int) := oda
                 have q29 : (x54_3 : Int) < ((x10_3.length : Int) : Int) := oda
                 obtain ⟨go29, co29, eo29, gb29, gl29, cl29, HG29⟩ := Kd.R_form HO_10.out (by omega)
                 (first | cases eo29 | (injection eo29 with ea_ en_ ec_; (first | subst ea_ | (injection ea_ with ea_; subst ea_)); subst ec_; clear en_))
                 have GB29 := Aside0.mk gb29
                 have GG29 := Aside0.mk HG29
                 clear gb29 gl29 HG29
                 obtain ⟨hx29_0, hf29_0⟩ := Kd.R_celln 0 HO_10.out (x54_3 : Int) p29 q29
                 replace p29 := eq_true p29
                 replace q29 := eq_true q29
                 have HP36 := Kd.R_putn HO_10.out (x54_3 : Int) t158
                 rw [← Ny161.out] at HP36
                 have HQ36 := Aside0.mk HP36
                 clear HP36
                 have p31 : 0 ≤ (x54_3 : Int) := oda
                 have q31 : (x54_3 : Int) < ((x11_3.length : Int) : Int) := oda
                 obtain ⟨go31, co31, eo31, gb31, gl31, cl31, HG31⟩ := Kd.R_form HO_11.out (by omega)
                 (first | cases eo31 | (injection eo31 with ea_ en_ ec_; (first | subst ea_ | (injection ea_ with ea_; subst ea_)); subst ec_; clear en_))
                 have GB31 := Aside0.mk gb31
                 have GG31 := Aside0.mk HG31
                 clear gb31 gl31 HG31
                 obtain ⟨hx31_0, hf31_0⟩ := Kd.R_celln 0 (Kd.R_far (p := ⟨go29, (x54_3 : Int).toNat, none⟩) (Kd.R_mono HO_11.out (fun k_ hk => (⟨hk, fun e_ => hk.1 (by rw [e_]; rfl)⟩ : _ ∧ k_ ≠ go29))) (fun _ hk => hk.2) (.int .i64 t158)) (x54_3 : Int) p31 q31
                 replace p31 := eq_true p31
                 replace q31 := eq_true q31
                 have HP37 := Kd.R_putn (Kd.R_far (p := ⟨go29, (x54_3 : Int).toNat, none⟩) (Kd.R_mono HO_11.out (fun k_ hk => (⟨hk, fun e_ => hk.1 (by rw [e_]; rfl)⟩ : _ ∧ k_ ≠ go29))) (fun _ hk => hk.2) (.int .i64 t158)) (x54_3 : Int) t159
                 rw [← Ny162.out] at HP37
                 have HQ37 := Aside0.mk HP37
                 clear HP37
                 have ne29 : gb ≠ go29 := blk_ne HX.out GG29.out (by decide)
                 have ne31 : gb ≠ go31 := blk_ne HX.out GG31.out (by decide)
                 refine hK.out _ _ (⟨(((HB.out.cell (World.block_lt_of_cell? w _ hw157_0)).trans hw157_0)), (blk_cell HX.out 0).trans rfl⟩) (fun hHeld => ?_)
                 clear hK K
                 refine norm_ (a' := ?_) ?_ ?_
                 rotate_left
                 ·show Act.put _ (some 68) _ = _
                  simp only [Act.put, List.setIfInBounds_toArray, List.set_cons_zero, List.set_cons_succ, i64_w, i32_w]
                  rfl
                 refine pu 11 57 (bs 19 4095) HT_ ?_
                 refine pu 12 69 (bs 19 8191) HT_ ?_
                 refine pu 13 70 (bs 19 16383) HT_ ?_
                 refine pu 14 71 (bs 19 32767) HT_ ?_
                 refine pu 15 72 (bs 19 65535) HT_ ?_
                 refine one_ (i := 16) (N := none) (bs 19 131071) rfl rfl (one_of HT_.out (by kernel_rfl)) (by decide) (fun K hK => ?_)
                 refine skip_ (w1 := ?_) (by rfl) rfl ?_ ?_
                 rotate_left
                 ·go_simp
                  rfl
                 refine hK.out _ _ ⟨(World.cell?_setCell_far _ _ _ _ (by have h_ := World.block_lt_of_cell? w _ hw157_0; have h2_ := GB29.out; simp only [ne_eq]; omega)).trans hHeld.1, (blk_cell (blk_far HX.out (p := ⟨go29, (x54_3 : Int).toNat, none⟩) ne29 _) 0).trans rfl⟩ (fun hHeld => ?_)
                 clear hK K
                 refine pu 17 73 (bs 19 262143) HT_ ?_
                 refine last_ (i := 18) (N := none) (bs 19 524287) rfl rfl (one_of HT_.out (by kernel_rfl)) (by decide) (fun K hK => ?_)
                 refine skip_ (w1 := ?_) (by rfl) rfl ?_ ?_
                 rotate_left
                 ·go_simp
                  rfl
                 refine hK.out _ _ ?_
                 clear hK K
                 refine done_ (done_of HT_.out (by kernel_rfl)) ?_
                 have n0_ : Aside0 (Kd.R (Kd.int .i64) 3 ((w35.setCell ⟨go29, (x54_3 : Int).toNat, none⟩ (.int .i64 t158)).setCell ⟨go31, (x54_3 : Int).toNat, none⟩ (.int .i64 t159)) w.heap.size (fun k_ => some k_ ≠ (.slice (some ⟨go31, 0, none⟩) x11_3.length co31 : Value).ownBlock ∧ some k_ ≠ (v155 : Value).ownBlock) (.slice (some ⟨go29, 0, none⟩) x10_3.length co29) y161) := ⟨by (with_reducible repeat (first | apply Kd.R_alloc | apply Kd.R_drewN | apply Kd.R_drew)); exact Kd.R_mono (Kd.R_far (p := ⟨go31, (x54_3 : Int).toNat, none⟩) (Kd.R_mono HQ36.out (fun k_ hk => (⟨hk, fun e_ => hk.1 (by rw [e_]; rfl)⟩ : _ ∧ k_ ≠ go31))) (fun _ hk => hk.2) (.int .i64 t159)) (fun _ hk => ⟨hk.1.1, hk.1.2⟩)⟩
                 have n1_ : Aside0 (Kd.R (Kd.int .i64) 3 ((w35.setCell ⟨go29, (x54_3 : Int).toNat, none⟩ (.int .i64 t158)).setCell ⟨go31, (x54_3 : Int).toNat, none⟩ (.int .i64 t159)) w.heap.size (fun k_ => some k_ ≠ (.slice (some ⟨go29, 0, none⟩) x10_3.length co29 : Value).ownBlock ∧ some k_ ≠ (v155 : Value).ownBlock) (.slice (some ⟨go31, 0, none⟩) x11_3.length co31) y162) := ⟨by (with_reducible repeat (first | apply Kd.R_alloc | apply Kd.R_drewN | apply Kd.R_drew)); exact Kd.R_mono HQ37.out (fun _ hk => ⟨hk.1.1, hk.1.2⟩)⟩
                 have n2_ : Aside0 (Kd.R (Kd.int .i64) 3 ((w35.setCell ⟨go29, (x54_3 : Int).toNat, none⟩ (.int .i64 t158)).setCell ⟨go31, (x54_3 : Int).toNat, none⟩ (.int .i64 t159)) w.heap.size (fun k_ => some k_ ≠ (.slice (some ⟨go29, 0, none⟩) x10_3.length co29 : Value).ownBlock ∧ some k_ ≠ (.slice (some ⟨go31, 0, none⟩) x11_3.length co31 : Value).ownBlock) v155 x12_3) := ⟨by (with_reducible repeat (first | apply Kd.R_alloc | apply Kd.R_drewN | apply Kd.R_drew)); exact Kd.R_mono (Kd.R_far (p := ⟨go31, (x54_3 : Int).toNat, none⟩) (Kd.R_far (p := ⟨go29, (x54_3 : Int).toNat, none⟩) (Kd.R_mono (Kd.R_mono HO_12.out (fun k_ hk => (⟨hk, fun e_ => hk.1 (by rw [e_]; rfl)⟩ : _ ∧ k_ ≠ go29))) (fun k_ hk => (⟨hk, fun e_ => hk.1.2 (by rw [e_]; rfl)⟩ : _ ∧ k_ ≠ go31))) (fun _ hk => hk.1.2) (.int .i64 t158)) (fun _ hk => hk.2) (.int .i64 t159)) (fun _ hk => ⟨hk.1.1.1, hk.1.1.2⟩)⟩
                 have n3_ : Aside0 (Below w.heap.size w ((w35.setCell ⟨go29, (x54_3 : Int).toNat, none⟩ (.int .i64 t158)).setCell ⟨go31, (x54_3 : Int).toNat, none⟩ (.int .i64 t159))) := ⟨by repeat (first | (with_reducible first | exact HB.out | apply below_alloc | apply pw_below_drewN | apply below_drew1 | refine below_set ?_ GB29.out | refine below_set ?_ GB31.out) | exact HB.out)⟩
                 replace HX := Aside0.mk (blk_far (blk_far HX.out (p := ⟨go29, (x54_3 : Int).toNat, none⟩) ne29 (.int .i64 t158)) (p := ⟨go31, (x54_3 : Int).toNat, none⟩) ne31 (.int .i64 t159))
                 (try clear HO_10)
                 (try clear HO_11)
                 (try clear HO_12)
                 (try clear HB)
                 generalize ((w35.setCell ⟨go29, (x54_3 : Int).toNat, none⟩ (.int .i64 t158)).setCell ⟨go31, (x54_3 : Int).toNat, none⟩ (.int .i64 t159)) = w38 at n0_ n1_ n2_ n3_ HX ⊢
                 have HO_10 := n0_
                 have HO_11 := n1_
                 have HO_12 := n2_
                 have HB := n3_
                 clear n0_ n1_ n2_ n3_
                 have p33 : 0 ≤ (x54_3 : Int) := oda
                 have q33 : (x54_3 : Int) < ((x12_3.length : Int) : Int) := oda
                 obtain ⟨go33, co33, eo33, gb33, gl33, cl33, HG33⟩ := Kd.R_form HO_12.out (by omega)
                 (first | cases eo33 | (injection eo33 with ea_ en_ ec_; (first | subst ea_ | (injection ea_ with ea_; subst ea_)); subst ec_; clear en_))
                 have GB33 := Aside0.mk gb33
                 have GG33 := Aside0.mk HG33
                 clear gb33 gl33 HG33
                 obtain ⟨hx33_0, hf33_0⟩ := Kd.R_celln 0 HO_12.out (x54_3 : Int) p33 q33
                 replace p33 := eq_true p33
                 replace q33 := eq_true q33
                 obtain ⟨hy39_, hz39_⟩ := Kd.R_celln 0 HO_12.out (x54_3 : Int) (oda) (oda)
                 have HP39 := Kd.R_putg HO_12.out (x54_3 : Int) x54_3
                 try go_wp2_with (first | ((with_reducible refine gate_store (t := 3) (p := 77) rfl ?_); refine store_event (t := 3) (p := 77) (v := ?vo_w40) (w1 := (w38.setCell ⟨go33, (x54_3 : Int).toNat, none⟩ (.int .i64 x54_3))) ?hg ?ho ?hn ?hr ?_; (case ho => rfl); (case hg => rfl); (case hn => rfl); (case hr => first | (go_simp; done) | (go_simp; rfl)); intro w40 hw; have hg : w38.grownBy w40 (some go33) := (by rw [hw]; exact HP39.2); have ne33 : gb ≠ go33 := (blk_ne HX.out GG33.out (by decide)); replace HX := Aside0.mk (blk_grown HX.out hg (by intro e_; exact ne33 (Option.some.inj e_))); have hp_ : Kd.R (Kd.int .i64) 3 w40 w.heap.size (fun k_ => some k_ ≠ (.slice (some ⟨go29, 0, none⟩) x10_3.length co29 : Value).ownBlock ∧ some k_ ≠ (.slice (some ⟨go31, 0, none⟩) x11_3.length co31 : Value).ownBlock) (.slice (some ⟨go33, 0, none⟩) x12_3.length co33) y163 := (by rw [hw, Ny163.out]; exact HP39.1); clear HP39; have n0_ := Aside0.mk (Kd.R_after (v := (.slice (some ⟨go33, 0, none⟩) x12_3.length co33)) (v1 := (.slice (some ⟨go33, 0, none⟩) x12_3.length co33)) (ok := (fun k_ => some k_ ≠ (.slice (some ⟨go31, 0, none⟩) x11_3.length co31 : Value).ownBlock)) (kr HO_10.out) hg (.inl rfl)); have n1_ := Aside0.mk (Kd.R_after (v := (.slice (some ⟨go33, 0, none⟩) x12_3.length co33)) (v1 := (.slice (some ⟨go33, 0, none⟩) x12_3.length co33)) (ok := (fun k_ => some k_ ≠ (.slice (some ⟨go29, 0, none⟩) x10_3.length co29 : Value).ownBlock)) (kr HO_11.out) hg (.inl rfl)); have n2_ := Aside0.mk (hp_); have n3_ := Aside0.mk ((by rw [hw]; exact below_set (HB.out) GB33.out : Below w.heap.size w w40)); clear HO_10; clear HO_11; clear HO_12; clear HB; have HO_10 := n0_; have HO_11 := n1_; have HO_12 := n2_; have HB := n3_; clear n0_ n1_ n2_ n3_; clear hg hw hp_; have p164 : 0 ≤ (x54_3 : Int) := oda; have q164 : x54_3 < (y161.length : Int) := (by have h_ : (x54_3 : Int) < ((x10_3.length : Int) : Int) := oda; first | (have e_ := (Kd.R_reads' HO_10.out).1; omega) | simpa only [Ny161.out, List.length_set] using h_); have ql164 : ((x54_3 : Int) < ((x10_3.length : Int) : Int)) = True := eq_true (oda); obtain ⟨ad164, e164, hx164_0⟩ := Kd.at_int (Kd.R_reads' HO_10.out).2.2 x54_3 p164 q164; obtain rfl : (⟨go29, 0, none⟩ : Addr) = ad164 := (by injection e164); (first | simp only [add_plain] at hx164_0 | simp only [add_at] at hx164_0 | simp only [Addr.add, Nat.zero_add] at hx164_0 | skip); replace p164 := eq_true p164; replace q164 := eq_true q164))
                 go_roundg k3
                 case measure => have := HK1.out; have := HJ8.out; have := HK3.out; omega
                 case rel => exact ⟨(y161), (y162), (y163), (wrap64 (x13_3 - (rd y161 x54_3))), (wrap64 (x54_3 + 1)), eqs, eqs, H', ⟨by have := HK1.out; have := HJ8.out; have := HK3.out; omega⟩, ⟨kr HO_10.out⟩, ⟨kr HO_11.out⟩, ⟨kr HO_12.out⟩, ⟨bw⟩, ⟨HX.out⟩⟩
                ·rw [if_neg c32] at H
                 exact absurd H (by simp)
               ·rw [if_neg c30] at H
                exact absurd H (by simp)
              ·rw [if_neg c28] at H
               exact absurd H (by simp)
             ·rw [if_neg c26] at H
              exact absurd H (by simp)
            ·rw [if_neg c25] at H
             exact absurd H (by simp)
           ·rw [if_neg c24] at H
            have c24b0 : decide (x54_3 < (l1.length : Int)) = false := decide_eq_false c24
            clear c24
            replace H := Option.bind_eq_some_iff.mp H
            obtain ⟨t165, A410, H⟩ := H
            replace H : (share_Split.l2 k3 x10_3 t165 x13_3 0) = some (r1, r2) := H
            have A41 := Aside0.mk A410
            clear A410
            have H' := Aside0.mk H
            clear H
            obtain ⟨Ao42, co42, eo42⟩ := Kd.R_slice HO_12.out
            subst eo42
            obtain ⟨Ao43, co43, eo43⟩ := Kd.R_slice HO_11.out
            subst eo43
            go_wp2_with (first | (go_at_call 90; refine (Split.sorted (w := w) x12_3 x11_3 t165 Ao42 Ao43 co42 co43 gb HO_12.out HO_11.out (fun k hk => (HO_12.out.1 k hk).2) HX.out A41.out HB.out).mono ?_; rintro e w44 ⟨rfl, hy0, hg, hb⟩; have n0_ := Aside0.mk (Kd.R_grown2 HO_10.out rfl hg (fun k hk => (HO_12.out.1 k hk).1)); have n2_ := Aside0.mk hy0; have n3_ := Aside0.mk hb; clear HO_10; clear HO_11; clear HO_12; clear HB; clear HX; have HO_10 := n0_; have HO_12 := n2_; have HB := n3_; clear n0_ n2_ n3_; (try clear hb); (try clear hg); (try clear hy0)))
            go_loopg [89] k3 (fun kq v89 w' => ∃ (x10_4 : List Int) (x89_4 : Int), v89 = .int .i64 x89_4 ∧ Aside0 (share_Split.l2 kq x10_4 t165 x13_3 x89_4 = some (r1, r2)) ∧ Aside0 (kq ≤ k3) ∧ Aside0 (Kd.R (Kd.int .i64) 3 w' w.heap.size (fun k_ => some k_ ≠ ((.slice Ao42 x12_3.length co42) : Value).ownBlock) v149 x10_4) ∧ Aside0 (Kd.R (Kd.int .i64) 3 w' w.heap.size (fun k_ => some k_ ≠ (v149 : Value).ownBlock) (.slice Ao42 x12_3.length co42) t165) ∧ Aside0 (Below w.heap.size w w'))
            case atStart => exact ⟨(x10_3), (0), eqs, H', ⟨Nat.le_refl _⟩, ⟨by (with_reducible repeat (first | apply Kd.R_alloc | apply Kd.R_drewN | apply Kd.R_drew)); exact Kd.R_mono HO_10.out (fun _ hk => hk.2)⟩, ⟨by (with_reducible repeat (first | apply Kd.R_alloc | apply Kd.R_drewN | apply Kd.R_drew)); exact Kd.R_mono HO_12.out (fun _ hk => hk.1)⟩, ⟨bw⟩⟩
            case round =>
             clear H'
             try clear c1
             try clear c3
             try clear c3b0
             try clear c4
             try clear c4b0
             try clear c5
             try clear c5b0
             try clear c7
             try clear c8
             try clear c8b0
             try clear c11
             try clear c12
             try clear c12b0
             try clear c12b1
             try clear c13
             try clear c14
             try clear c14b0
             try clear c14b1
             try clear c15
             try clear c15b0
             try clear c15b1
             try clear c24
             try clear c24b0
             try clear c25
             try clear c25b0
             try clear c26
             try clear c26b0
             try clear c28
             try clear c28b0
             try clear p29
             try clear q29
             try clear c30
             try clear c30b0
             try clear p31
             try clear q31
             try clear c32
             try clear c32b0
             try clear p33
             try clear q33
             try clear hx145_0
             try clear hx157_0
             try clear hx164_0
             try clear hx29_0
             try clear hx31_0
             try clear hx33_0
             try clear p145
             try clear p157
             try clear p164
             try clear p29
             try clear p31
             try clear p33
             try clear q145
             try clear q157
             try clear q164
             try clear q29
             try clear q31
             try clear q33
             obtain ⟨x10_4, x89_4, rfl, HA, HK4, HO_10, HO_12, HB⟩ := hrel
             have hl12_4 := (Kd.R_reads' HO_12.out).1
             rw [hl12_4] at HO_12
             (try simp only [hl12_4])
             (try simp only [hl12_4] at HO_10)
             cases gk with
             | zero => exact absurd HA.out (by simp [share_Split.l2])
             | succ k4 =>
              have H := HA.out
              clear HA
              simp only [share_Split.l2] at H
              by_cases c45 : x89_4 < x13_3
              ·rw [if_pos c45] at H
               have c45b0 : decide (x89_4 < x13_3) = true := decide_eq_true c45
               clear c45
               by_cases c46 : 0 ≤ x89_4
               ·rw [if_pos c46] at H
                have c46b0 : decide (0 ≤ x89_4) = true := decide_eq_true c46
                clear c46
                by_cases c47 : x89_4 < (t165.length : Int)
                ·rw [if_pos c47] at H
                 have c47b0 : decide (x89_4 < (t165.length : Int)) = true := decide_eq_true c47
                 clear c47
                 (try simp only [hl12_4] at c47b0)
                 by_cases c48 : 0 ≤ (rd t165 x89_4)
                 ·rw [if_pos c48] at H
                  have c48b0 : decide (0 ≤ (rd t165 x89_4)) = true := decide_eq_true c48
                  clear c48
                  by_cases c49 : (rd t165 x89_4) < (x10_4.length : Int)
                  ·rw [if_pos c49] at H
                   have c49b0 : decide ((rd t165 x89_4) < (x10_4.length : Int)) = true := decide_eq_true c49
                   clear c49
                   obtain ⟨y168, hy168⟩ : ∃ y_ : List Int, y_ = (x10_4.set ((rd t165 x89_4) : Int).toNat (wrap64 ((rd x10_4 (rd t165 x89_4)) + 1))) := ⟨_, rfl⟩
                   replace H : (share_Split.l2 k4 y168 t165 x13_3 (wrap64 (x89_4 + 1))) = some (r1, r2) := by first | (rw [hy168]; with_reducible exact H) | (have H2_ := (Option.bind_some _ _).symm.trans H; rw [hy168]; with_reducible exact H2_) | (have H2_ := (Option.bind_some _ _).symm.trans H; with_reducible exact H2_) | with_reducible exact H | (rw [hy168]; exact H) | exact H
                   have Ny168 := Aside0.mk hy168
                   clear hy168
                   have H' := Aside0.mk H
                   clear H
                   have p166 : 0 ≤ (x89_4 : Int) := oda
                   have q166 : x89_4 < (t165.length : Int) := oda
                   obtain ⟨ad166, e166, hx166_0⟩ := Kd.at_int (Kd.R_reads' HO_12.out).2.2 x89_4 p166 q166
                   cases e166
                   replace p166 := eq_true p166
                   replace q166 := eq_true q166
                   obtain ⟨Ao51, co51, eo51⟩ := Kd.R_slice HO_10.out
                   subst eo51
                   have p167 : 0 ≤ ((rd t165 x89_4) : Int) := oda
                   have q167 : (rd t165 x89_4) < (x10_4.length : Int) := oda
                   obtain ⟨ad167, e167, hx167_0⟩ := Kd.at_int (Kd.R_reads' HO_10.out).2.2 (rd t165 x89_4) p167 q167
                   cases e167
                   replace p167 := eq_true p167
                   replace q167 := eq_true q167
                   have p50 : 0 ≤ ((rd t165 x89_4) : Int) := oda
                   have q50 : ((rd t165 x89_4) : Int) < ((x10_4.length : Int) : Int) := oda
                   obtain ⟨go50, co50, eo50, gb50, gl50, cl50, HG50⟩ := Kd.R_form HO_10.out (by omega)
                   (first | cases eo50 | (injection eo50 with ea_ en_ ec_; (first | subst ea_ | (injection ea_ with ea_; subst ea_)); subst ec_; clear en_))
                   have GB50 := Aside0.mk gb50
                   have GG50 := Aside0.mk HG50
                   clear gb50 gl50 HG50
                   (first | simp only [add_plain] at hx167_0 | skip)
                   obtain ⟨hx50_0, hf50_0⟩ := Kd.R_celln 0 HO_10.out ((rd t165 x89_4) : Int) p50 q50
                   replace p50 := eq_true p50
                   replace q50 := eq_true q50
                   have HP52 := Kd.R_putg HO_10.out ((rd t165 x89_4) : Int) (wrap64 ((rd x10_4 (rd t165 x89_4)) + 1))
                   go_wp2_with (first | ((with_reducible refine gate_store (t := 3) (p := 100) rfl ?_); refine store_event (t := 3) (p := 100) (v := ?vo_w53) (w1 := (wr.setCell ⟨go50, ((rd t165 x89_4) : Int).toNat, none⟩ (.int .i64 (wrap64 ((rd x10_4 (rd t165 x89_4)) + 1))))) ?hg ?ho ?hn ?hr ?_; (case ho => rfl); (case hg => rfl); (case hn => rfl); (case hr => first | (go_simp; done) | (go_simp; rfl)); intro w53 hw; have hg : wr.grownBy w53 (some go50) := (by rw [hw]; exact HP52.2); have hp_ : Kd.R (Kd.int .i64) 3 w53 w.heap.size (fun k_ => some k_ ≠ (.slice (some ad166) t165.length co42 : Value).ownBlock) (.slice (some ⟨go50, 0, none⟩) x10_4.length co51) y168 := (by rw [hw, Ny168.out]; exact HP52.1); clear HP52; have n0_ := Aside0.mk (hp_); have n1_ := Aside0.mk (Kd.R_after (v := (.slice (some ⟨go50, 0, none⟩) x10_4.length co51)) (v1 := (.slice (some ⟨go50, 0, none⟩) x10_4.length co51)) (ok := (fun _ => True)) (by (with_reducible repeat (first | apply Kd.R_alloc | apply Kd.R_drewN | apply Kd.R_drew)); exact Kd.R_mono HO_12.out (fun _ hk => ⟨trivial, hk⟩)) hg (.inl rfl)); have n2_ := Aside0.mk ((by rw [hw]; exact below_set (HB.out) GB50.out : Below w.heap.size w w53)); clear HO_10; clear HO_12; clear HB; have HO_10 := n0_; have HO_12 := n1_; have HB := n2_; clear n0_ n1_ n2_; clear hg hw hp_))
                   (try simp only [← hl12_4])
                   go_roundg k4
                   case measure => have := HK1.out; have := HJ8.out; have := HK3.out; have := HK4.out; omega
                   case rel => exact ⟨(y168), (wrap64 (x89_4 + 1)), eqs, H', ⟨by have := HK1.out; have := HJ8.out; have := HK3.out; have := HK4.out; omega⟩, ⟨by (try simp only [hl12_4]); (with_reducible repeat (first | apply Kd.R_alloc | apply Kd.R_drewN | apply Kd.R_drew)); exact HO_10.out⟩, ⟨by (try simp only [hl12_4]); (with_reducible repeat (first | apply Kd.R_alloc | apply Kd.R_drewN | apply Kd.R_drew)); exact Kd.R_mono HO_12.out (fun _ hk => hk.2)⟩, ⟨bw⟩⟩
                  ·rw [if_neg c49] at H
                   exact absurd H (by simp)
                 ·rw [if_neg c48] at H
                  exact absurd H (by simp)
                ·rw [if_neg c47] at H
                 exact absurd H (by simp)
               ·rw [if_neg c46] at H
                exact absurd H (by simp)
              ·rw [if_neg c45] at H
               have c45b0 : decide (x89_4 < x13_3) = false := decide_eq_false c45
               clear c45
               simp only [Option.some.injEq, Prod.mk.injEq] at H
               obtain ⟨rfl, rfl⟩ := H
               go_wp2
               go_ret2
               exact ⟨_, by first | rfl | (simp [errW_none, errW_some] <;> rfl) | (simp [*, errW_none, errW_some] <;> rfl), by (with_reducible repeat (first | apply Kd.R_alloc | apply Kd.R_drewN | apply Kd.R_drew)); exact Kd.R_mono HO_10.out (fun _ hk => trivial), bw⟩
        ·rw [if_neg c15] at H
         exact absurd H (by simp)
       ·rw [if_neg c14] at H
        exact absurd H (by simp)


end Go.Proofs.Ytcicjbgfahdejaa.P
