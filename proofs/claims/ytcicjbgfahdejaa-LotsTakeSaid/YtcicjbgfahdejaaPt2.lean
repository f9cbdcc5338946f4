-- Written by a program of this session (wip/tools), out of the translation. Not trusted: Lean checks it.
import Derived.Test.YtcicjbgfahdejaaPx1
import Derived.Test.YtcicjbgfahdejaaPD
import Derived.Test.YtcicjbgfahdejaaPc1
import Derived.Test.YtcicjbgfahdejaaPt1
import Derived.Test.YtcicjbgfahdejaaPa1
namespace Go.Proofs.Ytcicjbgfahdejaa.P
open Go.RowKit Go.Proofs.YtcicjbgfahdejaaW.PrintWords Go.Proofs.YtcicjbgfahdejaaW.PrintLast Go.Proofs.YtcicjbgfahdejaaW.PrintMore
attribute [local go_sem] max2_int min2_int max_two min_two max_three min_three max_four min_four   -- for this text's walks alone
set_option linter.unusedVariables false
set_option linter.unusedSimpArgs false

/-! ### worldmintref14_Take -/
def worldmintref14_Take.T11 : Bool × List (List Nat × List Nat) := (true, [([], []), ([], []), ([], []), ([1, 2], [1, 2]), ([3], [3]), ([4], [4]), ([], []), ([], []), ([6, 7], [6, 7]), ([8], [8]), ([9], [9]), ([], []), ([], []), ([11, 12], [11, 12]), ([13], [13]), ([5, 10, 14], [5, 10, 14]), ([0, 15], [0, 15]), ([16, 16, 0, 1, 2, 3, 4, 5, 6, 7, 8, 9, 10, 11, 12, 13, 14, 15, 16], [0, 16])])
def worldmintref14_Take.B11 : List Nat := [0, 0, 0, 6, 14, 30, 0, 0, 192, 448, 960, 0, 0, 6144, 14336, 32766, 65535, 131071]
theorem worldmintref14_Take.tab11 : rtab .any (opsOf Try.f17 11) = worldmintref14_Take.T11 := by kernel_rfl
theorem worldmintref14_Take.bits11 : waitsOk worldmintref14_Take.T11.2 worldmintref14_Take.B11 = true := by kernel_rfl
def worldmintref14_Take.T12 : Bool × List (List Nat × List Nat) := (true, [([], []), ([], []), ([], []), ([1, 2], [1, 2]), ([3], [3]), ([4], [4]), ([], []), ([], []), ([6, 7], [6, 7]), ([8], [8]), ([9], [9]), ([], []), ([], []), ([11, 12], [11, 12]), ([13], [13]), ([10, 14], [10, 14]), ([], []), ([], []), ([16, 17], [16, 17]), ([18], [18]), ([19], [19]), ([], []), ([], []), ([21, 22], [21, 22]), ([23], [23]), ([20, 24], [20, 24]), ([5, 15, 25], [5, 15, 25]), ([0, 26], [0, 26]), ([27, 27, 0, 1, 2, 3, 4, 5, 6, 7, 8, 9, 10, 11, 12, 13, 14, 15, 16, 17, 18, 19, 20, 21, 22, 23, 24, 25, 26, 27], [0, 27])])
def worldmintref14_Take.B12 : List Nat := [0, 0, 0, 6, 14, 30, 0, 0, 192, 448, 960, 0, 0, 6144, 14336, 32704, 0, 0, 196608, 458752, 983040, 0, 0, 6291456, 14680064, 33488896, 67108862, 134217727, 268435455]
theorem worldmintref14_Take.tab12 : rtab .any (opsOf Try.f17 12) = worldmintref14_Take.T12 := by kernel_rfl
theorem worldmintref14_Take.bits12 : waitsOk worldmintref14_Take.T12.2 worldmintref14_Take.B12 = true := by kernel_rfl
set_option maxHeartbeats 8000000 in
set_option maxRecDepth 100000 in
theorem worldmintref14_Take.calls (k : Nat) (A0 : Option Addr) (c0 : Nat) (l0 : List (S39)) (a1 : Int) (a2 : Bool) (r1 : List (S39)) (r2 : List (S39)) (r3 : Int) (w : World) (hr0 : Kd.C k39 w A0 l0.length l0) (hc0 : l0.length ≤ c0) (h : worldmintref14_Take.f k l0 a1 a2 = some (r1, r2, r3)) :
  Calls Try.prog 17 #[.slice A0 l0.length c0, .int .i64 a1, .bool a2] w fun e w' => ∃ v0_ v1_ : Value, e = .returned (.tuple #[v0_, v1_, .int .i64 r3]) ∧ Kd.R k39 39 w' w.heap.size (fun k_ => some k_ ≠ (v1_ : Value).ownBlock) v0_ r1 ∧ Kd.R k39 39 w' w.heap.size (fun k_ => some k_ ≠ (v0_ : Value).ownBlock) v1_ r2 ∧ Below w.heap.size w w' := by
 have hu39 := Try.underlying39
 have HR0 := Aside0.mk hr0
 have HC0 := Aside0.mk hc0
 clear hr0 hc0
 have HB := Aside0.mk (Below.refl w.heap.size w)
 have H : ((worldmintref14_Valid.f k l0).bind fun t229 => (if t229 = true then (if a1 < 0 then (worldmintref14_Take.j0 k l0 a1 a2 true) else (worldmintref14_Take.j0 k l0 a1 a2 (decide (a1 > 1099511627776)))) else (worldmintref14_Take.j0 k l0 a1 a2 true))) = some (r1, r2, r3) := h
 clear h
 replace H := Option.bind_eq_some_iff.mp H
 obtain ⟨t229, A40, H⟩ := H
 replace H : (if t229 = true then (if a1 < 0 then (worldmintref14_Take.j0 k l0 a1 a2 true) else (worldmintref14_Take.j0 k l0 a1 a2 (decide (a1 > 1099511627776)))) else (worldmintref14_Take.j0 k l0 a1 a2 true)) = some (r1, r2, r3) := H
 have A4 := Aside0.mk A40
 clear A40
 have HC5 := Aside0.mk H
 clear H
 go_enter Try.func17, Try.ntmps17
 go_upto_region 2 with (first | ((with_reducible refine gate_callee (f := 23) rfl ?_); refine goesL_ (some 15) rfl rfl Try.func23 (by kernel_rfl) rfl #[.slice A0 l0.length c0] rfl (by (try simp only [List.map_toArray, List.map_cons, List.map_nil]); first | done | rfl | (simp only [List.length_drop, List.length_take]; rfl)) ?_; (with_reducible refine (worldmintref14_Valid.calls k _ _ l0 t229 _ ?side1 ?side2 A4.out).mono ?_); (case side1 => repeat (first | exact HR0.out | (with_reducible refine Kd.C_alloc ?_ _) | (with_reducible refine Kd.C_drewN ?_ _) | (with_reducible refine Kd.C_drew ?_))); (case side2 => exact HC0.out); rintro e w6 ⟨rfl, hb⟩; refine ⟨_, rfl, ?_⟩; have n0_ := Aside0.mk (below_step (bw) hb); clear HB; have HB := n0_; clear n0_; (try clear hb); (try clear hb2); (try clear hk); (try clear hi)))
 (try simp only [Act.put, List.setIfInBounds_toArray, List.set_cons_zero, List.set_cons_succ])
 go_cut [25] (fun v25 wc => ∃ (kq : Nat) (x25_4 : Bool), v25 = .bool x25_4 ∧ Aside0 (worldmintref14_Take.j0 kq l0 a1 a2 x25_4 = some (r1, r2, r3)) ∧ Aside0 (kq ≤ k) ∧ Aside0 (Below w.heap.size w wc))
 case first =>
  have H := HC5.out
  clear HC5
  by_cases c7 : t229 = true
  ·subst c7
   have H1 : (if a1 < 0 then (worldmintref14_Take.j0 k l0 a1 a2 true) else (worldmintref14_Take.j0 k l0 a1 a2 (decide (a1 > 1099511627776)))) = some (r1, r2, r3) := by rw [if_pos rfl] at H; exact H
   clear H
   have H := H1
   clear H1
   by_cases c8 : a1 < 0
   ·rw [if_pos c8] at H
    have c8b0 : decide (a1 < 0) = true := decide_eq_true c8
    clear c8
    (first | rw [c8b0] | (simp only [i64_w, i32_w]; rw [c8b0]) | skip)
    have H' := Aside0.mk H
    clear H
    go_wp2
    go_meet
    case rel => exact ⟨_, (true), eqs, H', ⟨by first | omega | exact Nat.le_refl _⟩, ⟨bw⟩⟩
   ·rw [if_neg c8] at H
    have c8b0 : decide (a1 < 0) = false := decide_eq_false c8
    clear c8
    (first | rw [c8b0] | (simp only [i64_w, i32_w]; rw [c8b0]) | skip)
    have H' := Aside0.mk H
    clear H
    go_wp2
    go_meet
    case rel => exact ⟨_, (decide (a1 > 1099511627776)), eqs, H', ⟨by first | omega | exact Nat.le_refl _⟩, ⟨bw⟩⟩
  ·replace c7 := Bool.eq_false_iff.mpr c7
   subst c7
   have H1 : (worldmintref14_Take.j0 k l0 a1 a2 true) = some (r1, r2, r3) := by rw [if_neg (show ¬ (false = true) by decide)] at H; exact H
   clear H
   have H := H1
   clear H1
   have H' := Aside0.mk H
   clear H
   go_wp2
   go_meet
   case rel => exact ⟨_, (true), eqs, H', ⟨by first | omega | exact Nat.le_refl _⟩, ⟨bw⟩⟩
 case rest =>
  clear HC5
  try clear c7
  try clear c8
  try clear c8b0
  obtain ⟨kq, x25_4, rfl, HA, HJ4, HB⟩ := hcut
  cases kq with
  | zero => exact absurd HA.out (by simp [worldmintref14_Take.j0])
  | succ kj4 =>
   have H := HA.out
   clear HA
   simp only [worldmintref14_Take.j0] at H
   by_cases c9 : x25_4 = true
   ·subst c9
    have H1 : (some (([] : List (S39)), ([] : List (S39)), 1)) = some (r1, r2, r3) := by rw [if_pos rfl] at H; exact H
    clear H
    have H := H1
    clear H1
    simp only [Option.some.injEq, Prod.mk.injEq] at H
    obtain ⟨rfl, rfl, rfl⟩ := H
    go_wp2
    go_ret3
    exact ⟨_, _, by first | rfl | (simp [errW_none, errW_some] <;> rfl) | (simp [*, errW_none, errW_some] <;> rfl), by first | exact Kd.R_nil _ _ _ _ _ | exact Kd.N_nil _ _ _ _ _ | exact Kd.V_nil _ _ _ _ _ | exact Kd.Q_nil _ _ _ _ _ | exact Kd.S_nil _ _ _ _ _, by first | exact Kd.R_nil _ _ _ _ _ | exact Kd.N_nil _ _ _ _ _ | exact Kd.V_nil _ _ _ _ _ | exact Kd.Q_nil _ _ _ _ _ | exact Kd.S_nil _ _ _ _ _, bw⟩
   ·replace c9 := Bool.eq_false_iff.mpr c9
    subst c9
    have H1 : ((worldmintref14_Total.f kj4 l0).bind fun t230 => (if t230 < a1 then (some (([] : List (S39)), ([] : List (S39)), 10)) else ((worldmintref14_Counts.f kj4 l0 a1 a2).bind fun t231 => (worldmintref14_Take.l0 kj4 l0 t231 ([] : List (S39)) ([] : List (S39)) 0)))) = some (r1, r2, r3) := by rw [if_neg (show ¬ (false = true) by decide)] at H; exact H
    clear H
    have H := H1
    clear H1
    replace H := Option.bind_eq_some_iff.mp H
    obtain ⟨t230, A100, H⟩ := H
    replace H : (if t230 < a1 then (some (([] : List (S39)), ([] : List (S39)), 10)) else ((worldmintref14_Counts.f kj4 l0 a1 a2).bind fun t231 => (worldmintref14_Take.l0 kj4 l0 t231 ([] : List (S39)) ([] : List (S39)) 0))) = some (r1, r2, r3) := H
    have A10 := Aside0.mk A100
    clear A100
    by_cases c11 : t230 < a1
    ·rw [if_pos c11] at H
     have c11b0 : decide (t230 < a1) = true := decide_eq_true c11
     clear c11
     simp only [Option.some.injEq, Prod.mk.injEq] at H
     obtain ⟨rfl, rfl, rfl⟩ := H
     go_wp2_with (first | ((with_reducible refine gate_callee (f := 15) rfl ?_); refine goesL_ (some 27) rfl rfl Try.func15 (by kernel_rfl) rfl #[.slice A0 l0.length c0] rfl (by (try simp only [List.map_toArray, List.map_cons, List.map_nil]); first | done | rfl | (simp only [List.length_drop, List.length_take]; rfl)) ?_; (with_reducible refine (worldmintref14_Total.calls kj4 _ _ l0 t230 _ ?side1 ?side2 A10.out).mono ?_); (case side1 => repeat (first | exact (Kd.C_below HR0.out HB.out) | (with_reducible refine Kd.C_alloc ?_ _) | (with_reducible refine Kd.C_drewN ?_ _) | (with_reducible refine Kd.C_drew ?_))); (case side2 => exact HC0.out); rintro e w12 ⟨rfl, hb⟩; refine ⟨_, rfl, ?_⟩; have n0_ := Aside0.mk (below_step (bw) hb); clear HB; have HB := n0_; clear n0_; (try clear hb); (try clear hb2); (try clear hk); (try clear hi)))
     go_ret3
     exact ⟨_, _, by first | rfl | (simp [errW_none, errW_some] <;> rfl) | (simp [*, errW_none, errW_some] <;> rfl), by first | exact Kd.R_nil _ _ _ _ _ | exact Kd.N_nil _ _ _ _ _ | exact Kd.V_nil _ _ _ _ _ | exact Kd.Q_nil _ _ _ _ _ | exact Kd.S_nil _ _ _ _ _, by first | exact Kd.R_nil _ _ _ _ _ | exact Kd.N_nil _ _ _ _ _ | exact Kd.V_nil _ _ _ _ _ | exact Kd.Q_nil _ _ _ _ _ | exact Kd.S_nil _ _ _ _ _, bw⟩
    ·rw [if_neg c11] at H
     have c11b0 : decide (t230 < a1) = false := decide_eq_false c11
     clear c11
     replace H := Option.bind_eq_some_iff.mp H
     obtain ⟨t231, A130, H⟩ := H
     replace H : (worldmintref14_Take.l0 kj4 l0 t231 ([] : List (S39)) ([] : List (S39)) 0) = some (r1, r2, r3) := H
     have A13 := Aside0.mk A130
     clear A130
     have H' := Aside0.mk H
     clear H
     go_wp2_with (first | ((with_reducible refine gate_callee (f := 15) rfl ?_); refine goesL_ (some 27) rfl rfl Try.func15 (by kernel_rfl) rfl #[.slice A0 l0.length c0] rfl (by (try simp only [List.map_toArray, List.map_cons, List.map_nil]); first | done | rfl | (simp only [List.length_drop, List.length_take]; rfl)) ?_; (with_reducible refine (worldmintref14_Total.calls kj4 _ _ l0 t230 _ ?side1 ?side2 A10.out).mono ?_); (case side1 => repeat (first | exact (Kd.C_below HR0.out HB.out) | (with_reducible refine Kd.C_alloc ?_ _) | (with_reducible refine Kd.C_drewN ?_ _) | (with_reducible refine Kd.C_drew ?_))); (case side2 => exact HC0.out); rintro e w14 ⟨rfl, hb⟩; refine ⟨_, rfl, ?_⟩; have n0_ := Aside0.mk (below_step (bw) hb); clear HB; have HB := n0_; clear n0_; (try clear hb); (try clear hb2); (try clear hk); (try clear hi)) | ((with_reducible refine gate_callee (f := 52) rfl ?_); refine goesL_ (some 33) rfl rfl Try.func52 (by kernel_rfl) rfl #[.slice A0 l0.length c0, .int .i64 a1, .bool a2] rfl (by (try simp only [List.map_toArray, List.map_cons, List.map_nil]); first | done | rfl | (simp only [List.length_drop, List.length_take]; rfl)) ?_; (with_reducible refine (worldmintref14_Counts.calls kj4 _ _ l0 a1 a2 t231 _ ?side1 ?side2 A13.out).mono ?_); (case side1 => repeat (first | exact (Kd.C_below HR0.out HB.out) | (with_reducible refine Kd.C_alloc ?_ _) | (with_reducible refine Kd.C_drewN ?_ _) | (with_reducible refine Kd.C_drew ?_))); (case side2 => exact HC0.out); rintro e w15 ⟨v232, rfl, ho0, hb⟩; refine ⟨_, rfl, ?_⟩; have n0_ := Aside0.mk (Kd.R_lower ho0 (below_size (bw))); have n1_ := Aside0.mk (below_step (bw) hb); clear HB; have HO233 := n0_; have HB := n1_; clear n0_ n1_; (try clear hb); (try clear hb2); (try clear hk); (try clear hi); (try clear ho0)))
     go_loopg [11, 12, 13] kj4 (fun kq v11 v12 v13 w' => ∃ (x11_2 : List (S39)) (x12_2 : List (S39)) (x13_2 : Int), v13 = .int .i64 x13_2 ∧ Aside0 (worldmintref14_Take.l0 kq l0 t231 x11_2 x12_2 x13_2 = some (r1, r2, r3)) ∧ Aside0 (kq ≤ kj4) ∧ Aside0 (Kd.R (Kd.int .i64) 3 w' w.heap.size (fun _ => True) v232 t231) ∧ Aside0 (Kd.R k39 39 w' w.heap.size (fun k_ => some k_ ≠ (v12 : Value).ownBlock) v11 x11_2) ∧ Aside0 (Kd.R k39 39 w' w.heap.size (fun k_ => some k_ ≠ (v11 : Value).ownBlock) v12 x12_2) ∧ Aside0 (Below w.heap.size w w'))
     case atStart => exact ⟨(([] : List (S39))), (([] : List (S39))), (0), eqs, H', ⟨Nat.le_refl _⟩, ⟨kr HO233.out⟩, ⟨by first | exact Kd.R_nil _ _ _ _ _ | exact Kd.N_nil _ _ _ _ _ | exact Kd.V_nil _ _ _ _ _ | exact Kd.Q_nil _ _ _ _ _ | exact Kd.S_nil _ _ _ _ _⟩, ⟨by first | exact Kd.R_nil _ _ _ _ _ | exact Kd.N_nil _ _ _ _ _ | exact Kd.V_nil _ _ _ _ _ | exact Kd.Q_nil _ _ _ _ _ | exact Kd.S_nil _ _ _ _ _⟩, ⟨bw⟩⟩
     case round =>
      clear H'
      try clear c7
      try clear c8
      try clear c8b0
      try clear c9
      try clear c11
      try clear c11b0
      obtain ⟨x11_2, x12_2, x13_2, rfl, HA, HK2, HO_10, HO_11, HO_12, HB⟩ := hrel
      cases gk with
      | zero => exact absurd HA.out (by simp [worldmintref14_Take.l0])
      | succ k2 =>
       have H := HA.out
       clear HA
       simp only [worldmintref14_Take.l0] at H
       by_cases c16 : x13_2 < (l0.length : Int)
       ·rw [if_pos c16] at H
        have c16b0 : decide (x13_2 < (l0.length : Int)) = true := decide_eq_true c16
        clear c16
        by_cases c17 : 0 ≤ x13_2
        ·rw [if_pos c17] at H
         have c17b0 : decide (0 ≤ x13_2) = true := decide_eq_true c17
         clear c17
         by_cases c18 : x13_2 < (t231.length : Int)
         ·rw [if_pos c18] at H
          have c18b0 : decide (x13_2 < (t231.length : Int)) = true := decide_eq_true c18
          clear c18
          replace H := Option.bind_eq_some_iff.mp H
          obtain ⟨t237, A190, H⟩ := H
          replace H : ((worldmintref14_Add.f k2 x12_2 ((rd_T39 l0 x13_2).f0) (wrap64 (((rd_T39 l0 x13_2).f1) + (rd t231 x13_2))) (wrap64 (((rd_T39 l0 x13_2).f2) - (rd t231 x13_2)))).bind fun t245 => (worldmintref14_Take.l0 k2 l0 t231 t237 t245 (wrap64 (x13_2 + 1)))) = some (r1, r2, r3) := H
          have A19 := Aside0.mk A190
          clear A190
          replace H := Option.bind_eq_some_iff.mp H
          obtain ⟨t245, A200, H⟩ := H
          replace H : (worldmintref14_Take.l0 k2 l0 t231 t237 t245 (wrap64 (x13_2 + 1))) = some (r1, r2, r3) := H
          have A20 := Aside0.mk A200
          clear A200
          have H' := Aside0.mk H
          clear H
          try go_wp2
          have n0_ := Aside0.mk (Kd.R_drew HO_10.out)
          have n1_ := Aside0.mk (Kd.R_drew HO_11.out)
          have n2_ := Aside0.mk (Kd.R_drew HO_12.out)
          have n3_ := Aside0.mk (below_drew1 HB.out)
          clear HO_10
          clear HO_11
          clear HO_12
          clear HB
          have HO_10 := n0_
          have HO_11 := n1_
          have HO_12 := n2_
          have HB := n3_
          clear n0_ n1_ n2_ n3_
          have p234 : 0 ≤ (x13_2 : Int) := oda
          have q234 : x13_2 < (l0.length : Int) := oda
          obtain ⟨ad234, e234, hx234_0, hx234_1, hx234_2⟩ := at_T39 HR0.out x13_2 p234 q234
          have hw234_2 := hx234_2
          have hw234_1 := hx234_1
          have hw234_0 := hx234_0
          cases e234
          replace hx234_0 := (HB.out.cell (World.block_lt_of_cell? w _ hx234_0)).trans hx234_0
          replace hx234_1 := (HB.out.cell (World.block_lt_of_cell? w _ hx234_1)).trans hx234_1
          replace hx234_2 := (HB.out.cell (World.block_lt_of_cell? w _ hx234_2)).trans hx234_2
          replace p234 := eq_true p234
          replace q234 := eq_true q234
          have p235 : 0 ≤ (x13_2 : Int) := oda
          have q235 : x13_2 < (l0.length : Int) := oda
          obtain ⟨ad235, e235, hx235_0, hx235_1, hx235_2⟩ := at_T39 HR0.out x13_2 p235 q235
          have hw235_2 := hx235_2
          have hw235_1 := hx235_1
          have hw235_0 := hx235_0
          obtain rfl : ad234 = ad235 := (by injection e235)
          replace hx235_0 := (HB.out.cell (World.block_lt_of_cell? w _ hx235_0)).trans hx235_0
          replace hx235_1 := (HB.out.cell (World.block_lt_of_cell? w _ hx235_1)).trans hx235_1
          replace hx235_2 := (HB.out.cell (World.block_lt_of_cell? w _ hx235_2)).trans hx235_2
          replace p235 := eq_true p235
          replace q235 := eq_true q235
          obtain ⟨Ao22, co22, eo22⟩ := Kd.R_slice HO_10.out
          (first | subst eo22 | (injection eo22 with f1_ f2_ f3_; have f4_ := f1_.symm; have f5_ := f3_.symm; clear f1_ f2_ f3_; subst f4_; subst f5_))
          have p236 : 0 ≤ (x13_2 : Int) := oda
          have q236 : x13_2 < (t231.length : Int) := oda
          obtain ⟨ad236, e236, hx236_0⟩ := Kd.at_int (Kd.R_reads' HO_10.out).2.2 x13_2 p236 q236
          cases e236
          replace p236 := eq_true p236
          replace q236 := eq_true q236
          obtain ⟨Ao23, co23, eo23⟩ := Kd.R_slice HO_11.out
          (first | subst eo23 | (injection eo23 with f1_ f2_ f3_; have f4_ := f1_.symm; have f5_ := f3_.symm; clear f1_ f2_ f3_; subst f4_; subst f5_))
          refine start_ (n := 18) (S := fun w' => w'.cell? (ad234.add ((x13_2).toNat * 3)) = some (.int .i64 ((rd_T39 l0 x13_2).f0)) ∧ w'.cell? ⟨(ad234.add ((x13_2).toNat * 3)).block, (ad234.add ((x13_2).toNat * 3)).off + 1, none⟩ = some (.int .i64 ((rd_T39 l0 x13_2).f1)) ∧ w'.cell? ⟨(ad234.add ((x13_2).toNat * 3)).block, (ad234.add ((x13_2).toNat * 3)).off + 2, none⟩ = some (.int .i64 ((rd_T39 l0 x13_2).f2)) ∧ w'.cell? (ad234.add ((x13_2).toNat * 3)) = some (.int .i64 ((rd_T39 l0 x13_2).f0)) ∧ w'.cell? ⟨(ad234.add ((x13_2).toNat * 3)).block, (ad234.add ((x13_2).toNat * 3)).off + 1, none⟩ = some (.int .i64 ((rd_T39 l0 x13_2).f1)) ∧ w'.cell? ⟨(ad234.add ((x13_2).toNat * 3)).block, (ad234.add ((x13_2).toNat * 3)).off + 2, none⟩ = some (.int .i64 ((rd_T39 l0 x13_2).f2)) ∧ w'.cell? (ad236.add (x13_2).toNat) = some (.int .i64 (rd t231 x13_2))) (ds := []) (bs 18 0) (by kernel_rfl) rfl rfl ⟨((HB.out.cell (World.block_lt_of_cell? w _ hw234_0)).trans hw234_0), ((HB.out.cell (World.block_lt_of_cell? w _ hw234_1)).trans hw234_1), ((HB.out.cell (World.block_lt_of_cell? w _ hw234_2)).trans hw234_2), ((HB.out.cell (World.block_lt_of_cell? w _ hw235_0)).trans hw235_0), ((HB.out.cell (World.block_lt_of_cell? w _ hw235_1)).trans hw235_1), ((HB.out.cell (World.block_lt_of_cell? w _ hw235_2)).trans hw235_2), hx236_0⟩ (fun hHeld => ?_); refine with_tabW worldmintref14_Take.tab11 worldmintref14_Take.bits11 (fun HT_ HW_ => ?_)
          generalize wr.drew = w21 at HO_10 HO_11 HO_12 HB hx234_0 hx234_1 hx234_2 hx235_0 hx235_1 hx235_2 hx236_0 hHeld ⊢
          refine pu 0 40 (bs 18 1) HT_ ?_
          refine pu 1 41 (bs 18 3) HT_ ?_
          refine pu 2 42 (bs 18 7) HT_ ?_
          refine pu 3 43 (bs 18 15) HT_ ?_
          refine pu 4 44 (bs 18 31) HT_ ?_
          refine pu 6 46 (bs 18 95) HT_ ?_
          refine pu 7 47 (bs 18 223) HT_ ?_
          refine pu 8 48 (bs 18 479) HT_ ?_
          refine pu 9 49 (bs 18 991) HT_ ?_
          refine pu 11 51 (bs 18 3039) HT_ ?_
          refine pu 12 52 (bs 18 7135) HT_ ?_
          refine pu 13 53 (bs 18 15327) HT_ ?_
          refine take_ (i := 5) (N := some 45) (v := ?_) (a' := ?_) (bs 18 15359) rfl rfl (take_ofW HT_.out HW_.out (by kernel_rfl)) (fun _ _ _ h => h) (Or.inl ⟨by rfl, ?_⟩) hHeld ?_ ?_
          rotate_left
          ·rintro w' ⟨s0, s1, s2, s3, s4, s5, s6⟩
           go_simp
           with_reducible rfl
          rotate_left
          ·simp only [Act.put, List.setIfInBounds_toArray, List.set_cons_zero, List.set_cons_succ, i64_w, i32_w]
           rfl
          refine take_ (i := 10) (N := some 50) (v := ?_) (a' := ?_) (bs 18 16383) rfl rfl (take_ofW HT_.out HW_.out (by kernel_rfl)) (fun _ _ _ h => h) (Or.inl ⟨by rfl, ?_⟩) hHeld ?_ ?_
          rotate_left
          ·rintro w' ⟨s0, s1, s2, s3, s4, s5, s6⟩
           go_simp
           with_reducible rfl
          rotate_left
          ·simp only [Act.put, List.setIfInBounds_toArray, List.set_cons_zero, List.set_cons_succ, i64_w, i32_w]
           rfl
          refine take_ (i := 14) (N := some 54) (v := ?_) (a' := ?_) (bs 18 32767) rfl rfl (take_ofW HT_.out HW_.out (by kernel_rfl)) (fun _ _ _ h => h) (Or.inl ⟨by rfl, ?_⟩) hHeld ?_ ?_
          rotate_left
          ·rintro w' ⟨s0, s1, s2, s3, s4, s5, s6⟩
           go_simp
           with_reducible rfl
          rotate_left
          ·simp only [Act.put, List.setIfInBounds_toArray, List.set_cons_zero, List.set_cons_succ, i64_w, i32_w]
           rfl
          refine pu 15 55 (bs 18 65535) HT_ ?_
          refine one_ (i := 16) (N := some 56) (bs 18 131071) rfl rfl (one_of HT_.out (by kernel_rfl)) (by decide) (fun K hK => ?_)
          refine goes_ Try.func53 (by kernel_rfl) rfl #[.slice Ao23 x11_2.length co23, .agg #[.int .i64 ((rd_T39 l0 x13_2).f0), .int .i64 ((rd_T39 l0 x13_2).f1), .int .i64 (rd t231 x13_2)]] (by rfl) rfl rfl (by (try simp only [List.map_toArray, List.map_cons, List.map_nil]); first | done | rfl | (simp only [List.length_drop, List.length_take]; rfl)) ?_
          with_reducible refine (worldmintref14_Add.calls k2 _ _ x11_2 ((rd_T39 l0 x13_2).f0) ((rd_T39 l0 x13_2).f1) (rd t231 x13_2) t237 _ ?side1 ?side2 A19.out).mono ?_
          (case side1 => repeat (first | exact (Kd.R_reads' HO_11.out).2.2 | (with_reducible refine Kd.C_alloc ?_ _) | (with_reducible refine Kd.C_drewN ?_ _) | (with_reducible refine Kd.C_drew ?_)))
          (case side2 => exact (Kd.R_reads' HO_11.out).2.1)
          rintro e w24 ⟨v238, rfl, ho0, hb⟩
          have HS6_ := (hb.cell (World.block_lt_of_cell? _ _ (hHeld.2.2.2.2.2.2))).trans (hHeld.2.2.2.2.2.2)
          refine ⟨_, rfl, ?_⟩
          have n0_ := Aside0.mk (Kd.R_below (kr HO_10.out) hb)
          have n1_ := Aside0.mk (Kd.R_elder' (kr HO_11.out) (Kd.R_base ho0) hb)
          have n2_ := Aside0.mk (Kd.R_elder' (kr HO_12.out) (Kd.R_base ho0) hb)
          have n3_ := Aside0.mk (Kd.R_lower (Kd.R_new' (Kd.R_new' ho0 (Kd.R_lt (kr HO_11.out))) (Kd.R_lt (kr HO_12.out))) (below_size (bw)))
          have n4_ := Aside0.mk (below_step (bw) hb)
          clear HO_10
          clear HO_11
          clear HO_12
          clear HB
          have HO_10 := n0_
          have HO_11 := n1_
          have HO_12 := n2_
          have HO239 := n3_
          have HB := n4_
          clear n0_ n1_ n2_ n3_ n4_
          (try clear hb)
          (try clear hb2)
          (try clear hk)
          (try clear hi)
          (try clear ho0)
          refine hK.out _ _ ⟨((HB.out.cell (World.block_lt_of_cell? w _ hw234_0)).trans hw234_0), ((HB.out.cell (World.block_lt_of_cell? w _ hw234_1)).trans hw234_1), ((HB.out.cell (World.block_lt_of_cell? w _ hw234_2)).trans hw234_2), ((HB.out.cell (World.block_lt_of_cell? w _ hw235_0)).trans hw235_0), ((HB.out.cell (World.block_lt_of_cell? w _ hw235_1)).trans hw235_1), ((HB.out.cell (World.block_lt_of_cell? w _ hw235_2)).trans hw235_2), HS6_⟩ (fun hHeld => ?_)
          clear hK K
          refine norm_ (a' := ?_) ?_ ?_
          rotate_left
          ·show Act.put _ (some 56) _ = _
           simp only [Act.put, List.setIfInBounds_toArray, List.set_cons_zero, List.set_cons_succ, i64_w, i32_w]
           rfl
          refine pu 17 11 (bs 18 262143) HT_ ?_
          refine done_ (done_of HT_.out (by kernel_rfl)) ?_
          try go_wp2
          have n0_ := Aside0.mk (Kd.R_drew HO_10.out)
          have n1_ := Aside0.mk (Kd.R_drew HO_11.out)
          have n2_ := Aside0.mk (Kd.R_drew HO_12.out)
          have n3_ := Aside0.mk (Kd.R_drew HO239.out)
          have n4_ := Aside0.mk (below_drew1 HB.out)
          clear HO_10
          clear HO_11
          clear HO_12
          clear HO239
          clear HB
          have HO_10 := n0_
          have HO_11 := n1_
          have HO_12 := n2_
          have HO239 := n3_
          have HB := n4_
          clear n0_ n1_ n2_ n3_ n4_
          have p240 : 0 ≤ (x13_2 : Int) := oda
          have q240 : x13_2 < (l0.length : Int) := oda
          obtain ⟨ad240, e240, hx240_0, hx240_1, hx240_2⟩ := at_T39 HR0.out x13_2 p240 q240
          have hw240_2 := hx240_2
          have hw240_1 := hx240_1
          have hw240_0 := hx240_0
          obtain rfl : ad234 = ad240 := (by injection e240)
          replace hx240_0 := (HB.out.cell (World.block_lt_of_cell? w _ hx240_0)).trans hx240_0
          replace hx240_1 := (HB.out.cell (World.block_lt_of_cell? w _ hx240_1)).trans hx240_1
          replace hx240_2 := (HB.out.cell (World.block_lt_of_cell? w _ hx240_2)).trans hx240_2
          replace p240 := eq_true p240
          replace q240 := eq_true q240
          have p241 : 0 ≤ (x13_2 : Int) := oda
          have q241 : x13_2 < (l0.length : Int) := oda
          obtain ⟨ad241, e241, hx241_0, hx241_1, hx241_2⟩ := at_T39 HR0.out x13_2 p241 q241
          have hw241_2 := hx241_2
          have hw241_1 := hx241_1
          have hw241_0 := hx241_0
          obtain rfl : ad234 = ad241 := (by injection e241)
          replace hx241_0 := (HB.out.cell (World.block_lt_of_cell? w _ hx241_0)).trans hx241_0
          replace hx241_1 := (HB.out.cell (World.block_lt_of_cell? w _ hx241_1)).trans hx241_1
          replace hx241_2 := (HB.out.cell (World.block_lt_of_cell? w _ hx241_2)).trans hx241_2
          replace p241 := eq_true p241
          replace q241 := eq_true q241
          have p242 : 0 ≤ (x13_2 : Int) := oda
          have q242 : x13_2 < (t231.length : Int) := oda
          obtain ⟨ad242, e242, hx242_0⟩ := Kd.at_int (Kd.R_reads' HO_10.out).2.2 x13_2 p242 q242
          obtain rfl : ad236 = ad242 := (by injection e242)
          replace p242 := eq_true p242
          replace q242 := eq_true q242
          have p243 : 0 ≤ (x13_2 : Int) := oda
          have q243 : x13_2 < (l0.length : Int) := oda
          obtain ⟨ad243, e243, hx243_0, hx243_1, hx243_2⟩ := at_T39 HR0.out x13_2 p243 q243
          have hw243_2 := hx243_2
          have hw243_1 := hx243_1
          have hw243_0 := hx243_0
          obtain rfl : ad234 = ad243 := (by injection e243)
          replace hx243_0 := (HB.out.cell (World.block_lt_of_cell? w _ hx243_0)).trans hx243_0
          replace hx243_1 := (HB.out.cell (World.block_lt_of_cell? w _ hx243_1)).trans hx243_1
          replace hx243_2 := (HB.out.cell (World.block_lt_of_cell? w _ hx243_2)).trans hx243_2
          replace p243 := eq_true p243
          replace q243 := eq_true q243
          have p244 : 0 ≤ (x13_2 : Int) := oda
          have q244 : x13_2 < (t231.length : Int) := oda
          obtain ⟨ad244, e244, hx244_0⟩ := Kd.at_int (Kd.R_reads' HO_10.out).2.2 x13_2 p244 q244
          obtain rfl : ad236 = ad244 := (by injection e244)
          replace p244 := eq_true p244
          replace q244 := eq_true q244
          obtain ⟨Ao26, co26, eo26⟩ := Kd.R_slice HO_12.out
          (first | subst eo26 | (injection eo26 with f1_ f2_ f3_; have f4_ := f1_.symm; have f5_ := f3_.symm; clear f1_ f2_ f3_; subst f4_; subst f5_))
          refine start_ (n := 29) (S := fun w' => w'.cell? (ad234.add ((x13_2).toNat * 3)) = some (.int .i64 ((rd_T39 l0 x13_2).f0)) ∧ w'.cell? ⟨(ad234.add ((x13_2).toNat * 3)).block, (ad234.add ((x13_2).toNat * 3)).off + 1, none⟩ = some (.int .i64 ((rd_T39 l0 x13_2).f1)) ∧ w'.cell? ⟨(ad234.add ((x13_2).toNat * 3)).block, (ad234.add ((x13_2).toNat * 3)).off + 2, none⟩ = some (.int .i64 ((rd_T39 l0 x13_2).f2)) ∧ w'.cell? (ad234.add ((x13_2).toNat * 3)) = some (.int .i64 ((rd_T39 l0 x13_2).f0)) ∧ w'.cell? ⟨(ad234.add ((x13_2).toNat * 3)).block, (ad234.add ((x13_2).toNat * 3)).off + 1, none⟩ = some (.int .i64 ((rd_T39 l0 x13_2).f1)) ∧ w'.cell? ⟨(ad234.add ((x13_2).toNat * 3)).block, (ad234.add ((x13_2).toNat * 3)).off + 2, none⟩ = some (.int .i64 ((rd_T39 l0 x13_2).f2)) ∧ w'.cell? (ad236.add (x13_2).toNat) = some (.int .i64 (rd t231 x13_2)) ∧ w'.cell? (ad234.add ((x13_2).toNat * 3)) = some (.int .i64 ((rd_T39 l0 x13_2).f0)) ∧ w'.cell? ⟨(ad234.add ((x13_2).toNat * 3)).block, (ad234.add ((x13_2).toNat * 3)).off + 1, none⟩ = some (.int .i64 ((rd_T39 l0 x13_2).f1)) ∧ w'.cell? ⟨(ad234.add ((x13_2).toNat * 3)).block, (ad234.add ((x13_2).toNat * 3)).off + 2, none⟩ = some (.int .i64 ((rd_T39 l0 x13_2).f2)) ∧ w'.cell? (ad236.add (x13_2).toNat) = some (.int .i64 (rd t231 x13_2))) (ds := []) (bs 29 0) (by kernel_rfl) rfl rfl ⟨((HB.out.cell (World.block_lt_of_cell? w _ hw240_0)).trans hw240_0), ((HB.out.cell (World.block_lt_of_cell? w _ hw240_1)).trans hw240_1), ((HB.out.cell (World.block_lt_of_cell? w _ hw240_2)).trans hw240_2), ((HB.out.cell (World.block_lt_of_cell? w _ hw241_0)).trans hw241_0), ((HB.out.cell (World.block_lt_of_cell? w _ hw241_1)).trans hw241_1), ((HB.out.cell (World.block_lt_of_cell? w _ hw241_2)).trans hw241_2), hx242_0, ((HB.out.cell (World.block_lt_of_cell? w _ hw243_0)).trans hw243_0), ((HB.out.cell (World.block_lt_of_cell? w _ hw243_1)).trans hw243_1), ((HB.out.cell (World.block_lt_of_cell? w _ hw243_2)).trans hw243_2), hx244_0⟩ (fun hHeld => ?_); refine with_tabW worldmintref14_Take.tab12 worldmintref14_Take.bits12 (fun HT_ HW_ => ?_)
          generalize w24.drew = w25 at HO_10 HO_11 HO_12 HO239 HB hx240_0 hx240_1 hx240_2 hx241_0 hx241_1 hx241_2 hx242_0 hx243_0 hx243_1 hx243_2 hx244_0 hHeld ⊢
          refine pu 0 57 (bs 29 1) HT_ ?_
          refine pu 1 58 (bs 29 3) HT_ ?_
          refine pu 2 59 (bs 29 7) HT_ ?_
          refine pu 3 60 (bs 29 15) HT_ ?_
          refine pu 4 61 (bs 29 31) HT_ ?_
          refine pu 6 63 (bs 29 95) HT_ ?_
          refine pu 7 64 (bs 29 223) HT_ ?_
          refine pu 8 65 (bs 29 479) HT_ ?_
          refine pu 9 66 (bs 29 991) HT_ ?_
          refine pu 11 68 (bs 29 3039) HT_ ?_
          refine pu 12 69 (bs 29 7135) HT_ ?_
          refine pu 13 70 (bs 29 15327) HT_ ?_
          refine pu 16 73 (bs 29 80863) HT_ ?_
          refine pu 17 74 (bs 29 211935) HT_ ?_
          refine pu 18 75 (bs 29 474079) HT_ ?_
          refine pu 19 76 (bs 29 998367) HT_ ?_
          refine pu 21 78 (bs 29 3095519) HT_ ?_
          refine pu 22 79 (bs 29 7289823) HT_ ?_
          refine pu 23 80 (bs 29 15678431) HT_ ?_
          refine take_ (i := 5) (N := some 62) (v := ?_) (a' := ?_) (bs 29 15678463) rfl rfl (take_ofW HT_.out HW_.out (by kernel_rfl)) (fun _ _ _ h => h) (Or.inl ⟨by rfl, ?_⟩) hHeld ?_ ?_
          rotate_left
          ·rintro w' ⟨s0, s1, s2, s3, s4, s5, s6, s7, s8, s9, s10⟩
           go_simp
           with_reducible rfl
          rotate_left
          ·simp only [Act.put, List.setIfInBounds_toArray, List.set_cons_zero, List.set_cons_succ, i64_w, i32_w]
           rfl
          refine take_ (i := 10) (N := some 67) (v := ?_) (a' := ?_) (bs 29 15679487) rfl rfl (take_ofW HT_.out HW_.out (by kernel_rfl)) (fun _ _ _ h => h) (Or.inl ⟨by rfl, ?_⟩) hHeld ?_ ?_
          rotate_left
          ·rintro w' ⟨s0, s1, s2, s3, s4, s5, s6, s7, s8, s9, s10⟩
           go_simp
           with_reducible rfl
          rotate_left
          ·simp only [Act.put, List.setIfInBounds_toArray, List.set_cons_zero, List.set_cons_succ, i64_w, i32_w]
           rfl
          refine take_ (i := 14) (N := some 71) (v := ?_) (a' := ?_) (bs 29 15695871) rfl rfl (take_ofW HT_.out HW_.out (by kernel_rfl)) (fun _ _ _ h => h) (Or.inl ⟨by rfl, ?_⟩) hHeld ?_ ?_
          rotate_left
          ·rintro w' ⟨s0, s1, s2, s3, s4, s5, s6, s7, s8, s9, s10⟩
           go_simp
           with_reducible rfl
          rotate_left
          ·simp only [Act.put, List.setIfInBounds_toArray, List.set_cons_zero, List.set_cons_succ, i64_w, i32_w]
           rfl
          refine pu 15 72 (bs 29 15728639) HT_ ?_
          refine take_ (i := 20) (N := some 77) (v := ?_) (a' := ?_) (bs 29 16777215) rfl rfl (take_ofW HT_.out HW_.out (by kernel_rfl)) (fun _ _ _ h => h) (Or.inl ⟨by rfl, ?_⟩) hHeld ?_ ?_
          rotate_left
          ·rintro w' ⟨s0, s1, s2, s3, s4, s5, s6, s7, s8, s9, s10⟩
           go_simp
           with_reducible rfl
          rotate_left
          ·simp only [Act.put, List.setIfInBounds_toArray, List.set_cons_zero, List.set_cons_succ, i64_w, i32_w]
           rfl
          refine take_ (i := 24) (N := some 81) (v := ?_) (a' := ?_) (bs 29 33554431) rfl rfl (take_ofW HT_.out HW_.out (by kernel_rfl)) (fun _ _ _ h => h) (Or.inl ⟨by rfl, ?_⟩) hHeld ?_ ?_
          rotate_left
          ·rintro w' ⟨s0, s1, s2, s3, s4, s5, s6, s7, s8, s9, s10⟩
           go_simp
           with_reducible rfl
          rotate_left
          ·simp only [Act.put, List.setIfInBounds_toArray, List.set_cons_zero, List.set_cons_succ, i64_w, i32_w]
           rfl
          refine pu 25 82 (bs 29 67108863) HT_ ?_
          refine pu 26 83 (bs 29 134217727) HT_ ?_
          refine one_ (i := 27) (N := some 84) (bs 29 268435455) rfl rfl (one_of HT_.out (by kernel_rfl)) (by decide) (fun K hK => ?_)
          refine goes_ Try.func53 (by kernel_rfl) rfl #[.slice Ao26 x12_2.length co26, .agg #[.int .i64 ((rd_T39 l0 x13_2).f0), .int .i64 (wrap64 (((rd_T39 l0 x13_2).f1) + (rd t231 x13_2))), .int .i64 (wrap64 (((rd_T39 l0 x13_2).f2) - (rd t231 x13_2)))]] (by rfl) rfl rfl (by (try simp only [List.map_toArray, List.map_cons, List.map_nil]); first | done | rfl | (simp only [List.length_drop, List.length_take]; rfl)) ?_
          with_reducible refine (worldmintref14_Add.calls k2 _ _ x12_2 ((rd_T39 l0 x13_2).f0) (wrap64 (((rd_T39 l0 x13_2).f1) + (rd t231 x13_2))) (wrap64 (((rd_T39 l0 x13_2).f2) - (rd t231 x13_2))) t245 _ ?side1 ?side2 A20.out).mono ?_
          (case side1 => repeat (first | exact (Kd.R_reads' HO_12.out).2.2 | (with_reducible refine Kd.C_alloc ?_ _) | (with_reducible refine Kd.C_drewN ?_ _) | (with_reducible refine Kd.C_drew ?_)))
          (case side2 => exact (Kd.R_reads' HO_12.out).2.1)
          rintro e w27 ⟨v246, rfl, ho0, hb⟩
          have HS6_ := (hb.cell (World.block_lt_of_cell? _ _ (hHeld.2.2.2.2.2.2.1))).trans (hHeld.2.2.2.2.2.2.1)
          have HS10_ := (hb.cell (World.block_lt_of_cell? _ _ (hHeld.2.2.2.2.2.2.2.2.2.2))).trans (hHeld.2.2.2.2.2.2.2.2.2.2)
          refine ⟨_, rfl, ?_⟩
          have n0_ := Aside0.mk (Kd.R_below (kr HO_10.out) hb)
          have n1_ := Aside0.mk (Kd.R_elder' (kr HO_11.out) (Kd.R_base ho0) hb)
          have n2_ := Aside0.mk (Kd.R_elder' (kr HO_12.out) (Kd.R_base ho0) hb)
          have n3_ := Aside0.mk (Kd.R_elder' (kr HO239.out) (Kd.R_base ho0) hb)
          have n4_ := Aside0.mk (Kd.R_lower (Kd.R_new' (Kd.R_new' (Kd.R_new' ho0 (Kd.R_lt (kr HO_11.out))) (Kd.R_lt (kr HO_12.out))) (Kd.R_lt (kr HO239.out))) (below_size (bw)))
          have n5_ := Aside0.mk (below_step (bw) hb)
          clear HO_10
          clear HO_11
          clear HO_12
          clear HO239
          clear HB
          have HO_10 := n0_
          have HO_11 := n1_
          have HO_12 := n2_
          have HO239 := n3_
          have HO247 := n4_
          have HB := n5_
          clear n0_ n1_ n2_ n3_ n4_ n5_
          (try clear hb)
          (try clear hb2)
          (try clear hk)
          (try clear hi)
          (try clear ho0)
          refine hK.out _ _ ⟨((HB.out.cell (World.block_lt_of_cell? w _ hw240_0)).trans hw240_0), ((HB.out.cell (World.block_lt_of_cell? w _ hw240_1)).trans hw240_1), ((HB.out.cell (World.block_lt_of_cell? w _ hw240_2)).trans hw240_2), ((HB.out.cell (World.block_lt_of_cell? w _ hw241_0)).trans hw241_0), ((HB.out.cell (World.block_lt_of_cell? w _ hw241_1)).trans hw241_1), ((HB.out.cell (World.block_lt_of_cell? w _ hw241_2)).trans hw241_2), HS6_, ((HB.out.cell (World.block_lt_of_cell? w _ hw243_0)).trans hw243_0), ((HB.out.cell (World.block_lt_of_cell? w _ hw243_1)).trans hw243_1), ((HB.out.cell (World.block_lt_of_cell? w _ hw243_2)).trans hw243_2), HS10_⟩ (fun hHeld => ?_)
          clear hK K
          refine norm_ (a' := ?_) ?_ ?_
          rotate_left
          ·show Act.put _ (some 84) _ = _
           simp only [Act.put, List.setIfInBounds_toArray, List.set_cons_zero, List.set_cons_succ, i64_w, i32_w]
           rfl
          refine pu 28 12 (bs 29 536870911) HT_ ?_
          refine done_ (done_of HT_.out (by kernel_rfl)) ?_
          try go_wp2
          go_roundg k2
          case measure => have := HJ4.out; have := HK2.out; omega
          case rel => exact ⟨(t237), (t245), (wrap64 (x13_2 + 1)), eqs, H', ⟨by have := HJ4.out; have := HK2.out; omega⟩, ⟨kr HO_10.out⟩, ⟨by (with_reducible repeat (first | apply Kd.R_alloc | apply Kd.R_drewN | apply Kd.R_drew)); exact Kd.R_mono HO239.out (fun _ hk => hk.2)⟩, ⟨by (with_reducible repeat (first | apply Kd.R_alloc | apply Kd.R_drewN | apply Kd.R_drew)); exact Kd.R_mono HO247.out (fun _ hk => hk.2)⟩, ⟨bw⟩⟩
         ·rw [if_neg c18] at H
          exact absurd H (by simp)
        ·rw [if_neg c17] at H
         exact absurd H (by simp)
       ·rw [if_neg c16] at H
        have c16b0 : decide (x13_2 < (l0.length : Int)) = false := decide_eq_false c16
        clear c16
        simp only [Option.some.injEq, Prod.mk.injEq] at H
        obtain ⟨rfl, rfl, rfl⟩ := H
        go_wp2
        go_ret3
        exact ⟨_, _, by first | rfl | (simp [errW_none, errW_some] <;> rfl) | (simp [*, errW_none, errW_some] <;> rfl), kr HO_11.out, kr HO_12.out, bw⟩
end Go.Proofs.Ytcicjbgfahdejaa.P
