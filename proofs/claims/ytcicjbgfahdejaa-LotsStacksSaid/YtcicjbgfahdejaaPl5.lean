-- Written by a program of this session (wip/tools), out of the translation. Not trusted: Lean checks it.
import Derived.Test.YtcicjbgfahdejaaPx1
import Derived.Test.YtcicjbgfahdejaaPD
import Derived.Test.YtcicjbgfahdejaaPc1
import Derived.Test.YtcicjbgfahdejaaPc3
import Derived.Test.YtcicjbgfahdejaaPc5
import Derived.Test.YtcicjbgfahdejaaPp1
import Derived.Test.YtcicjbgfahdejaaPp2
namespace Go.Proofs.Ytcicjbgfahdejaa.P
open Go.RowKit Go.Proofs.YtcicjbgfahdejaaW.PrintWords Go.Proofs.YtcicjbgfahdejaaW.PrintLast Go.Proofs.YtcicjbgfahdejaaW.PrintMore
attribute [local go_sem] max2_int min2_int max_two min_two max_three min_three max_four min_four   -- for this text's walks alone
set_option linter.unusedVariables false
set_option linter.unusedSimpArgs false

/-! ### worldmintlaw14_LotsStacks -/
def worldmintlaw14_LotsStacks.T6 : Bool × List (List Nat × List Nat) := (true, [([], []), ([], []), ([0, 1], [0, 1]), ([2], [2]), ([3], [3]), ([], []), ([], []), ([5, 6], [5, 6]), ([7], [7]), ([8, 4], [8]), ([4, 9], [4, 9]), ([10, 9], [10]), ([11], [11]), ([11], [11]), ([12, 13, 11], [11, 12, 13]), ([14, 11], [11, 14]), ([15, 11, 11], [11, 15]), ([11], [11]), ([11], [11]), ([17, 18, 11], [11, 17, 18]), ([19, 11], [11, 19]), ([20, 16, 11], [11, 20]), ([16, 21, 11], [11, 16, 21]), ([11, 22], [11, 22])])
def worldmintlaw14_LotsStacks.B6 : List Nat := [0, 0, 3, 7, 15, 0, 0, 96, 224, 511, 1023, 2047, 4095, 4095, 16383, 32767, 65535, 4095, 4095, 397311, 921599, 2097151, 4194303, 8388607]
theorem worldmintlaw14_LotsStacks.tab6 : rtab .any (opsOf Try.f5 6) = worldmintlaw14_LotsStacks.T6 := by kernel_rfl
theorem worldmintlaw14_LotsStacks.bits6 : waitsOk worldmintlaw14_LotsStacks.T6.2 worldmintlaw14_LotsStacks.B6 = true := by kernel_rfl
def worldmintlaw14_LotsStacks.T11 : Bool × List (List Nat × List Nat) := (true, [([], []), ([], []), ([0, 1], [0, 1]), ([2], [2]), ([], []), ([], []), ([4, 5], [4, 5]), ([6], [6]), ([3, 7], [3, 7]), ([], []), ([], []), ([9, 10], [9, 10]), ([11], [11]), ([], []), ([], []), ([13, 14], [13, 14]), ([15], [15]), ([12, 16, 8], [12, 16]), ([8, 17, 17], [8, 17]), ([18], [18])])
def worldmintlaw14_LotsStacks.B11 : List Nat := [0, 0, 3, 7, 0, 0, 48, 112, 255, 0, 0, 1536, 3584, 0, 0, 24576, 57344, 131071, 262143, 524287]
theorem worldmintlaw14_LotsStacks.tab11 : rtab .any (opsOf Try.f5 11) = worldmintlaw14_LotsStacks.T11 := by kernel_rfl
theorem worldmintlaw14_LotsStacks.bits11 : waitsOk worldmintlaw14_LotsStacks.T11.2 worldmintlaw14_LotsStacks.B11 = true := by kernel_rfl
set_option maxHeartbeats 8000000 in
set_option maxRecDepth 100000 in
theorem worldmintlaw14_LotsStacks.calls (k : Nat) (A0 : Option Addr) (c0 : Nat) (l0 : List (S39)) (a1_0 : Int) (a1_1 : Int) (a1_2 : Int) (A2 : Option Addr) (c2 : Nat) (l2 : List Int) (r : Bool) (w : World) (hr0 : Kd.C k39 w A0 l0.length l0) (hc0 : l0.length ≤ c0) (hr2 : Kd.C (Kd.int .i64) w A2 l2.length l2) (hc2 : l2.length ≤ c2) (h : worldmintlaw14_LotsStacks.f k l0 a1_0 a1_1 a1_2 l2 = some r) :
  Calls Try.prog 5 #[.slice A0 l0.length c0, .agg #[.int .i64 a1_0, .int .i64 a1_1, .int .i64 a1_2], .slice A2 l2.length c2] w fun e w' => e = .returned (.bool r) ∧ Below w.heap.size w w' := by
 have hu39 := Try.underlying39
 have HR0 := Aside0.mk hr0
 have HC0 := Aside0.mk hc0
 clear hr0 hc0
 have HR2 := Aside0.mk hr2
 have HC2 := Aside0.mk hc2
 clear hr2 hc2
 have HB := Aside0.mk (Below.refl w.heap.size w)
 have H : ((worldmintlaw14_few.f l0).bind fun t449 => ((worldmintref14_Lots.f k l2 0).bind fun t452 => ((worldmintref14_Lots.f k l2 5).bind fun t455 => ((some (([(⟨a1_0, a1_1, a1_2⟩ : S39)] : List (S39)) : List (S39))).bind fun y461 => ((worldmintref14_Lots.f k l2 9).bind fun t464 => (if y461.length + t464.length < 5864062014805 then (worldmintlaw14_LotsStacks.l0 k (([t449, t452, t455] : List (List (S39)))) (y461 ++ t464) 0) else (none))))))) = some r := h
 clear h
 replace H := Option.bind_eq_some_iff.mp H
 obtain ⟨t449, A40, H⟩ := H
 replace H : ((worldmintref14_Lots.f k l2 0).bind fun t452 => ((worldmintref14_Lots.f k l2 5).bind fun t455 => ((some (([(⟨a1_0, a1_1, a1_2⟩ : S39)] : List (S39)) : List (S39))).bind fun y461 => ((worldmintref14_Lots.f k l2 9).bind fun t464 => (if y461.length + t464.length < 5864062014805 then (worldmintlaw14_LotsStacks.l0 k (([t449, t452, t455] : List (List (S39)))) (y461 ++ t464) 0) else (none)))))) = some r := H
 have A4 := Aside0.mk A40
 clear A40
 replace H := Option.bind_eq_some_iff.mp H
 obtain ⟨t452, A50, H⟩ := H
 replace H : ((worldmintref14_Lots.f k l2 5).bind fun t455 => ((some (([(⟨a1_0, a1_1, a1_2⟩ : S39)] : List (S39)) : List (S39))).bind fun y461 => ((worldmintref14_Lots.f k l2 9).bind fun t464 => (if y461.length + t464.length < 5864062014805 then (worldmintlaw14_LotsStacks.l0 k (([t449, t452, t455] : List (List (S39)))) (y461 ++ t464) 0) else (none))))) = some r := H
 have A5 := Aside0.mk A50
 clear A50
 replace H := Option.bind_eq_some_iff.mp H
 obtain ⟨t455, A60, H⟩ := H
 replace H : ((some (([(⟨a1_0, a1_1, a1_2⟩ : S39)] : List (S39)) : List (S39))).bind fun y461 => ((worldmintref14_Lots.f k l2 9).bind fun t464 => (if y461.length + t464.length < 5864062014805 then (worldmintlaw14_LotsStacks.l0 k (([t449, t452, t455] : List (List (S39)))) (y461 ++ t464) 0) else (none)))) = some r := H
 have A6 := Aside0.mk A60
 clear A60
 obtain ⟨y458, hy458⟩ : ∃ y_ : List (List (S39)), y_ = (([t449, t452, t455] : List (List (S39)))) := ⟨_, rfl⟩
 replace H : ((some (([(⟨a1_0, a1_1, a1_2⟩ : S39)] : List (S39)) : List (S39))).bind fun y461 => ((worldmintref14_Lots.f k l2 9).bind fun t464 => (if y461.length + t464.length < 5864062014805 then (worldmintlaw14_LotsStacks.l0 k y458 (y461 ++ t464) 0) else (none)))) = some r := by first | (rw [hy458]; with_reducible exact H) | (have H2_ := (Option.bind_some _ _).symm.trans H; rw [hy458]; with_reducible exact H2_) | (have H2_ := (Option.bind_some _ _).symm.trans H; with_reducible exact H2_) | with_reducible exact H | (rw [hy458]; exact H) | exact H
 have Ny458 := Aside0.mk hy458
 clear hy458
 obtain ⟨y461, hy461⟩ : ∃ y_ : List (S39), y_ = (([(⟨a1_0, a1_1, a1_2⟩ : S39)] : List (S39))) := ⟨_, rfl⟩
 replace H : ((worldmintref14_Lots.f k l2 9).bind fun t464 => (if y461.length + t464.length < 5864062014805 then (worldmintlaw14_LotsStacks.l0 k y458 (y461 ++ t464) 0) else (none))) = some r := by first | (rw [hy461]; with_reducible exact H) | (have H2_ := (Option.bind_some _ _).symm.trans H; rw [hy461]; with_reducible exact H2_) | (have H2_ := (Option.bind_some _ _).symm.trans H; with_reducible exact H2_) | with_reducible exact H | (rw [hy461]; exact H) | exact H
 have Ny461 := Aside0.mk hy461
 clear hy461
 replace H := Option.bind_eq_some_iff.mp H
 obtain ⟨t464, A70, H⟩ := H
 replace H : (if y461.length + t464.length < 5864062014805 then (worldmintlaw14_LotsStacks.l0 k y458 (y461 ++ t464) 0) else (none)) = some r := H
 have A7 := Aside0.mk A70
 clear A70
 by_cases c8 : y461.length + t464.length < 5864062014805
 ·rw [if_pos c8] at H
  have LMc8 := Aside0.mk c8
  clear c8
  obtain ⟨y467, hy467⟩ : ∃ y_ : List (S39), y_ = (y461 ++ t464) := ⟨_, rfl⟩
  replace H : (worldmintlaw14_LotsStacks.l0 k y458 y467 0) = some r := by first | (rw [hy467]; with_reducible exact H) | (have H2_ := (Option.bind_some _ _).symm.trans H; rw [hy467]; with_reducible exact H2_) | (have H2_ := (Option.bind_some _ _).symm.trans H; with_reducible exact H2_) | with_reducible exact H | (rw [hy467]; exact H) | exact H
  have Ny467 := Aside0.mk hy467
  clear hy467
  have H' := Aside0.mk H
  clear H
  go_enter Try.func5, Try.ntmps5
  try go_wp2_with (first | ((with_reducible refine gate_dst (N := 4) rfl ?_); refine box_event ?hg (N := 4) ?hd (cs := #[.int .i64 a1_0, .int .i64 a1_1, .int .i64 a1_2]) (t := 39) ?hr ?_; (case hd => rfl); (case hg => rfl); (case hr => first | (go_simp; done) | (go_simp; rfl)); intro gb448 hg w9 hbox hb; have n0_ := Aside0.mk (below_step (bw) hb); have n1_ := Aside0.mk (hbox); have n2_ := Aside0.mk ((by rw [hg]; exact (below_size (bw)) : w.heap.size ≤ gb448)); have n3_ := Aside0.mk ((by rw [hg]; exact (below_size (bw)) : w.heap.size ≤ gb448)); clear HB; have HB := n0_; have BK448 := n1_; have GW448 := n2_; have GE448 := n3_; clear n0_ n1_ n2_ n3_; clear hb hbox hg) | ((with_reducible refine gate_callee (f := 12) rfl ?_); refine goesL_ (some 12) rfl rfl Try.func12 (by kernel_rfl) rfl #[.slice A0 l0.length c0] rfl (by (try simp only [List.map_toArray, List.map_cons, List.map_nil]); first | done | rfl | (simp only [List.length_drop, List.length_take]; rfl)) ?_; (with_reducible refine (worldmintlaw14_few.calls _ _ l0 t449 _ ?side1 ?side2 A4.out).mono ?_); (case side1 => repeat (first | exact (Kd.C_below HR0.out HB.out) | (with_reducible refine Kd.C_alloc ?_ _) | (with_reducible refine Kd.C_drewN ?_ _) | (with_reducible refine Kd.C_drew ?_))); (case side2 => exact HC0.out); rintro e w10 ⟨v450, rfl, ho0, hb⟩; refine ⟨_, rfl, ?_⟩; have n0_ := Aside0.mk (Kd.R_lower (Kd.R_newB ho0 (g := gb448) (o := .cells #[.int .i64 a1_0, .int .i64 a1_1, .int .i64 a1_2] 39 (0, 0)) (kb BK448.out)) (below_size (by repeat (first | (with_reducible first | exact HB.out | apply below_alloc | apply pw_below_drewN | apply below_drew1 | refine below_set ?_ GE448.out) | exact HB.out)))); have n1_ := Aside0.mk (blk_below (g := gb448) (o := .cells #[.int .i64 a1_0, .int .i64 a1_1, .int .i64 a1_2] 39 (0, 0)) (kb BK448.out) hb); have n2_ := Aside0.mk (below_step (by repeat (first | (with_reducible first | exact HB.out | apply below_alloc | apply pw_below_drewN | apply below_drew1 | refine below_set ?_ GE448.out) | exact HB.out)) hb); clear BK448; clear HB; have HO451 := n0_; have BK448 := n1_; have HB := n2_; clear n0_ n1_ n2_; (try clear hb); (try clear hb2); (try clear hk); (try clear hi); (try clear ho0)) | ((with_reducible refine gate_callee (f := 13) rfl ?_); refine goesL_ (some 14) rfl rfl Try.func13 (by kernel_rfl) rfl #[.slice A2 l2.length c2, .int .i64 0] rfl (by (try simp only [List.map_toArray, List.map_cons, List.map_nil]); first | done | rfl | (simp only [List.length_drop, List.length_take]; rfl)) ?_; (with_reducible refine (worldmintref14_Lots.calls k _ _ l2 0 t452 _ ?side1 ?side2 A5.out).mono ?_); (case side1 => repeat (first | exact (Kd.C_below HR2.out HB.out) | (with_reducible refine Kd.C_alloc ?_ _) | (with_reducible refine Kd.C_drewN ?_ _) | (with_reducible refine Kd.C_drew ?_))); (case side2 => exact HC2.out); rintro e w11 ⟨v453, rfl, ho0, hb⟩; refine ⟨_, rfl, ?_⟩; have n0_ := Aside0.mk (Kd.R_elder' (kr HO451.out) (Kd.R_base ho0) hb); have n1_ := Aside0.mk (Kd.R_lower (Kd.R_newB (Kd.R_new' ho0 (Kd.R_lt (kr HO451.out))) (g := gb448) (o := .cells #[.int .i64 a1_0, .int .i64 a1_1, .int .i64 a1_2] 39 (0, 0)) (kb BK448.out)) (below_size (by repeat (first | (with_reducible first | exact HB.out | apply below_alloc | apply pw_below_drewN | apply below_drew1 | refine below_set ?_ GE448.out) | exact HB.out)))); have n2_ := Aside0.mk (blk_below (g := gb448) (o := .cells #[.int .i64 a1_0, .int .i64 a1_1, .int .i64 a1_2] 39 (0, 0)) (kb BK448.out) hb); have n3_ := Aside0.mk (below_step (by repeat (first | (with_reducible first | exact HB.out | apply below_alloc | apply pw_below_drewN | apply below_drew1 | refine below_set ?_ GE448.out) | exact HB.out)) hb); clear HO451; clear BK448; clear HB; have HO451 := n0_; have HO454 := n1_; have BK448 := n2_; have HB := n3_; clear n0_ n1_ n2_ n3_; (try clear hb); (try clear hb2); (try clear hk); (try clear hi); (try clear ho0)) | ((with_reducible refine gate_callee (f := 13) rfl ?_); refine goesL_ (some 16) rfl rfl Try.func13 (by kernel_rfl) rfl #[.slice A2 l2.length c2, .int .i64 5] rfl (by (try simp only [List.map_toArray, List.map_cons, List.map_nil]); first | done | rfl | (simp only [List.length_drop, List.length_take]; rfl)) ?_; (with_reducible refine (worldmintref14_Lots.calls k _ _ l2 5 t455 _ ?side1 ?side2 A6.out).mono ?_); (case side1 => repeat (first | exact (Kd.C_below HR2.out HB.out) | (with_reducible refine Kd.C_alloc ?_ _) | (with_reducible refine Kd.C_drewN ?_ _) | (with_reducible refine Kd.C_drew ?_))); (case side2 => exact HC2.out); rintro e w12 ⟨v456, rfl, ho0, hb⟩; refine ⟨_, rfl, ?_⟩; have n0_ := Aside0.mk (Kd.R_elder' (kr HO451.out) (Kd.R_base ho0) hb); have n1_ := Aside0.mk (Kd.R_elder' (kr HO454.out) (Kd.R_base ho0) hb); have n2_ := Aside0.mk (Kd.R_lower (Kd.R_newB (Kd.R_new' (Kd.R_new' ho0 (Kd.R_lt (kr HO451.out))) (Kd.R_lt (kr HO454.out))) (g := gb448) (o := .cells #[.int .i64 a1_0, .int .i64 a1_1, .int .i64 a1_2] 39 (0, 0)) (kb BK448.out)) (below_size (by repeat (first | (with_reducible first | exact HB.out | apply below_alloc | apply pw_below_drewN | apply below_drew1 | refine below_set ?_ GE448.out) | exact HB.out)))); have n3_ := Aside0.mk (blk_below (g := gb448) (o := .cells #[.int .i64 a1_0, .int .i64 a1_1, .int .i64 a1_2] 39 (0, 0)) (kb BK448.out) hb); have n4_ := Aside0.mk (below_step (by repeat (first | (with_reducible first | exact HB.out | apply below_alloc | apply pw_below_drewN | apply below_drew1 | refine below_set ?_ GE448.out) | exact HB.out)) hb); clear HO451; clear HO454; clear BK448; clear HB; have HO451 := n0_; have HO454 := n1_; have HO457 := n2_; have BK448 := n3_; have HB := n4_; clear n0_ n1_ n2_ n3_ n4_; (try clear hb); (try clear hb2); (try clear hk); (try clear hi); (try clear ho0); obtain ⟨Ao13, co13, eo13⟩ := Kd.R_slice HO451.out; subst eo13; obtain ⟨Ao14, co14, eo14⟩ := Kd.R_slice HO454.out; subst eo14; obtain ⟨Ao15, co15, eo15⟩ := Kd.R_slice HO457.out; subst eo15) | ((with_reducible refine gate_dst (N := 17) rfl ?_); refine Kd.N_lit (Kd.slice 39 k39) _ 22 ?hg (N' := 17) ?hd (xs := ([t449, t452, t455] : List (List (S39)))) (inner := [.slice Ao13 t449.length co13, .slice Ao14 t452.length co14, .slice Ao15 t455.length co15]) (ok := (fun k_ => k_ ≠ gb448)) (okp := (fun k_ => k_ ≠ gb448)) ?hr ?hp (fun _ hk => hk) ((show ∀ k_, w12.heap.size ≤ k_ → (fun k_ => k_ ≠ gb448) k_ from fun k_ hk => Kd.freshB (g := gb448) (o := .cells #[.int .i64 a1_0, .int .i64 a1_1, .int .i64 a1_2] 39 (0, 0)) (kb BK448.out) k_ hk) _ (Nat.le_refl _)) (Below.refl _ _) (Nat.le_refl _) (by simp) ?_; (case hd => rfl); (case hg => rfl); (case hr => first | (go_simp; done) | (go_simp; rfl)); (case hp => exact (Reps.one (show Kd.FK (Kd.slice 39 k39) _ _ t449 [.slice Ao13 t449.length co13] from (Kd.FK_slice_mk (Kd.R_reads' (Kd.R_mono (ok' := (fun k_ => k_ ≠ gb448)) (HO451.out) (fun k_ hk => hk.1.1.2))).2.1 (Kd.R_F (Kd.R_mono (ok' := (fun k_ => k_ ≠ gb448)) (HO451.out) (fun k_ hk => hk.1.1.2))))) (Reps.one (show Kd.FK (Kd.slice 39 k39) _ _ t452 [.slice Ao14 t452.length co14] from (Kd.FK_slice_mk (Kd.R_reads' (Kd.R_mono (ok' := (fun k_ => k_ ≠ gb448)) (HO454.out) (fun k_ hk => hk.1.2))).2.1 (Kd.R_F (Kd.R_mono (ok' := (fun k_ => k_ ≠ gb448)) (HO454.out) (fun k_ hk => hk.1.2))))) (Reps.one (show Kd.FK (Kd.slice 39 k39) _ _ t455 [.slice Ao15 t455.length co15] from (Kd.FK_slice_mk (Kd.R_reads' (Kd.R_mono (ok' := (fun k_ => k_ ≠ gb448)) (HO457.out) (fun k_ hk => hk.2))).2.1 (Kd.R_F (Kd.R_mono (ok' := (fun k_ => k_ ≠ gb448)) (HO457.out) (fun k_ hk => hk.2))))) (Reps.none _ _))))); intro v459 w16 ho17 hb hg_ hnew_; clear hg_ hnew_; (first | rw [← Ny458.out] at ho17 | (simp only [Int.reduceToNat] at ho17; rw [← Ny458.out] at ho17)); have n0_ := Aside0.mk (Kd.N_lower ho17 (below_size (by repeat (first | (with_reducible first | exact HB.out | apply below_alloc | apply pw_below_drewN | apply below_drew1 | refine below_set ?_ GE448.out) | exact HB.out)))); have n1_ := Aside0.mk (blk_below (g := gb448) (o := .cells #[.int .i64 a1_0, .int .i64 a1_1, .int .i64 a1_2] 39 (0, 0)) (kb BK448.out) hb); have n2_ := Aside0.mk (below_step (by repeat (first | (with_reducible first | exact HB.out | apply below_alloc | apply pw_below_drewN | apply below_drew1 | refine below_set ?_ GE448.out) | exact HB.out)) hb); clear BK448; clear HB; clear HO451; clear HO454; clear HO457; have HO460 := n0_; have BK448 := n1_; have HB := n2_; clear n0_ n1_ n2_; clear hb ho17))
  have n0_ := Aside0.mk (Kd.N_drew HO460.out)
  have n1_ := Aside0.mk (blk_drew BK448.out)
  have n2_ := Aside0.mk (below_drew1 HB.out)
  clear HO460
  clear BK448
  clear HB
  have HO460 := n0_
  have BK448 := n1_
  have HB := n2_
  clear n0_ n1_ n2_
  refine start_ (n := 6) (S := fun w' => w'.cell? ⟨gb448, 0, none⟩ = some (.int .i64 a1_0) ∧ w'.cell? ⟨gb448, 1, none⟩ = some (.int .i64 a1_1) ∧ w'.cell? ⟨gb448, 2, none⟩ = some (.int .i64 a1_2)) (ds := []) (bs 6 0) (by kernel_rfl) rfl rfl ⟨(blk_cell BK448.out 0).trans rfl, (blk_cell BK448.out 1).trans rfl, (blk_cell BK448.out 2).trans rfl⟩ (fun hHeld => ?_)
  generalize w16.drew = w18 at HO460 BK448 HB hHeld ⊢
  refine pure_ (i := 2) (N := some 20) (v := ?_) (a' := ?_) (bs 6 4) rfl rfl (by kernel_rfl) (fun _ _ _ h => h) (Or.inl ⟨by rfl, ?_⟩) ?_ ?_
  rotate_left
  ·intro w'
   go_simp
   with_reducible rfl
  rotate_left
  ·simp only [Act.put, List.setIfInBounds_toArray, List.set_cons_zero, List.set_cons_succ, i64_w, i32_w]
   rfl
  refine take_ (i := 0) (N := some 18) (v := ?_) (a' := ?_) (bs 6 5) rfl rfl (by kernel_rfl) (fun _ _ _ h => h) (Or.inl ⟨by rfl, ?_⟩) hHeld ?_ ?_
  rotate_left
  ·rintro w' ⟨s0, s1, s2⟩
   go_simp
   with_reducible rfl
  rotate_left
  ·simp only [Act.put, List.setIfInBounds_toArray, List.set_cons_zero, List.set_cons_succ, i64_w, i32_w]
   rfl
  refine join_ (σ := Value × Value) 2 (bs 6 15) (fun s_ => [(19, s_.1), (21, s_.2)]) (fun s_ w' => (w'.cell? ⟨gb448, 0, none⟩ = some (.int .i64 a1_0) ∧ w'.cell? ⟨gb448, 1, none⟩ = some (.int .i64 a1_1) ∧ w'.cell? ⟨gb448, 2, none⟩ = some (.int .i64 a1_2)) ∧ (Kd.N (Kd.slice 39 k39) 22 w' w.heap.size (fun k_ => some k_ ≠ (s_.1 : Value).ownBlock ∧ some k_ ≠ (s_.2 : Value).ownBlock ∧ k_ ≠ gb448) v459 y458) ∧ (Kd.R k39 39 w' w.heap.size (fun k_ => some k_ ≠ (s_.2 : Value).ownBlock ∧ k_ ≠ gb448) s_.1 y461) ∧ (Kd.R k39 39 w' w.heap.size (fun k_ => some k_ ≠ (s_.1 : Value).ownBlock ∧ k_ ≠ gb448) s_.2 t464) ∧ (w'.heap[gb448]? = some (.cells #[.int .i64 a1_0, .int .i64 a1_1, .int .i64 a1_2] 39 (0, 0))) ∧ (Below w.heap.size w w')) ?_ ?_
  rotate_left
  ·intro hCont
   refine two_ (i := 1) (j := 3) (Ni := some 19) (Nj := some 21) (bs 6 7) (bs 6 13) rfl rfl rfl rfl (by kernel_rfl) (by decide) (by decide) (fun K hK => ?_) (fun K hK => ?_)
   ·skip
    refine Kd.R_lit_step k39 _ 39 ?hg (N := 19) ?hd (xs := ([(⟨a1_0, a1_1, a1_2⟩ : S39)] : List (S39))) (inner := [.int .i64 a1_0, .int .i64 a1_1, .int .i64 a1_2]) (ok := fun _ => True) (okp := fun _ => True) ?hr ?hp (fun _ hk => hk) trivial (Below.refl _ _) (Nat.le_refl _) (by simp) ?_; (case hd => rfl); (case hg => rfl); (case hr => first | (go_simp; done) | (go_simp; rfl)); (case hp => exact (Reps.c3 (show Kd.M k39 _ _ _ (⟨a1_0, a1_1, a1_2⟩ : S39) [.int .i64 a1_0, .int .i64 a1_1, .int .i64 a1_2] from (k39_mkM _ _ _ (⟨a1_0, a1_1, a1_2⟩ : S39) )) (Reps.none _ _)))
    intro v462 w19 ho20 hb hg_ hnew_
    clear hg_ hnew_
    (first | rw [← Ny461.out] at ho20 | (simp only [Int.reduceToNat] at ho20; rw [← Ny461.out] at ho20))
    have n0_ := Aside0.mk (Kd.N_elder' (by (with_reducible repeat (first | apply Kd.N_alloc | apply Kd.N_drewN | apply Kd.N_drew)); exact HO460.out) (Kd.R_base ho20) hb)
    have n1_ := Aside0.mk (Kd.R_lower (Kd.R_newB ho20 (g := gb448) (o := .cells #[.int .i64 a1_0, .int .i64 a1_1, .int .i64 a1_2] 39 (0, 0)) (kb BK448.out)) (below_size (by repeat (first | (with_reducible first | exact HB.out | apply below_alloc | apply pw_below_drewN | apply below_drew1 | refine below_set ?_ GE448.out) | exact HB.out))))
    have n2_ := Aside0.mk (blk_below (g := gb448) (o := .cells #[.int .i64 a1_0, .int .i64 a1_1, .int .i64 a1_2] 39 (0, 0)) (kb BK448.out) hb)
    have n3_ := Aside0.mk (below_step (by repeat (first | (with_reducible first | exact HB.out | apply below_alloc | apply pw_below_drewN | apply below_drew1 | refine below_set ?_ GE448.out) | exact HB.out)) hb)
    clear HO460
    clear BK448
    clear HB
    have HO460 := n0_
    have HO463 := n1_
    have BK448 := n2_
    have HB := n3_
    clear n0_ n1_ n2_ n3_
    clear hb ho20
    refine hK.out _ _ ⟨(blk_cell BK448.out 0).trans rfl, (blk_cell BK448.out 1).trans rfl, (blk_cell BK448.out 2).trans rfl⟩ (fun hHeld => ?_)
    clear hK K
    refine norm_ (a' := ?_) ?_ ?_
    rotate_left
    ·show Act.put _ (some 19) _ = _
     simp only [Act.put, List.setIfInBounds_toArray, List.set_cons_zero, List.set_cons_succ, i64_w, i32_w]
     rfl
    refine one_ (i := 3) (N := some 21) (bs 6 15) rfl rfl (by kernel_rfl) (by decide) (fun K hK => ?_)
    refine goes_ Try.func13 (by kernel_rfl) rfl #[.slice A2 l2.length c2, .int .i64 9] (by rfl) rfl rfl (by (try simp only [List.map_toArray, List.map_cons, List.map_nil]); first | done | rfl | (simp only [List.length_drop, List.length_take]; rfl)) ?_
    with_reducible refine (worldmintref14_Lots.calls k _ _ l2 9 t464 _ ?side1 ?side2 A7.out).mono ?_
    (case side1 => repeat (first | exact (Kd.C_below HR2.out HB.out) | (with_reducible refine Kd.C_alloc ?_ _) | (with_reducible refine Kd.C_drewN ?_ _) | (with_reducible refine Kd.C_drew ?_)))
    (case side2 => exact HC2.out)
    rintro e w21 ⟨v465, rfl, ho0, hb⟩
    refine ⟨_, rfl, ?_⟩
    have n0_ := Aside0.mk (Kd.N_elder' (by (with_reducible repeat (first | apply Kd.N_alloc | apply Kd.N_drewN | apply Kd.N_drew)); exact HO460.out) (Kd.R_base ho0) hb)
    have n1_ := Aside0.mk (Kd.R_elder' (kr HO463.out) (Kd.R_base ho0) hb)
    have n2_ := Aside0.mk (Kd.R_lower (Kd.R_newB (Kd.R_new' ho0 (Kd.R_lt (kr HO463.out))) (g := gb448) (o := .cells #[.int .i64 a1_0, .int .i64 a1_1, .int .i64 a1_2] 39 (0, 0)) (kb BK448.out)) (below_size (by repeat (first | (with_reducible first | exact HB.out | apply below_alloc | apply pw_below_drewN | apply below_drew1 | refine below_set ?_ GE448.out) | exact HB.out))))
    have n3_ := Aside0.mk (blk_below (g := gb448) (o := .cells #[.int .i64 a1_0, .int .i64 a1_1, .int .i64 a1_2] 39 (0, 0)) (kb BK448.out) hb)
    have n4_ := Aside0.mk (below_step (by repeat (first | (with_reducible first | exact HB.out | apply below_alloc | apply pw_below_drewN | apply below_drew1 | refine below_set ?_ GE448.out) | exact HB.out)) hb)
    clear HO460
    clear HO463
    clear BK448
    clear HB
    have HO460 := n0_
    have HO463 := n1_
    have HO466 := n2_
    have BK448 := n3_
    have HB := n4_
    clear n0_ n1_ n2_ n3_ n4_
    (try clear hb)
    (try clear hb2)
    (try clear hk)
    (try clear hi)
    (try clear ho0)
    refine hK.out _ _ ⟨(blk_cell BK448.out 0).trans rfl, (blk_cell BK448.out 1).trans rfl, (blk_cell BK448.out 2).trans rfl⟩ (fun hHeld => ?_)
    clear hK K
    refine norm_ (a' := ?_) ?_ ?_
    rotate_left
    ·show Act.put _ (some 21) _ = _
     simp only [Act.put, List.setIfInBounds_toArray, List.set_cons_zero, List.set_cons_succ, i64_w, i32_w]
     rfl
    exact norm_ (by simp only [putAll, Act.put, List.setIfInBounds_toArray, List.set_cons_zero, List.set_cons_succ]) (hCont (v462, v465) _ ⟨hHeld, (by (with_reducible repeat (first | apply Kd.N_alloc | apply Kd.N_drewN | apply Kd.N_drew)); exact Kd.N_mono HO460.out (fun _ hk => ⟨hk.1.2, ⟨hk.2, hk.1.1⟩⟩)), (by (with_reducible repeat (first | apply Kd.R_alloc | apply Kd.R_drewN | apply Kd.R_drew)); exact Kd.R_mono HO463.out (fun _ hk => ⟨hk.2, hk.1.2⟩)), (by (with_reducible repeat (first | apply Kd.R_alloc | apply Kd.R_drewN | apply Kd.R_drew)); exact Kd.R_mono HO466.out (fun _ hk => ⟨hk.1.2, hk.2⟩)), (kb BK448.out), (by repeat (first | (with_reducible first | exact HB.out | apply below_alloc | apply pw_below_drewN | apply below_drew1 | refine below_set ?_ GE448.out) | exact HB.out))⟩)
   ·skip
    refine goes_ Try.func13 (by kernel_rfl) rfl #[.slice A2 l2.length c2, .int .i64 9] (by rfl) rfl rfl (by (try simp only [List.map_toArray, List.map_cons, List.map_nil]); first | done | rfl | (simp only [List.length_drop, List.length_take]; rfl)) ?_
    with_reducible refine (worldmintref14_Lots.calls k _ _ l2 9 t464 _ ?side1 ?side2 A7.out).mono ?_
    (case side1 => repeat (first | exact (Kd.C_below HR2.out HB.out) | (with_reducible refine Kd.C_alloc ?_ _) | (with_reducible refine Kd.C_drewN ?_ _) | (with_reducible refine Kd.C_drew ?_)))
    (case side2 => exact HC2.out)
    rintro e w19 ⟨v465, rfl, ho0, hb⟩
    refine ⟨_, rfl, ?_⟩
    have n0_ := Aside0.mk (Kd.N_elder' (by (with_reducible repeat (first | apply Kd.N_alloc | apply Kd.N_drewN | apply Kd.N_drew)); exact HO460.out) (Kd.R_base ho0) hb)
    have n1_ := Aside0.mk (Kd.R_lower (Kd.R_newB ho0 (g := gb448) (o := .cells #[.int .i64 a1_0, .int .i64 a1_1, .int .i64 a1_2] 39 (0, 0)) (kb BK448.out)) (below_size (by repeat (first | (with_reducible first | exact HB.out | apply below_alloc | apply pw_below_drewN | apply below_drew1 | refine below_set ?_ GE448.out) | exact HB.out))))
    have n2_ := Aside0.mk (blk_below (g := gb448) (o := .cells #[.int .i64 a1_0, .int .i64 a1_1, .int .i64 a1_2] 39 (0, 0)) (kb BK448.out) hb)
    have n3_ := Aside0.mk (below_step (by repeat (first | (with_reducible first | exact HB.out | apply below_alloc | apply pw_below_drewN | apply below_drew1 | refine below_set ?_ GE448.out) | exact HB.out)) hb)
    clear HO460
    clear BK448
    clear HB
    have HO460 := n0_
    have HO466 := n1_
    have BK448 := n2_
    have HB := n3_
    clear n0_ n1_ n2_ n3_
    (try clear hb)
    (try clear hb2)
    (try clear hk)
    (try clear hi)
    (try clear ho0)
    refine hK.out _ _ ⟨(blk_cell BK448.out 0).trans rfl, (blk_cell BK448.out 1).trans rfl, (blk_cell BK448.out 2).trans rfl⟩ (fun hHeld => ?_)
    clear hK K
    refine norm_ (a' := ?_) ?_ ?_
    rotate_left
    ·show Act.put _ (some 21) _ = _
     simp only [Act.put, List.setIfInBounds_toArray, List.set_cons_zero, List.set_cons_succ, i64_w, i32_w]
     rfl
    refine one_ (i := 1) (N := some 19) (bs 6 15) rfl rfl (by kernel_rfl) (by decide) (fun K hK => ?_)
    refine Kd.R_lit_step k39 _ 39 ?hg (N := 19) ?hd (xs := ([(⟨a1_0, a1_1, a1_2⟩ : S39)] : List (S39))) (inner := [.int .i64 a1_0, .int .i64 a1_1, .int .i64 a1_2]) (ok := fun _ => True) (okp := fun _ => True) ?hr ?hp (fun _ hk => hk) trivial (Below.refl _ _) (Nat.le_refl _) (by simp) ?_; (case hd => rfl); (case hg => rfl); (case hr => first | (go_simp; done) | (go_simp; rfl)); (case hp => exact (Reps.c3 (show Kd.M k39 _ _ _ (⟨a1_0, a1_1, a1_2⟩ : S39) [.int .i64 a1_0, .int .i64 a1_1, .int .i64 a1_2] from (k39_mkM _ _ _ (⟨a1_0, a1_1, a1_2⟩ : S39) )) (Reps.none _ _)))
    intro v462 w20 ho21 hb hg_ hnew_
    clear hg_ hnew_
    (first | rw [← Ny461.out] at ho21 | (simp only [Int.reduceToNat] at ho21; rw [← Ny461.out] at ho21))
    have n0_ := Aside0.mk (Kd.N_elder' (by (with_reducible repeat (first | apply Kd.N_alloc | apply Kd.N_drewN | apply Kd.N_drew)); exact HO460.out) (Kd.R_base ho21) hb)
    have n1_ := Aside0.mk (Kd.R_elder' (kr HO466.out) (Kd.R_base ho21) hb)
    have n2_ := Aside0.mk (Kd.R_lower (Kd.R_newB (Kd.R_new' ho21 (Kd.R_lt (kr HO466.out))) (g := gb448) (o := .cells #[.int .i64 a1_0, .int .i64 a1_1, .int .i64 a1_2] 39 (0, 0)) (kb BK448.out)) (below_size (by repeat (first | (with_reducible first | exact HB.out | apply below_alloc | apply pw_below_drewN | apply below_drew1 | refine below_set ?_ GE448.out) | exact HB.out))))
    have n3_ := Aside0.mk (blk_below (g := gb448) (o := .cells #[.int .i64 a1_0, .int .i64 a1_1, .int .i64 a1_2] 39 (0, 0)) (kb BK448.out) hb)
    have n4_ := Aside0.mk (below_step (by repeat (first | (with_reducible first | exact HB.out | apply below_alloc | apply pw_below_drewN | apply below_drew1 | refine below_set ?_ GE448.out) | exact HB.out)) hb)
    clear HO460
    clear HO466
    clear BK448
    clear HB
    have HO460 := n0_
    have HO466 := n1_
    have HO463 := n2_
    have BK448 := n3_
    have HB := n4_
    clear n0_ n1_ n2_ n3_ n4_
    clear hb ho21
    refine hK.out _ _ ⟨(blk_cell BK448.out 0).trans rfl, (blk_cell BK448.out 1).trans rfl, (blk_cell BK448.out 2).trans rfl⟩ (fun hHeld => ?_)
    clear hK K
    refine norm_ (a' := ?_) ?_ ?_
    rotate_left
    ·show Act.put _ (some 19) _ = _
     simp only [Act.put, List.setIfInBounds_toArray, List.set_cons_zero, List.set_cons_succ, i64_w, i32_w]
     rfl
    exact norm_ (by simp only [putAll, Act.put, List.setIfInBounds_toArray, List.set_cons_zero, List.set_cons_succ]) (hCont (v462, v465) _ ⟨hHeld, (by (with_reducible repeat (first | apply Kd.N_alloc | apply Kd.N_drewN | apply Kd.N_drew)); exact Kd.N_mono HO460.out (fun _ hk => ⟨hk.2, ⟨hk.1.2, hk.1.1⟩⟩)), (by (with_reducible repeat (first | apply Kd.R_alloc | apply Kd.R_drewN | apply Kd.R_drew)); exact Kd.R_mono HO463.out (fun _ hk => ⟨hk.1.2, hk.2⟩)), (by (with_reducible repeat (first | apply Kd.R_alloc | apply Kd.R_drewN | apply Kd.R_drew)); exact Kd.R_mono HO466.out (fun _ hk => ⟨hk.2, hk.1.2⟩)), (kb BK448.out), (by repeat (first | (with_reducible first | exact HB.out | apply below_alloc | apply pw_below_drewN | apply below_drew1 | refine below_set ?_ GE448.out) | exact HB.out))⟩)
  rintro ⟨v462, v465⟩ w22 ⟨hS_, h0_, h1_, h2_, h3_, h4_⟩
  have n0_ : Aside0 (Kd.N (Kd.slice 39 k39) 22 w22 w.heap.size (fun k_ => some k_ ≠ (v462 : Value).ownBlock ∧ some k_ ≠ (v465 : Value).ownBlock ∧ k_ ≠ gb448) v459 y458) := ⟨h0_⟩
  have n1_ : Aside0 (Kd.R k39 39 w22 w.heap.size (fun k_ => some k_ ≠ (v465 : Value).ownBlock ∧ k_ ≠ gb448) v462 y461) := ⟨h1_⟩
  have n2_ : Aside0 (Kd.R k39 39 w22 w.heap.size (fun k_ => some k_ ≠ (v462 : Value).ownBlock ∧ k_ ≠ gb448) v465 t464) := ⟨h2_⟩
  have n3_ : Aside0 (w22.heap[gb448]? = some (.cells #[.int .i64 a1_0, .int .i64 a1_1, .int .i64 a1_2] 39 (0, 0))) := ⟨h3_⟩
  have n4_ : Aside0 (Below w.heap.size w w22) := ⟨h4_⟩
  clear HO460
  clear BK448
  clear HB
  clear h0_ h1_ h2_ h3_ h4_
  have HO460 := n0_
  have HO463 := n1_
  have HO466 := n2_
  have BK448 := n3_
  have HB := n4_
  clear n0_ n1_ n2_ n3_ n4_
  have hHeld : w22.cell? ⟨gb448, 0, none⟩ = some (.int .i64 a1_0) ∧ w22.cell? ⟨gb448, 1, none⟩ = some (.int .i64 a1_1) ∧ w22.cell? ⟨gb448, 2, none⟩ = some (.int .i64 a1_2) := hS_
  obtain ⟨Ao24, co24, eo24⟩ := Kd.R_slice HO466.out
  (first | subst eo24 | (injection eo24 with f1_ f2_ f3_; have f4_ := f1_.symm; have f5_ := f3_.symm; clear f1_ f2_ f3_; subst f4_; subst f5_))
  refine norm_ (a' := ?_) ?_ ?_
  rotate_left
  ·simp only [putAll, Act.put, List.setIfInBounds_toArray, List.set_cons_zero, List.set_cons_succ]
   rfl
  refine one_ (i := 4) (N := some 22) (bs 6 31) rfl rfl (by kernel_rfl) (by decide) (fun K hK => ?_)
  refine Kd.R_append_rows_step k39 (w0 := w) w.heap.size (by rfl) (.tmp 19) (.tmp 21) 22 39 (.agg #[(.int .i64 0), (.int .i64 0), (.int .i64 0)]) 24 rfl Try.underlying22 info39 rfl (by decide) (by omega) v462 y461 t464 _ _ _ (fun k_ => some k_ ≠ (.slice Ao24 t464.length co24 : Value).ownBlock ∧ k_ ≠ gb448) (fun _ => False) rfl rfl ?aO ?aR (fun _ _ h => h) (fun _ h => h.elim) ?aF ?aB ?aS ?aL ?_
  (case aR => repeat (first | exact (Kd.R_reads' HO466.out).2.2 | (with_reducible refine Kd.C_alloc ?_ _) | (with_reducible refine Kd.C_drewN ?_ _) | (with_reducible refine Kd.C_drew ?_)))
  (case aB => exact (by repeat (first | (with_reducible first | exact HB.out | apply below_alloc | apply pw_below_drewN | apply below_drew1 | refine below_set ?_ GE448.out) | exact HB.out)))
  (case aF => exact (fun k_ hk => ⟨Kd.fresh' (Kd.R_lt (kr HO466.out)) k_ hk, Kd.freshB (g := gb448) (o := .cells #[.int .i64 a1_0, .int .i64 a1_1, .int .i64 a1_2] 39 (0, 0)) (kb BK448.out) k_ hk⟩))
  (case aO => exact (kr HO463.out))
  (case aS => exact (below_size (by repeat (first | (with_reducible first | exact HB.out | apply below_alloc | apply pw_below_drewN | apply below_drew1 | refine below_set ?_ GE448.out) | exact HB.out))))
  (case aL => have := LMc8.out; omega)
  intro v468 w23 ho hb hg hat
  rw [← Ny467.out] at ho
  have n0_ := Aside0.mk (blk_grown (g := gb448) (o := .cells #[.int .i64 a1_0, .int .i64 a1_1, .int .i64 a1_2] 39 (0, 0)) (kb BK448.out) hg (Kd.R_away HO463.out (fun _ hk => hk.2)))
  have n1_ := Aside0.mk (Kd.N_afterv (ok := (fun k_ => some k_ ≠ (.slice Ao24 t464.length co24 : Value).ownBlock ∧ k_ ≠ gb448)) (by (with_reducible repeat (first | apply Kd.N_alloc | apply Kd.N_drewN | apply Kd.N_drew)); exact Kd.N_mono HO460.out (fun _ hk => ⟨⟨hk.2.1, hk.2.2⟩, hk.1⟩)) hg hat)
  have n2_ := Aside0.mk (Kd.R_after (ok := (fun k_ => k_ ≠ gb448)) (by (with_reducible repeat (first | apply Kd.R_alloc | apply Kd.R_drewN | apply Kd.R_drew)); exact Kd.R_mono HO466.out (fun _ hk => ⟨hk.2, hk.1⟩)) hg hat)
  have n3_ := Aside0.mk (hb)
  have n4_ := Aside0.mk (ho)
  clear BK448
  clear HO460
  clear HO466
  clear HB
  clear HO463
  have BK448 := n0_
  have HO460 := n1_
  have HO466 := n2_
  have HB := n3_
  have HO469 := n4_
  clear n0_ n1_ n2_ n3_ n4_
  clear ho hb hg hat
  refine hK.out _ _ ⟨(blk_cell BK448.out 0).trans rfl, (blk_cell BK448.out 1).trans rfl, (blk_cell BK448.out 2).trans rfl⟩ (fun hHeld => ?_)
  clear hK K
  refine norm_ (a' := ?_) ?_ ?_
  rotate_left
  ·show Act.put _ (some 22) _ = _
   simp only [Act.put, List.setIfInBounds_toArray, List.set_cons_zero, List.set_cons_succ, i64_w, i32_w]
   rfl
  refine pure_ (i := 5) (N := some 8) (v := ?_) (a' := ?_) (bs 6 63) rfl rfl (by kernel_rfl) (fun _ _ _ h => h) (Or.inl ⟨by rfl, ?_⟩) ?_ ?_
  rotate_left
  ·intro w'
   go_simp
   with_reducible rfl
  rotate_left
  ·simp only [Act.put, List.setIfInBounds_toArray, List.set_cons_zero, List.set_cons_succ, i64_w, i32_w]
   rfl
  refine done_ (by kernel_rfl) ?_
  try go_wp2
  go_loopg [9] k (fun kq v9 w' => ∃ (x9_1 : Int), v9 = .int .i64 x9_1 ∧ Aside0 (worldmintlaw14_LotsStacks.l0 kq y458 y467 x9_1 = some r) ∧ Aside0 (kq ≤ k) ∧ Aside0 (Kd.N (Kd.slice 39 k39) 22 w' w.heap.size (fun k_ => some k_ ≠ (v468 : Value).ownBlock ∧ k_ ≠ gb448) v459 y458) ∧ Aside0 (Kd.R k39 39 w' w.heap.size (fun k_ => k_ ≠ gb448) v468 y467) ∧ Aside0 (w'.heap[gb448]? = some (.cells #[.int .i64 a1_0, .int .i64 a1_1, .int .i64 a1_2] 39 (0, 0))) ∧ Aside0 (Below w.heap.size w w'))
  case atStart => exact ⟨(0), eqs, H', ⟨Nat.le_refl _⟩, ⟨by (with_reducible repeat (first | apply Kd.N_alloc | apply Kd.N_drewN | apply Kd.N_drew)); exact Kd.N_mono HO460.out (fun _ hk => ⟨hk.2, hk.1.2⟩)⟩, ⟨by (with_reducible repeat (first | apply Kd.R_alloc | apply Kd.R_drewN | apply Kd.R_drew)); exact Kd.R_mono HO469.out (fun _ hk => hk.2)⟩, ⟨kb BK448.out⟩, ⟨by repeat (first | (with_reducible first | exact HB.out | apply below_alloc | apply pw_below_drewN | apply below_drew1 | refine below_set ?_ GE448.out) | exact HB.out)⟩⟩
  case round =>
   clear H'
   try clear c2
   try clear c3
   try clear c8
   obtain ⟨x9_1, rfl, HA, HK1, HO_7, HO_8, BK448, HB⟩ := hrel
   cases gk with
   | zero => exact absurd HA.out (by simp [worldmintlaw14_LotsStacks.l0])
   | succ k1 =>
    have H := HA.out
    clear HA
    simp only [worldmintlaw14_LotsStacks.l0] at H
    by_cases c25 : x9_1 < 3
    ·rw [if_pos c25] at H
     have c25b0 : decide (x9_1 < 3) = true := decide_eq_true c25
     clear c25
     have HC26 := Aside0.mk H
     clear H
     go_upto_region 6 with (fail)
     go_cut [50] (fun v50 wc => ∃ (kq : Nat) (x50_25 : Bool), v50 = .bool x50_25 ∧ Aside0 (worldmintlaw14_LotsStacks.j1 kq y458 y467 x9_1 x50_25 = some r) ∧ Aside0 (kq ≤ k1) ∧ Aside0 (Kd.N (Kd.slice 39 k39) 22 wc w.heap.size (fun k_ => some k_ ≠ (v468 : Value).ownBlock ∧ k_ ≠ gb448) v459 y458) ∧ Aside0 (Kd.R k39 39 wc w.heap.size (fun k_ => k_ ≠ gb448) v468 y467) ∧ Aside0 (wc.heap[gb448]? = some (.cells #[.int .i64 a1_0, .int .i64 a1_1, .int .i64 a1_2] 39 (0, 0))) ∧ Aside0 (Below w.heap.size w wc))
     case first =>
      have H := HC26.out
      clear HC26
      by_cases c27 : 0 ≤ x9_1
      ·rw [if_pos c27] at H
       have c27b0 : decide (0 ≤ x9_1) = true := decide_eq_true c27
       clear c27
       (first | rw [c27b0] | (simp only [i64_w, i32_w]; rw [c27b0]) | skip)
       by_cases c28 : x9_1 < (y458.length : Int)
       ·rw [if_pos c28] at H
        have c28b0 : decide (x9_1 < (y458.length : Int)) = true := decide_eq_true c28
        clear c28
        replace H := Option.bind_eq_some_iff.mp H
        obtain ⟨t471, A290, H⟩ := H
        replace H : ((worldmintref14_Valid.f k1 (rd_L2 y458 x9_1)).bind fun t473 => (if (t471 != t473) = true then (worldmintlaw14_LotsStacks.j1 k1 y458 y467 x9_1 true) else ((lots_Total.f k1 (rd_L2 y458 x9_1)).bind fun t475 => ((worldmintref14_Total.f k1 (rd_L2 y458 x9_1)).bind fun t477 => (worldmintlaw14_LotsStacks.j1 k1 y458 y467 x9_1 (t475 != t477)))))) = some r := H
        have A29 := Aside0.mk A290
        clear A290
        replace H := Option.bind_eq_some_iff.mp H
        obtain ⟨t473, A300, H⟩ := H
        replace H : (if (t471 != t473) = true then (worldmintlaw14_LotsStacks.j1 k1 y458 y467 x9_1 true) else ((lots_Total.f k1 (rd_L2 y458 x9_1)).bind fun t475 => ((worldmintref14_Total.f k1 (rd_L2 y458 x9_1)).bind fun t477 => (worldmintlaw14_LotsStacks.j1 k1 y458 y467 x9_1 (t475 != t477))))) = some r := H
        have A30 := Aside0.mk A300
        clear A300
        by_cases c31 : (t471 != t473) = true
        ·rw [if_pos c31] at H
         have c31b0 : (t471 != t473) = true := c31
         (try (have c31b1 : decide (t471 = t473) = false := by simpa using c31))
         (try (have c31b2 : (t471 == t473) = false := by simpa using c31))
         (try (have c31b3 : ¬ (t471 = t473) := by simpa using c31))
         clear c31
         have H' := Aside0.mk H
         clear H
         try go_wp2
         have n0_ := Aside0.mk (Kd.N_drew HO_7.out)
         have n1_ := Aside0.mk (Kd.R_drew HO_8.out)
         have n2_ := Aside0.mk (blk_drew BK448.out)
         have n3_ := Aside0.mk (below_drew1 HB.out)
         clear HO_7
         clear HO_8
         clear BK448
         clear HB
         have HO_7 := n0_
         have HO_8 := n1_
         have BK448 := n2_
         have HB := n3_
         clear n0_ n1_ n2_ n3_
         obtain ⟨Ao33, co33, eo33⟩ := Kd.N_slice HO_7.out
         (first | subst eo33 | (injection eo33 with f1_ f2_ f3_; have f4_ := f1_.symm; have f5_ := f3_.symm; clear f1_ f2_ f3_; subst f4_; subst f5_))
         have p470 : 0 ≤ (x9_1 : Int) := oda
         have q470 : x9_1 < (y458.length : Int) := oda
         obtain ⟨ad470, A470_0, c470_0, e470, hx470_0, hl470_0, hi470_0⟩ := at_L2 (Kd.N_reads' HO_7.out).2.2 x9_1 p470 q470
         cases e470
         obtain ⟨ce470, hce470, hMe470, hcc470⟩ := Kd.N_get HO_7.out [] x9_1 p470 (by first | exact q470 | exact oda | (have e_ := (Kd.N_reads' HO_7.out).1; omega))
         obtain ⟨ua470_0, uc470_0, rfl, ul470_0, ge470_0⟩ := Kd.FK_slice_open hMe470
         have hv470_0 := hcc470 0 _ rfl
         rw [Nat.add_zero, show ((Kd.slice 39 k39)).sz = 1 from rfl, Nat.mul_one] at hv470_0
         replace hv470_0 := Option.some.inj (hv470_0.symm.trans hx470_0)
         injection hv470_0 with hva_ hvn_ hvc_
         rw [hva_] at ge470_0
         rw [hvc_] at ul470_0
         have HL470_0 := Aside0.mk (show Kd.V k39 39 _ w.heap.size _ _ (rd_L2 y458 x9_1) from Kd.V_mk ul470_0 ge470_0)
         clear hva_ hvn_ hvc_ ge470_0 ul470_0
         clear hcc470 hce470
         have HR470_0 := Aside0.mk hi470_0
         have HC470_0 := Aside0.mk hl470_0
         clear hi470_0 hl470_0
         replace p470 := eq_true p470
         replace q470 := eq_true q470
         have p472 : 0 ≤ (x9_1 : Int) := oda
         have q472 : x9_1 < (y458.length : Int) := oda
         obtain ⟨ad472, A472_0, c472_0, e472, hx472_0, hl472_0, hi472_0⟩ := at_L2 (Kd.N_reads' HO_7.out).2.2 x9_1 p472 q472
         obtain rfl : ad470 = ad472 := (by injection e472)
         obtain ⟨ce472, hce472, hMe472, hcc472⟩ := Kd.N_get HO_7.out [] x9_1 p472 (by first | exact q472 | exact oda | (have e_ := (Kd.N_reads' HO_7.out).1; omega))
         obtain ⟨ua472_0, uc472_0, rfl, ul472_0, ge472_0⟩ := Kd.FK_slice_open hMe472
         have hv472_0 := hcc472 0 _ rfl
         rw [Nat.add_zero, show ((Kd.slice 39 k39)).sz = 1 from rfl, Nat.mul_one] at hv472_0
         replace hv472_0 := Option.some.inj (hv472_0.symm.trans hx472_0)
         injection hv472_0 with hva_ hvn_ hvc_
         rw [hva_] at ge472_0
         rw [hvc_] at ul472_0
         have HL472_0 := Aside0.mk (show Kd.V k39 39 _ w.heap.size _ _ (rd_L2 y458 x9_1) from Kd.V_mk ul472_0 ge472_0)
         clear hva_ hvn_ hvc_ ge472_0 ul472_0
         clear hcc472 hce472
         have HR472_0 := Aside0.mk hi472_0
         have HC472_0 := Aside0.mk hl472_0
         clear hi472_0 hl472_0
         replace p472 := eq_true p472
         replace q472 := eq_true q472
         have ea_ := Option.some.inj (hx470_0.symm.trans hx472_0)
         injection ea_ with ea_ en_ ec_
         subst ea_
         subst ec_
         clear en_
         refine start_ (n := 24) (S := fun w' => w'.cell? (ad470.add (x9_1).toNat) = some (.slice A470_0 (rd_L2 y458 x9_1).length c470_0) ∧ w'.cell? (ad470.add (x9_1).toNat) = some (.slice A470_0 (rd_L2 y458 x9_1).length c470_0)) (ds := []) (bs 24 0) (by kernel_rfl) rfl rfl ⟨hx470_0, hx472_0⟩ (fun hHeld => ?_); refine with_tabW worldmintlaw14_LotsStacks.tab6 worldmintlaw14_LotsStacks.bits6 (fun HT_ HW_ => ?_)
         generalize wr.drew = w32 at HO_7 HO_8 BK448 HB HL470_0 HL472_0 HR470_0 HR472_0 hx470_0 hx472_0 hHeld ⊢
         refine pu 0 27 (bs 24 1) HT_ ?_
         refine pu 1 28 (bs 24 3) HT_ ?_
         refine pu 2 29 (bs 24 7) HT_ ?_
         refine pu 5 32 (bs 24 39) HT_ ?_
         refine pu 6 33 (bs 24 103) HT_ ?_
         refine pu 7 34 (bs 24 231) HT_ ?_
         refine take_ (i := 3) (N := some 30) (v := ?_) (a' := ?_) (bs 24 239) rfl rfl (take_ofW HT_.out HW_.out (by kernel_rfl)) (fun _ _ _ h => h) (Or.inl ⟨by rfl, ?_⟩) hHeld ?_ ?_
         rotate_left
         ·rintro w' ⟨s0, s1⟩
          go_simp
          with_reducible rfl
         rotate_left
         ·simp only [Act.put, List.setIfInBounds_toArray, List.set_cons_zero, List.set_cons_succ, i64_w, i32_w]
          rfl
         refine take_ (i := 8) (N := some 35) (v := ?_) (a' := ?_) (bs 24 495) rfl rfl (take_ofW HT_.out HW_.out (by kernel_rfl)) (fun _ _ _ h => h) (Or.inl ⟨by rfl, ?_⟩) hHeld ?_ ?_
         rotate_left
         ·rintro w' ⟨s0, s1⟩
          go_simp
          with_reducible rfl
         rotate_left
         ·simp only [Act.put, List.setIfInBounds_toArray, List.set_cons_zero, List.set_cons_succ, i64_w, i32_w]
          rfl
         refine one_ (i := 4) (N := some 31) (bs 24 511) rfl rfl (one_of HT_.out (by kernel_rfl)) (by decide) (fun K hK => ?_)
         refine goes_ Try.func22 (by kernel_rfl) rfl #[.slice A470_0 (rd_L2 y458 x9_1).length c470_0] (by rfl) rfl rfl (by (try simp only [List.map_toArray, List.map_cons, List.map_nil]); first | done | rfl | (simp only [List.length_drop, List.length_take]; rfl)) ?_
         with_reducible refine (lots_Valid.calls _ _ (rd_L2 y458 x9_1) t471 _ ?side1 ?side2 A29.out).mono ?_
         (case side1 => repeat (first | exact (by repeat (first | (with_reducible exact HR470_0.out) | (with_reducible refine Kd.C_alloc ?_ _) | (with_reducible refine Kd.C_drewN ?_ _) | (with_reducible refine Kd.C_drew ?_) | exact HR470_0.out)) | (with_reducible refine Kd.C_alloc ?_ _) | (with_reducible refine Kd.C_drewN ?_ _) | (with_reducible refine Kd.C_drew ?_)))
         (case side2 => exact HC470_0.out)
         rintro e w34 ⟨rfl, hb⟩
         have HS0_ := (hb.cell (World.block_lt_of_cell? _ _ (hHeld.1))).trans (hHeld.1)
         have HS1_ := (hb.cell (World.block_lt_of_cell? _ _ (hHeld.2))).trans (hHeld.2)
         refine ⟨_, rfl, ?_⟩
         have n0_ := Aside0.mk (Kd.N_below (by (with_reducible repeat (first | apply Kd.N_alloc | apply Kd.N_drewN | apply Kd.N_drew)); exact HO_7.out) hb)
         have n1_ := Aside0.mk (Kd.R_below (kr HO_8.out) hb)
         have n2_ := Aside0.mk (Kd.V_below (by (with_reducible repeat (first | apply Kd.V_alloc | apply Kd.V_drewN | apply Kd.V_drew)); exact HL470_0.out) hb)
         have n3_ := Aside0.mk (Kd.V_below (by (with_reducible repeat (first | apply Kd.V_alloc | apply Kd.V_drewN | apply Kd.V_drew)); exact HL472_0.out) hb)
         have n4_ := Aside0.mk (blk_below (g := gb448) (o := .cells #[.int .i64 a1_0, .int .i64 a1_1, .int .i64 a1_2] 39 (0, 0)) (kb BK448.out) hb)
         have n5_ := Aside0.mk (Kd.C_below (by repeat (first | (with_reducible exact HR470_0.out) | (with_reducible refine Kd.C_alloc ?_ _) | (with_reducible refine Kd.C_drewN ?_ _) | (with_reducible refine Kd.C_drew ?_) | exact HR470_0.out)) hb)
         have n6_ := Aside0.mk (Kd.C_below (by repeat (first | (with_reducible exact HR472_0.out) | (with_reducible refine Kd.C_alloc ?_ _) | (with_reducible refine Kd.C_drewN ?_ _) | (with_reducible refine Kd.C_drew ?_) | exact HR472_0.out)) hb)
         have n7_ := Aside0.mk (below_step (by repeat (first | (with_reducible first | exact HB.out | apply below_alloc | apply pw_below_drewN | apply below_drew1 | refine below_set ?_ GE448.out) | exact HB.out)) hb)
         clear HO_7
         clear HO_8
         clear HL470_0
         clear HL472_0
         clear BK448
         clear HR470_0
         clear HR472_0
         clear HB
         have HO_7 := n0_
         have HO_8 := n1_
         have HL470_0 := n2_
         have HL472_0 := n3_
         have BK448 := n4_
         have HR470_0 := n5_
         have HR472_0 := n6_
         have HB := n7_
         clear n0_ n1_ n2_ n3_ n4_ n5_ n6_ n7_
         (try clear hb)
         (try clear hb2)
         (try clear hk)
         (try clear hi)
         refine hK.out _ _ ⟨HS0_, HS1_⟩ (fun hHeld => ?_)
         clear hK K
         refine norm_ (a' := ?_) ?_ ?_
         rotate_left
         ·show Act.put _ (some 31) _ = _
          simp only [Act.put, List.setIfInBounds_toArray, List.set_cons_zero, List.set_cons_succ, i64_w, i32_w]
          rfl
         refine one_ (i := 9) (N := some 36) (bs 24 1023) rfl rfl (one_of HT_.out (by kernel_rfl)) (by decide) (fun K hK => ?_)
         refine goes_ Try.func23 (by kernel_rfl) rfl #[.slice A470_0 (rd_L2 y458 x9_1).length c470_0] (by rfl) rfl rfl (by (try simp only [List.map_toArray, List.map_cons, List.map_nil]); first | done | rfl | (simp only [List.length_drop, List.length_take]; rfl)) ?_
         with_reducible refine (worldmintref14_Valid.calls k1 _ _ (rd_L2 y458 x9_1) t473 _ ?side1 ?side2 A30.out).mono ?_
         (case side1 => repeat (first | exact (by repeat (first | (with_reducible exact HR472_0.out) | (with_reducible refine Kd.C_alloc ?_ _) | (with_reducible refine Kd.C_drewN ?_ _) | (with_reducible refine Kd.C_drew ?_) | exact HR472_0.out)) | (with_reducible refine Kd.C_alloc ?_ _) | (with_reducible refine Kd.C_drewN ?_ _) | (with_reducible refine Kd.C_drew ?_)))
         (case side2 => exact HC472_0.out)
         rintro e w35 ⟨rfl, hb⟩
         have HS0_ := (hb.cell (World.block_lt_of_cell? _ _ (hHeld.1))).trans (hHeld.1)
         have HS1_ := (hb.cell (World.block_lt_of_cell? _ _ (hHeld.2))).trans (hHeld.2)
         refine ⟨_, rfl, ?_⟩
         have n0_ := Aside0.mk (Kd.N_below (by (with_reducible repeat (first | apply Kd.N_alloc | apply Kd.N_drewN | apply Kd.N_drew)); exact HO_7.out) hb)
         have n1_ := Aside0.mk (Kd.R_below (kr HO_8.out) hb)
         have n2_ := Aside0.mk (Kd.V_below (by (with_reducible repeat (first | apply Kd.V_alloc | apply Kd.V_drewN | apply Kd.V_drew)); exact HL470_0.out) hb)
         have n3_ := Aside0.mk (Kd.V_below (by (with_reducible repeat (first | apply Kd.V_alloc | apply Kd.V_drewN | apply Kd.V_drew)); exact HL472_0.out) hb)
         have n4_ := Aside0.mk (blk_below (g := gb448) (o := .cells #[.int .i64 a1_0, .int .i64 a1_1, .int .i64 a1_2] 39 (0, 0)) (kb BK448.out) hb)
         have n5_ := Aside0.mk (Kd.C_below (by repeat (first | (with_reducible exact HR470_0.out) | (with_reducible refine Kd.C_alloc ?_ _) | (with_reducible refine Kd.C_drewN ?_ _) | (with_reducible refine Kd.C_drew ?_) | exact HR470_0.out)) hb)
         have n6_ := Aside0.mk (Kd.C_below (by repeat (first | (with_reducible exact HR472_0.out) | (with_reducible refine Kd.C_alloc ?_ _) | (with_reducible refine Kd.C_drewN ?_ _) | (with_reducible refine Kd.C_drew ?_) | exact HR472_0.out)) hb)
         have n7_ := Aside0.mk (below_step (by repeat (first | (with_reducible first | exact HB.out | apply below_alloc | apply pw_below_drewN | apply below_drew1 | refine below_set ?_ GE448.out) | exact HB.out)) hb)
         clear HO_7
         clear HO_8
         clear HL470_0
         clear HL472_0
         clear BK448
         clear HR470_0
         clear HR472_0
         clear HB
         have HO_7 := n0_
         have HO_8 := n1_
         have HL470_0 := n2_
         have HL472_0 := n3_
         have BK448 := n4_
         have HR470_0 := n5_
         have HR472_0 := n6_
         have HB := n7_
         clear n0_ n1_ n2_ n3_ n4_ n5_ n6_ n7_
         (try clear hb)
         (try clear hb2)
         (try clear hk)
         (try clear hi)
         refine hK.out _ _ ⟨HS0_, HS1_⟩ (fun hHeld => ?_)
         clear hK K
         refine norm_ (a' := ?_) ?_ ?_
         rotate_left
         ·show Act.put _ (some 36) _ = _
          simp only [Act.put, List.setIfInBounds_toArray, List.set_cons_zero, List.set_cons_succ, i64_w, i32_w]
          rfl
         refine pu 10 37 (bs 24 2047) HT_ ?_
         refine pu 11 38 (bs 24 4095) HT_ ?_
         refine pure_ (i := 12) (N := some 39) (v := undef) (a' := ?_) (bs 24 8191) rfl rfl (any_of HT_.out (by kernel_rfl)) (fun _ _ _ h => h) (Or.inr ⟨by rfl, rfl⟩) ?_ ?_
         rotate_left
         ·simp only [Act.put, List.setIfInBounds_toArray, List.set_cons_zero, List.set_cons_succ, i64_w, i32_w]
          rfl
         refine pure_ (i := 13) (N := some 40) (v := undef) (a' := ?_) (bs 24 16383) rfl rfl (any_of HT_.out (by kernel_rfl)) (fun _ _ _ h => h) (Or.inr ⟨by rfl, rfl⟩) ?_ ?_
         rotate_left
         ·simp only [Act.put, List.setIfInBounds_toArray, List.set_cons_zero, List.set_cons_succ, i64_w, i32_w]
          rfl
         refine pure_ (i := 14) (N := some 41) (v := undef) (a' := ?_) (bs 24 32767) rfl rfl (any_of HT_.out (by kernel_rfl)) (fun _ _ _ h => h) (Or.inr ⟨by rfl, rfl⟩) ?_ ?_
         rotate_left
         ·simp only [Act.put, List.setIfInBounds_toArray, List.set_cons_zero, List.set_cons_succ, i64_w, i32_w]
          rfl
         refine pure_ (i := 15) (N := some 42) (v := undef) (a' := ?_) (bs 24 65535) rfl rfl (any_of HT_.out (by kernel_rfl)) (fun _ _ _ h => h) (Or.inr ⟨by rfl, rfl⟩) ?_ ?_
         rotate_left
         ·simp only [Act.put, List.setIfInBounds_toArray, List.set_cons_zero, List.set_cons_succ, i64_w, i32_w]
          rfl
         refine pure_ (i := 16) (N := some 43) (v := undef) (a' := ?_) (bs 24 131071) rfl rfl (any_of HT_.out (by kernel_rfl)) (fun _ _ _ h => h) (Or.inr ⟨by rfl, rfl⟩) ?_ ?_
         rotate_left
         ·simp only [Act.put, List.setIfInBounds_toArray, List.set_cons_zero, List.set_cons_succ, i64_w, i32_w]
          rfl
         refine pure_ (i := 17) (N := some 44) (v := undef) (a' := ?_) (bs 24 262143) rfl rfl (any_of HT_.out (by kernel_rfl)) (fun _ _ _ h => h) (Or.inr ⟨by rfl, rfl⟩) ?_ ?_
         rotate_left
         ·simp only [Act.put, List.setIfInBounds_toArray, List.set_cons_zero, List.set_cons_succ, i64_w, i32_w]
          rfl
         refine pure_ (i := 18) (N := some 45) (v := undef) (a' := ?_) (bs 24 524287) rfl rfl (any_of HT_.out (by kernel_rfl)) (fun _ _ _ h => h) (Or.inr ⟨by rfl, rfl⟩) ?_ ?_
         rotate_left
         ·simp only [Act.put, List.setIfInBounds_toArray, List.set_cons_zero, List.set_cons_succ, i64_w, i32_w]
          rfl
         refine pure_ (i := 19) (N := some 46) (v := undef) (a' := ?_) (bs 24 1048575) rfl rfl (any_of HT_.out (by kernel_rfl)) (fun _ _ _ h => h) (Or.inr ⟨by rfl, rfl⟩) ?_ ?_
         rotate_left
         ·simp only [Act.put, List.setIfInBounds_toArray, List.set_cons_zero, List.set_cons_succ, i64_w, i32_w]
          rfl
         refine pure_ (i := 20) (N := some 47) (v := undef) (a' := ?_) (bs 24 2097151) rfl rfl (any_of HT_.out (by kernel_rfl)) (fun _ _ _ h => h) (Or.inr ⟨by rfl, rfl⟩) ?_ ?_
         rotate_left
         ·simp only [Act.put, List.setIfInBounds_toArray, List.set_cons_zero, List.set_cons_succ, i64_w, i32_w]
          rfl
         refine pure_ (i := 21) (N := some 48) (v := undef) (a' := ?_) (bs 24 4194303) rfl rfl (any_of HT_.out (by kernel_rfl)) (fun _ _ _ h => h) (Or.inr ⟨by rfl, rfl⟩) ?_ ?_
         rotate_left
         ·simp only [Act.put, List.setIfInBounds_toArray, List.set_cons_zero, List.set_cons_succ, i64_w, i32_w]
          rfl
         refine pure_ (i := 22) (N := some 49) (v := undef) (a' := ?_) (bs 24 8388607) rfl rfl (any_of HT_.out (by kernel_rfl)) (fun _ _ _ h => h) (Or.inr ⟨by rfl, rfl⟩) ?_ ?_
         rotate_left
         ·simp only [Act.put, List.setIfInBounds_toArray, List.set_cons_zero, List.set_cons_succ, i64_w, i32_w]
          rfl
         refine pu 23 50 (bs 24 16777215) HT_ ?_
         refine done_ (done_of HT_.out (by kernel_rfl)) ?_
         try go_wp2
         go_meet
         case rel => exact ⟨_, (true), eqs, H', ⟨by have := HK1.out; first | omega | exact Nat.le_refl _⟩, ⟨by (with_reducible repeat (first | apply Kd.N_alloc | apply Kd.N_drewN | apply Kd.N_drew)); exact HO_7.out⟩, ⟨kr HO_8.out⟩, ⟨kb BK448.out⟩, ⟨by repeat (first | (with_reducible first | exact HB.out | apply below_alloc | apply pw_below_drewN | apply below_drew1 | refine below_set ?_ GE448.out) | exact HB.out)⟩⟩
        ·rw [if_neg c31] at H
         have c31b0 : (t471 != t473) = false := by simpa using c31
         (try (have c31b1 : decide (t471 = t473) = true := by simpa using c31))
         (try (have c31b2 : (t471 == t473) = true := by simpa using c31))
         clear c31
         replace H := Option.bind_eq_some_iff.mp H
         obtain ⟨t475, A360, H⟩ := H
         replace H : ((worldmintref14_Total.f k1 (rd_L2 y458 x9_1)).bind fun t477 => (worldmintlaw14_LotsStacks.j1 k1 y458 y467 x9_1 (t475 != t477))) = some r := H
         have A36 := Aside0.mk A360
         clear A360
         replace H := Option.bind_eq_some_iff.mp H
         obtain ⟨t477, A370, H⟩ := H
         replace H : (worldmintlaw14_LotsStacks.j1 k1 y458 y467 x9_1 (t475 != t477)) = some r := H
         have A37 := Aside0.mk A370
         clear A370
         have H' := Aside0.mk H
         clear H
         try go_wp2
         have n0_ := Aside0.mk (Kd.N_drew HO_7.out)
         have n1_ := Aside0.mk (Kd.R_drew HO_8.out)
         have n2_ := Aside0.mk (blk_drew BK448.out)
         have n3_ := Aside0.mk (below_drew1 HB.out)
         clear HO_7
         clear HO_8
         clear BK448
         clear HB
         have HO_7 := n0_
         have HO_8 := n1_
         have BK448 := n2_
         have HB := n3_
         clear n0_ n1_ n2_ n3_
         obtain ⟨Ao39, co39, eo39⟩ := Kd.N_slice HO_7.out
         (first | subst eo39 | (injection eo39 with f1_ f2_ f3_; have f4_ := f1_.symm; have f5_ := f3_.symm; clear f1_ f2_ f3_; subst f4_; subst f5_))
         have p470 : 0 ≤ (x9_1 : Int) := oda
         have q470 : x9_1 < (y458.length : Int) := oda
         obtain ⟨ad470, A470_0, c470_0, e470, hx470_0, hl470_0, hi470_0⟩ := at_L2 (Kd.N_reads' HO_7.out).2.2 x9_1 p470 q470
         cases e470
         obtain ⟨ce470, hce470, hMe470, hcc470⟩ := Kd.N_get HO_7.out [] x9_1 p470 (by first | exact q470 | exact oda | (have e_ := (Kd.N_reads' HO_7.out).1; omega))
         obtain ⟨ua470_0, uc470_0, rfl, ul470_0, ge470_0⟩ := Kd.FK_slice_open hMe470
         have hv470_0 := hcc470 0 _ rfl
         rw [Nat.add_zero, show ((Kd.slice 39 k39)).sz = 1 from rfl, Nat.mul_one] at hv470_0
         replace hv470_0 := Option.some.inj (hv470_0.symm.trans hx470_0)
         injection hv470_0 with hva_ hvn_ hvc_
         rw [hva_] at ge470_0
         rw [hvc_] at ul470_0
         have HL470_0 := Aside0.mk (show Kd.V k39 39 _ w.heap.size _ _ (rd_L2 y458 x9_1) from Kd.V_mk ul470_0 ge470_0)
         clear hva_ hvn_ hvc_ ge470_0 ul470_0
         clear hcc470 hce470
         have HR470_0 := Aside0.mk hi470_0
         have HC470_0 := Aside0.mk hl470_0
         clear hi470_0 hl470_0
         replace p470 := eq_true p470
         replace q470 := eq_true q470
         have p472 : 0 ≤ (x9_1 : Int) := oda
         have q472 : x9_1 < (y458.length : Int) := oda
         obtain ⟨ad472, A472_0, c472_0, e472, hx472_0, hl472_0, hi472_0⟩ := at_L2 (Kd.N_reads' HO_7.out).2.2 x9_1 p472 q472
         obtain rfl : ad470 = ad472 := (by injection e472)
         obtain ⟨ce472, hce472, hMe472, hcc472⟩ := Kd.N_get HO_7.out [] x9_1 p472 (by first | exact q472 | exact oda | (have e_ := (Kd.N_reads' HO_7.out).1; omega))
         obtain ⟨ua472_0, uc472_0, rfl, ul472_0, ge472_0⟩ := Kd.FK_slice_open hMe472
         have hv472_0 := hcc472 0 _ rfl
         rw [Nat.add_zero, show ((Kd.slice 39 k39)).sz = 1 from rfl, Nat.mul_one] at hv472_0
         replace hv472_0 := Option.some.inj (hv472_0.symm.trans hx472_0)
         injection hv472_0 with hva_ hvn_ hvc_
         rw [hva_] at ge472_0
         rw [hvc_] at ul472_0
         have HL472_0 := Aside0.mk (show Kd.V k39 39 _ w.heap.size _ _ (rd_L2 y458 x9_1) from Kd.V_mk ul472_0 ge472_0)
         clear hva_ hvn_ hvc_ ge472_0 ul472_0
         clear hcc472 hce472
         have HR472_0 := Aside0.mk hi472_0
         have HC472_0 := Aside0.mk hl472_0
         clear hi472_0 hl472_0
         replace p472 := eq_true p472
         replace q472 := eq_true q472
         have ea_ := Option.some.inj (hx470_0.symm.trans hx472_0)
         injection ea_ with ea_ en_ ec_
         subst ea_
         subst ec_
         clear en_
         have p474 : 0 ≤ (x9_1 : Int) := oda
         have q474 : x9_1 < (y458.length : Int) := oda
         obtain ⟨ad474, A474_0, c474_0, e474, hx474_0, hl474_0, hi474_0⟩ := at_L2 (Kd.N_reads' HO_7.out).2.2 x9_1 p474 q474
         obtain rfl : ad470 = ad474 := (by injection e474)
         obtain ⟨ce474, hce474, hMe474, hcc474⟩ := Kd.N_get HO_7.out [] x9_1 p474 (by first | exact q474 | exact oda | (have e_ := (Kd.N_reads' HO_7.out).1; omega))
         obtain ⟨ua474_0, uc474_0, rfl, ul474_0, ge474_0⟩ := Kd.FK_slice_open hMe474
         have hv474_0 := hcc474 0 _ rfl
         rw [Nat.add_zero, show ((Kd.slice 39 k39)).sz = 1 from rfl, Nat.mul_one] at hv474_0
         replace hv474_0 := Option.some.inj (hv474_0.symm.trans hx474_0)
         injection hv474_0 with hva_ hvn_ hvc_
         rw [hva_] at ge474_0
         rw [hvc_] at ul474_0
         have HL474_0 := Aside0.mk (show Kd.V k39 39 _ w.heap.size _ _ (rd_L2 y458 x9_1) from Kd.V_mk ul474_0 ge474_0)
         clear hva_ hvn_ hvc_ ge474_0 ul474_0
         clear hcc474 hce474
         have HR474_0 := Aside0.mk hi474_0
         have HC474_0 := Aside0.mk hl474_0
         clear hi474_0 hl474_0
         have ea_ := Option.some.inj (hx470_0.symm.trans hx474_0)
         injection ea_ with ea_ en_ ec_
         subst ea_
         subst ec_
         clear en_
         replace p474 := eq_true p474
         replace q474 := eq_true q474
         have p476 : 0 ≤ (x9_1 : Int) := oda
         have q476 : x9_1 < (y458.length : Int) := oda
         obtain ⟨ad476, A476_0, c476_0, e476, hx476_0, hl476_0, hi476_0⟩ := at_L2 (Kd.N_reads' HO_7.out).2.2 x9_1 p476 q476
         obtain rfl : ad470 = ad476 := (by injection e476)
         obtain ⟨ce476, hce476, hMe476, hcc476⟩ := Kd.N_get HO_7.out [] x9_1 p476 (by first | exact q476 | exact oda | (have e_ := (Kd.N_reads' HO_7.out).1; omega))
         obtain ⟨ua476_0, uc476_0, rfl, ul476_0, ge476_0⟩ := Kd.FK_slice_open hMe476
         have hv476_0 := hcc476 0 _ rfl
         rw [Nat.add_zero, show ((Kd.slice 39 k39)).sz = 1 from rfl, Nat.mul_one] at hv476_0
         replace hv476_0 := Option.some.inj (hv476_0.symm.trans hx476_0)
         injection hv476_0 with hva_ hvn_ hvc_
         rw [hva_] at ge476_0
         rw [hvc_] at ul476_0
         have HL476_0 := Aside0.mk (show Kd.V k39 39 _ w.heap.size _ _ (rd_L2 y458 x9_1) from Kd.V_mk ul476_0 ge476_0)
         clear hva_ hvn_ hvc_ ge476_0 ul476_0
         clear hcc476 hce476
         have HR476_0 := Aside0.mk hi476_0
         have HC476_0 := Aside0.mk hl476_0
         clear hi476_0 hl476_0
         have ea_ := Option.some.inj (hx470_0.symm.trans hx476_0)
         injection ea_ with ea_ en_ ec_
         subst ea_
         subst ec_
         clear en_
         replace p476 := eq_true p476
         replace q476 := eq_true q476
         refine start_ (n := 24) (S := fun w' => w'.cell? (ad470.add (x9_1).toNat) = some (.slice A470_0 (rd_L2 y458 x9_1).length c470_0) ∧ w'.cell? (ad470.add (x9_1).toNat) = some (.slice A470_0 (rd_L2 y458 x9_1).length c470_0) ∧ w'.cell? (ad470.add (x9_1).toNat) = some (.slice A470_0 (rd_L2 y458 x9_1).length c470_0) ∧ w'.cell? (ad470.add (x9_1).toNat) = some (.slice A470_0 (rd_L2 y458 x9_1).length c470_0)) (ds := []) (bs 24 0) (by kernel_rfl) rfl rfl ⟨hx470_0, hx472_0, hx474_0, hx476_0⟩ (fun hHeld => ?_); refine with_tabW worldmintlaw14_LotsStacks.tab6 worldmintlaw14_LotsStacks.bits6 (fun HT_ HW_ => ?_)
         generalize wr.drew = w38 at HO_7 HO_8 BK448 HB HL470_0 HL472_0 HL474_0 HL476_0 HR470_0 HR472_0 HR474_0 HR476_0 hx470_0 hx472_0 hx474_0 hx476_0 hHeld ⊢
         refine pu 0 27 (bs 24 1) HT_ ?_
         refine pu 1 28 (bs 24 3) HT_ ?_
         refine pu 2 29 (bs 24 7) HT_ ?_
         refine pu 5 32 (bs 24 39) HT_ ?_
         refine pu 6 33 (bs 24 103) HT_ ?_
         refine pu 7 34 (bs 24 231) HT_ ?_
         refine take_ (i := 3) (N := some 30) (v := ?_) (a' := ?_) (bs 24 239) rfl rfl (take_ofW HT_.out HW_.out (by kernel_rfl)) (fun _ _ _ h => h) (Or.inl ⟨by rfl, ?_⟩) hHeld ?_ ?_
         rotate_left
         ·rintro w' ⟨s0, s1, s2, s3⟩
          go_simp
          with_reducible rfl
         rotate_left
         ·simp only [Act.put, List.setIfInBounds_toArray, List.set_cons_zero, List.set_cons_succ, i64_w, i32_w]
          rfl
         refine take_ (i := 8) (N := some 35) (v := ?_) (a' := ?_) (bs 24 495) rfl rfl (take_ofW HT_.out HW_.out (by kernel_rfl)) (fun _ _ _ h => h) (Or.inl ⟨by rfl, ?_⟩) hHeld ?_ ?_
         rotate_left
         ·rintro w' ⟨s0, s1, s2, s3⟩
          go_simp
          with_reducible rfl
         rotate_left
         ·simp only [Act.put, List.setIfInBounds_toArray, List.set_cons_zero, List.set_cons_succ, i64_w, i32_w]
          rfl
         refine one_ (i := 4) (N := some 31) (bs 24 511) rfl rfl (one_of HT_.out (by kernel_rfl)) (by decide) (fun K hK => ?_)
         refine goes_ Try.func22 (by kernel_rfl) rfl #[.slice A470_0 (rd_L2 y458 x9_1).length c470_0] (by rfl) rfl rfl (by (try simp only [List.map_toArray, List.map_cons, List.map_nil]); first | done | rfl | (simp only [List.length_drop, List.length_take]; rfl)) ?_
         with_reducible refine (lots_Valid.calls _ _ (rd_L2 y458 x9_1) t471 _ ?side1 ?side2 A29.out).mono ?_
         (case side1 => repeat (first | exact (by repeat (first | (with_reducible exact HR470_0.out) | (with_reducible refine Kd.C_alloc ?_ _) | (with_reducible refine Kd.C_drewN ?_ _) | (with_reducible refine Kd.C_drew ?_) | exact HR470_0.out)) | (with_reducible refine Kd.C_alloc ?_ _) | (with_reducible refine Kd.C_drewN ?_ _) | (with_reducible refine Kd.C_drew ?_)))
         (case side2 => exact HC470_0.out)
         rintro e w40 ⟨rfl, hb⟩
         have HS0_ := (hb.cell (World.block_lt_of_cell? _ _ (hHeld.1))).trans (hHeld.1)
         have HS1_ := (hb.cell (World.block_lt_of_cell? _ _ (hHeld.2.1))).trans (hHeld.2.1)
         have HS2_ := (hb.cell (World.block_lt_of_cell? _ _ (hHeld.2.2.1))).trans (hHeld.2.2.1)
         have HS3_ := (hb.cell (World.block_lt_of_cell? _ _ (hHeld.2.2.2))).trans (hHeld.2.2.2)
         refine ⟨_, rfl, ?_⟩
         have n0_ := Aside0.mk (Kd.N_below (by (with_reducible repeat (first | apply Kd.N_alloc | apply Kd.N_drewN | apply Kd.N_drew)); exact HO_7.out) hb)
         have n1_ := Aside0.mk (Kd.R_below (kr HO_8.out) hb)
         have n2_ := Aside0.mk (Kd.V_below (by (with_reducible repeat (first | apply Kd.V_alloc | apply Kd.V_drewN | apply Kd.V_drew)); exact HL470_0.out) hb)
         have n3_ := Aside0.mk (Kd.V_below (by (with_reducible repeat (first | apply Kd.V_alloc | apply Kd.V_drewN | apply Kd.V_drew)); exact HL472_0.out) hb)
         have n4_ := Aside0.mk (blk_below (g := gb448) (o := .cells #[.int .i64 a1_0, .int .i64 a1_1, .int .i64 a1_2] 39 (0, 0)) (kb BK448.out) hb)
         have n5_ := Aside0.mk (Kd.C_below (by repeat (first | (with_reducible exact HR470_0.out) | (with_reducible refine Kd.C_alloc ?_ _) | (with_reducible refine Kd.C_drewN ?_ _) | (with_reducible refine Kd.C_drew ?_) | exact HR470_0.out)) hb)
         have n6_ := Aside0.mk (Kd.C_below (by repeat (first | (with_reducible exact HR472_0.out) | (with_reducible refine Kd.C_alloc ?_ _) | (with_reducible refine Kd.C_drewN ?_ _) | (with_reducible refine Kd.C_drew ?_) | exact HR472_0.out)) hb)
         have n7_ := Aside0.mk (below_step (by repeat (first | (with_reducible first | exact HB.out | apply below_alloc | apply pw_below_drewN | apply below_drew1 | refine below_set ?_ GE448.out) | exact HB.out)) hb)
         clear HO_7
         clear HO_8
         clear HL470_0
         clear HL472_0
         clear BK448
         clear HR470_0
         clear HR472_0
         clear HB
         have HO_7 := n0_
         have HO_8 := n1_
         have HL470_0 := n2_
         have HL472_0 := n3_
         have BK448 := n4_
         have HR470_0 := n5_
         have HR472_0 := n6_
         have HB := n7_
         clear n0_ n1_ n2_ n3_ n4_ n5_ n6_ n7_
         have z_ := Aside0.mk (Kd.V_below (by (with_reducible repeat (first | apply Kd.V_alloc | apply Kd.V_drewN | apply Kd.V_drew)); exact HL474_0.out) hb)
         clear HL474_0
         have HL474_0 := z_
         clear z_
         have z_ := Aside0.mk (Kd.V_below (by (with_reducible repeat (first | apply Kd.V_alloc | apply Kd.V_drewN | apply Kd.V_drew)); exact HL476_0.out) hb)
         clear HL476_0
         have HL476_0 := z_
         clear z_
         have z_ := Aside0.mk (Kd.C_below (by repeat (first | (with_reducible exact HR474_0.out) | (with_reducible refine Kd.C_alloc ?_ _) | (with_reducible refine Kd.C_drewN ?_ _) | (with_reducible refine Kd.C_drew ?_) | exact HR474_0.out)) hb)
         clear HR474_0
         have HR474_0 := z_
         clear z_
         have z_ := Aside0.mk (Kd.C_below (by repeat (first | (with_reducible exact HR476_0.out) | (with_reducible refine Kd.C_alloc ?_ _) | (with_reducible refine Kd.C_drewN ?_ _) | (with_reducible refine Kd.C_drew ?_) | exact HR476_0.out)) hb)
         clear HR476_0
         have HR476_0 := z_
         clear z_
         (try clear hb)
         (try clear hb2)
         (try clear hk)
         (try clear hi)
         refine hK.out _ _ ⟨HS0_, HS1_, HS2_, HS3_⟩ (fun hHeld => ?_)
         clear hK K
         refine norm_ (a' := ?_) ?_ ?_
         rotate_left
         ·show Act.put _ (some 31) _ = _
          simp only [Act.put, List.setIfInBounds_toArray, List.set_cons_zero, List.set_cons_succ, i64_w, i32_w]
          rfl
         refine one_ (i := 9) (N := some 36) (bs 24 1023) rfl rfl (one_of HT_.out (by kernel_rfl)) (by decide) (fun K hK => ?_)
         refine goes_ Try.func23 (by kernel_rfl) rfl #[.slice A470_0 (rd_L2 y458 x9_1).length c470_0] (by rfl) rfl rfl (by (try simp only [List.map_toArray, List.map_cons, List.map_nil]); first | done | rfl | (simp only [List.length_drop, List.length_take]; rfl)) ?_
         with_reducible refine (worldmintref14_Valid.calls k1 _ _ (rd_L2 y458 x9_1) t473 _ ?side1 ?side2 A30.out).mono ?_
         (case side1 => repeat (first | exact (by repeat (first | (with_reducible exact HR472_0.out) | (with_reducible refine Kd.C_alloc ?_ _) | (with_reducible refine Kd.C_drewN ?_ _) | (with_reducible refine Kd.C_drew ?_) | exact HR472_0.out)) | (with_reducible refine Kd.C_alloc ?_ _) | (with_reducible refine Kd.C_drewN ?_ _) | (with_reducible refine Kd.C_drew ?_)))
         (case side2 => exact HC472_0.out)
         rintro e w41 ⟨rfl, hb⟩
         have HS0_ := (hb.cell (World.block_lt_of_cell? _ _ (hHeld.1))).trans (hHeld.1)
         have HS1_ := (hb.cell (World.block_lt_of_cell? _ _ (hHeld.2.1))).trans (hHeld.2.1)
         have HS2_ := (hb.cell (World.block_lt_of_cell? _ _ (hHeld.2.2.1))).trans (hHeld.2.2.1)
         have HS3_ := (hb.cell (World.block_lt_of_cell? _ _ (hHeld.2.2.2))).trans (hHeld.2.2.2)
         refine ⟨_, rfl, ?_⟩
         have n0_ := Aside0.mk (Kd.N_below (by (with_reducible repeat (first | apply Kd.N_alloc | apply Kd.N_drewN | apply Kd.N_drew)); exact HO_7.out) hb)
         have n1_ := Aside0.mk (Kd.R_below (kr HO_8.out) hb)
         have n2_ := Aside0.mk (Kd.V_below (by (with_reducible repeat (first | apply Kd.V_alloc | apply Kd.V_drewN | apply Kd.V_drew)); exact HL470_0.out) hb)
         have n3_ := Aside0.mk (Kd.V_below (by (with_reducible repeat (first | apply Kd.V_alloc | apply Kd.V_drewN | apply Kd.V_drew)); exact HL472_0.out) hb)
         have n4_ := Aside0.mk (blk_below (g := gb448) (o := .cells #[.int .i64 a1_0, .int .i64 a1_1, .int .i64 a1_2] 39 (0, 0)) (kb BK448.out) hb)
         have n5_ := Aside0.mk (Kd.C_below (by repeat (first | (with_reducible exact HR470_0.out) | (with_reducible refine Kd.C_alloc ?_ _) | (with_reducible refine Kd.C_drewN ?_ _) | (with_reducible refine Kd.C_drew ?_) | exact HR470_0.out)) hb)
         have n6_ := Aside0.mk (Kd.C_below (by repeat (first | (with_reducible exact HR472_0.out) | (with_reducible refine Kd.C_alloc ?_ _) | (with_reducible refine Kd.C_drewN ?_ _) | (with_reducible refine Kd.C_drew ?_) | exact HR472_0.out)) hb)
         have n7_ := Aside0.mk (below_step (by repeat (first | (with_reducible first | exact HB.out | apply below_alloc | apply pw_below_drewN | apply below_drew1 | refine below_set ?_ GE448.out) | exact HB.out)) hb)
         clear HO_7
         clear HO_8
         clear HL470_0
         clear HL472_0
         clear BK448
         clear HR470_0
         clear HR472_0
         clear HB
         have HO_7 := n0_
         have HO_8 := n1_
         have HL470_0 := n2_
         have HL472_0 := n3_
         have BK448 := n4_
         have HR470_0 := n5_
         have HR472_0 := n6_
         have HB := n7_
         clear n0_ n1_ n2_ n3_ n4_ n5_ n6_ n7_
         have z_ := Aside0.mk (Kd.V_below (by (with_reducible repeat (first | apply Kd.V_alloc | apply Kd.V_drewN | apply Kd.V_drew)); exact HL474_0.out) hb)
         clear HL474_0
         have HL474_0 := z_
         clear z_
         have z_ := Aside0.mk (Kd.V_below (by (with_reducible repeat (first | apply Kd.V_alloc | apply Kd.V_drewN | apply Kd.V_drew)); exact HL476_0.out) hb)
         clear HL476_0
         have HL476_0 := z_
         clear z_
         have z_ := Aside0.mk (Kd.C_below (by repeat (first | (with_reducible exact HR474_0.out) | (with_reducible refine Kd.C_alloc ?_ _) | (with_reducible refine Kd.C_drewN ?_ _) | (with_reducible refine Kd.C_drew ?_) | exact HR474_0.out)) hb)
         clear HR474_0
         have HR474_0 := z_
         clear z_
         have z_ := Aside0.mk (Kd.C_below (by repeat (first | (with_reducible exact HR476_0.out) | (with_reducible refine Kd.C_alloc ?_ _) | (with_reducible refine Kd.C_drewN ?_ _) | (with_reducible refine Kd.C_drew ?_) | exact HR476_0.out)) hb)
         clear HR476_0
         have HR476_0 := z_
         clear z_
         (try clear hb)
         (try clear hb2)
         (try clear hk)
         (try clear hi)
         refine hK.out _ _ ⟨HS0_, HS1_, HS2_, HS3_⟩ (fun hHeld => ?_)
         clear hK K
         refine norm_ (a' := ?_) ?_ ?_
         rotate_left
         ·show Act.put _ (some 36) _ = _
          simp only [Act.put, List.setIfInBounds_toArray, List.set_cons_zero, List.set_cons_succ, i64_w, i32_w]
          rfl
         refine pu 10 37 (bs 24 2047) HT_ ?_
         refine pu 11 38 (bs 24 4095) HT_ ?_
         refine pu 12 39 (bs 24 8191) HT_ ?_
         refine pu 13 40 (bs 24 16383) HT_ ?_
         refine pu 14 41 (bs 24 32767) HT_ ?_
         refine pu 17 44 (bs 24 163839) HT_ ?_
         refine pu 18 45 (bs 24 425983) HT_ ?_
         refine pu 19 46 (bs 24 950271) HT_ ?_
         refine take_ (i := 15) (N := some 42) (v := ?_) (a' := ?_) (bs 24 983039) rfl rfl (take_ofW HT_.out HW_.out (by kernel_rfl)) (fun _ _ _ h => h) (Or.inl ⟨by rfl, ?_⟩) hHeld ?_ ?_
         rotate_left
         ·rintro w' ⟨s0, s1, s2, s3⟩
          go_simp
          with_reducible rfl
         rotate_left
         ·simp only [Act.put, List.setIfInBounds_toArray, List.set_cons_zero, List.set_cons_succ, i64_w, i32_w]
          rfl
         refine take_ (i := 20) (N := some 47) (v := ?_) (a' := ?_) (bs 24 2031615) rfl rfl (take_ofW HT_.out HW_.out (by kernel_rfl)) (fun _ _ _ h => h) (Or.inl ⟨by rfl, ?_⟩) hHeld ?_ ?_
         rotate_left
         ·rintro w' ⟨s0, s1, s2, s3⟩
          go_simp
          with_reducible rfl
         rotate_left
         ·simp only [Act.put, List.setIfInBounds_toArray, List.set_cons_zero, List.set_cons_succ, i64_w, i32_w]
          rfl
         refine one_ (i := 16) (N := some 43) (bs 24 2097151) rfl rfl (one_of HT_.out (by kernel_rfl)) (by decide) (fun K hK => ?_)
         refine goes_ Try.func24 (by kernel_rfl) rfl #[.slice A470_0 (rd_L2 y458 x9_1).length c470_0] (by rfl) rfl rfl (by (try simp only [List.map_toArray, List.map_cons, List.map_nil]); first | done | rfl | (simp only [List.length_drop, List.length_take]; rfl)) ?_
         with_reducible refine (lots_Total.calls k1 _ _ (rd_L2 y458 x9_1) t475 _ ?side1 ?side2 A36.out).mono ?_
         (case side1 => repeat (first | exact (by repeat (first | (with_reducible exact HR474_0.out) | (with_reducible refine Kd.C_alloc ?_ _) | (with_reducible refine Kd.C_drewN ?_ _) | (with_reducible refine Kd.C_drew ?_) | exact HR474_0.out)) | (with_reducible refine Kd.C_alloc ?_ _) | (with_reducible refine Kd.C_drewN ?_ _) | (with_reducible refine Kd.C_drew ?_)))
         (case side2 => exact HC474_0.out)
         rintro e w42 ⟨rfl, hb⟩
         have HS0_ := (hb.cell (World.block_lt_of_cell? _ _ (hHeld.1))).trans (hHeld.1)
         have HS1_ := (hb.cell (World.block_lt_of_cell? _ _ (hHeld.2.1))).trans (hHeld.2.1)
         have HS2_ := (hb.cell (World.block_lt_of_cell? _ _ (hHeld.2.2.1))).trans (hHeld.2.2.1)
         have HS3_ := (hb.cell (World.block_lt_of_cell? _ _ (hHeld.2.2.2))).trans (hHeld.2.2.2)
         refine ⟨_, rfl, ?_⟩
         have n0_ := Aside0.mk (Kd.N_below (by (with_reducible repeat (first | apply Kd.N_alloc | apply Kd.N_drewN | apply Kd.N_drew)); exact HO_7.out) hb)
         have n1_ := Aside0.mk (Kd.R_below (kr HO_8.out) hb)
         have n2_ := Aside0.mk (Kd.V_below (by (with_reducible repeat (first | apply Kd.V_alloc | apply Kd.V_drewN | apply Kd.V_drew)); exact HL470_0.out) hb)
         have n3_ := Aside0.mk (Kd.V_below (by (with_reducible repeat (first | apply Kd.V_alloc | apply Kd.V_drewN | apply Kd.V_drew)); exact HL472_0.out) hb)
         have n4_ := Aside0.mk (Kd.V_below (by (with_reducible repeat (first | apply Kd.V_alloc | apply Kd.V_drewN | apply Kd.V_drew)); exact HL474_0.out) hb)
         have n5_ := Aside0.mk (blk_below (g := gb448) (o := .cells #[.int .i64 a1_0, .int .i64 a1_1, .int .i64 a1_2] 39 (0, 0)) (kb BK448.out) hb)
         have n6_ := Aside0.mk (Kd.C_below (by repeat (first | (with_reducible exact HR470_0.out) | (with_reducible refine Kd.C_alloc ?_ _) | (with_reducible refine Kd.C_drewN ?_ _) | (with_reducible refine Kd.C_drew ?_) | exact HR470_0.out)) hb)
         have n7_ := Aside0.mk (Kd.C_below (by repeat (first | (with_reducible exact HR472_0.out) | (with_reducible refine Kd.C_alloc ?_ _) | (with_reducible refine Kd.C_drewN ?_ _) | (with_reducible refine Kd.C_drew ?_) | exact HR472_0.out)) hb)
         have n8_ := Aside0.mk (Kd.C_below (by repeat (first | (with_reducible exact HR474_0.out) | (with_reducible refine Kd.C_alloc ?_ _) | (with_reducible refine Kd.C_drewN ?_ _) | (with_reducible refine Kd.C_drew ?_) | exact HR474_0.out)) hb)
         have n9_ := Aside0.mk (below_step (by repeat (first | (with_reducible first | exact HB.out | apply below_alloc | apply pw_below_drewN | apply below_drew1 | refine below_set ?_ GE448.out) | exact HB.out)) hb)
         clear HO_7
         clear HO_8
         clear HL470_0
         clear HL472_0
         clear HL474_0
         clear BK448
         clear HR470_0
         clear HR472_0
         clear HR474_0
         clear HB
         have HO_7 := n0_
         have HO_8 := n1_
         have HL470_0 := n2_
         have HL472_0 := n3_
         have HL474_0 := n4_
         have BK448 := n5_
         have HR470_0 := n6_
         have HR472_0 := n7_
         have HR474_0 := n8_
         have HB := n9_
         clear n0_ n1_ n2_ n3_ n4_ n5_ n6_ n7_ n8_ n9_
         have z_ := Aside0.mk (Kd.V_below (by (with_reducible repeat (first | apply Kd.V_alloc | apply Kd.V_drewN | apply Kd.V_drew)); exact HL476_0.out) hb)
         clear HL476_0
         have HL476_0 := z_
         clear z_
         have z_ := Aside0.mk (Kd.C_below (by repeat (first | (with_reducible exact HR476_0.out) | (with_reducible refine Kd.C_alloc ?_ _) | (with_reducible refine Kd.C_drewN ?_ _) | (with_reducible refine Kd.C_drew ?_) | exact HR476_0.out)) hb)
         clear HR476_0
         have HR476_0 := z_
         clear z_
         (try clear hb)
         (try clear hb2)
         (try clear hk)
         (try clear hi)
         refine hK.out _ _ ⟨HS0_, HS1_, HS2_, HS3_⟩ (fun hHeld => ?_)
         clear hK K
         refine norm_ (a' := ?_) ?_ ?_
         rotate_left
         ·show Act.put _ (some 43) _ = _
          simp only [Act.put, List.setIfInBounds_toArray, List.set_cons_zero, List.set_cons_succ, i64_w, i32_w]
          rfl
         refine one_ (i := 21) (N := some 48) (bs 24 4194303) rfl rfl (one_of HT_.out (by kernel_rfl)) (by decide) (fun K hK => ?_)
         refine goes_ Try.func15 (by kernel_rfl) rfl #[.slice A470_0 (rd_L2 y458 x9_1).length c470_0] (by rfl) rfl rfl (by (try simp only [List.map_toArray, List.map_cons, List.map_nil]); first | done | rfl | (simp only [List.length_drop, List.length_take]; rfl)) ?_
         with_reducible refine (worldmintref14_Total.calls k1 _ _ (rd_L2 y458 x9_1) t477 _ ?side1 ?side2 A37.out).mono ?_
         (case side1 => repeat (first | exact (by repeat (first | (with_reducible exact HR476_0.out) | (with_reducible refine Kd.C_alloc ?_ _) | (with_reducible refine Kd.C_drewN ?_ _) | (with_reducible refine Kd.C_drew ?_) | exact HR476_0.out)) | (with_reducible refine Kd.C_alloc ?_ _) | (with_reducible refine Kd.C_drewN ?_ _) | (with_reducible refine Kd.C_drew ?_)))
         (case side2 => exact HC476_0.out)
         rintro e w43 ⟨rfl, hb⟩
         have HS0_ := (hb.cell (World.block_lt_of_cell? _ _ (hHeld.1))).trans (hHeld.1)
         have HS1_ := (hb.cell (World.block_lt_of_cell? _ _ (hHeld.2.1))).trans (hHeld.2.1)
         have HS2_ := (hb.cell (World.block_lt_of_cell? _ _ (hHeld.2.2.1))).trans (hHeld.2.2.1)
         have HS3_ := (hb.cell (World.block_lt_of_cell? _ _ (hHeld.2.2.2))).trans (hHeld.2.2.2)
         refine ⟨_, rfl, ?_⟩
         have n0_ := Aside0.mk (Kd.N_below (by (with_reducible repeat (first | apply Kd.N_alloc | apply Kd.N_drewN | apply Kd.N_drew)); exact HO_7.out) hb)
         have n1_ := Aside0.mk (Kd.R_below (kr HO_8.out) hb)
         have n2_ := Aside0.mk (Kd.V_below (by (with_reducible repeat (first | apply Kd.V_alloc | apply Kd.V_drewN | apply Kd.V_drew)); exact HL470_0.out) hb)
         have n3_ := Aside0.mk (Kd.V_below (by (with_reducible repeat (first | apply Kd.V_alloc | apply Kd.V_drewN | apply Kd.V_drew)); exact HL472_0.out) hb)
         have n4_ := Aside0.mk (Kd.V_below (by (with_reducible repeat (first | apply Kd.V_alloc | apply Kd.V_drewN | apply Kd.V_drew)); exact HL474_0.out) hb)
         have n5_ := Aside0.mk (Kd.V_below (by (with_reducible repeat (first | apply Kd.V_alloc | apply Kd.V_drewN | apply Kd.V_drew)); exact HL476_0.out) hb)
         have n6_ := Aside0.mk (blk_below (g := gb448) (o := .cells #[.int .i64 a1_0, .int .i64 a1_1, .int .i64 a1_2] 39 (0, 0)) (kb BK448.out) hb)
         have n7_ := Aside0.mk (Kd.C_below (by repeat (first | (with_reducible exact HR470_0.out) | (with_reducible refine Kd.C_alloc ?_ _) | (with_reducible refine Kd.C_drewN ?_ _) | (with_reducible refine Kd.C_drew ?_) | exact HR470_0.out)) hb)
         have n8_ := Aside0.mk (Kd.C_below (by repeat (first | (with_reducible exact HR472_0.out) | (with_reducible refine Kd.C_alloc ?_ _) | (with_reducible refine Kd.C_drewN ?_ _) | (with_reducible refine Kd.C_drew ?_) | exact HR472_0.out)) hb)
         have n9_ := Aside0.mk (Kd.C_below (by repeat (first | (with_reducible exact HR474_0.out) | (with_reducible refine Kd.C_alloc ?_ _) | (with_reducible refine Kd.C_drewN ?_ _) | (with_reducible refine Kd.C_drew ?_) | exact HR474_0.out)) hb)
         have n10_ := Aside0.mk (Kd.C_below (by repeat (first | (with_reducible exact HR476_0.out) | (with_reducible refine Kd.C_alloc ?_ _) | (with_reducible refine Kd.C_drewN ?_ _) | (with_reducible refine Kd.C_drew ?_) | exact HR476_0.out)) hb)
         have n11_ := Aside0.mk (below_step (by repeat (first | (with_reducible first | exact HB.out | apply below_alloc | apply pw_below_drewN | apply below_drew1 | refine below_set ?_ GE448.out) | exact HB.out)) hb)
         clear HO_7
         clear HO_8
         clear HL470_0
         clear HL472_0
         clear HL474_0
         clear HL476_0
         clear BK448
         clear HR470_0
         clear HR472_0
         clear HR474_0
         clear HR476_0
         clear HB
         have HO_7 := n0_
         have HO_8 := n1_
         have HL470_0 := n2_
         have HL472_0 := n3_
         have HL474_0 := n4_
         have HL476_0 := n5_
         have BK448 := n6_
         have HR470_0 := n7_
         have HR472_0 := n8_
         have HR474_0 := n9_
         have HR476_0 := n10_
         have HB := n11_
         clear n0_ n1_ n2_ n3_ n4_ n5_ n6_ n7_ n8_ n9_ n10_ n11_
         (try clear hb)
         (try clear hb2)
         (try clear hk)
         (try clear hi)
         refine hK.out _ _ ⟨HS0_, HS1_, HS2_, HS3_⟩ (fun hHeld => ?_)
         clear hK K
         refine norm_ (a' := ?_) ?_ ?_
         rotate_left
         ·show Act.put _ (some 48) _ = _
          simp only [Act.put, List.setIfInBounds_toArray, List.set_cons_zero, List.set_cons_succ, i64_w, i32_w]
          rfl
         refine pu 22 49 (bs 24 8388607) HT_ ?_
         refine pu 23 50 (bs 24 16777215) HT_ ?_
         refine done_ (done_of HT_.out (by kernel_rfl)) ?_
         try go_wp2
         go_meet
         case rel => exact ⟨_, ((t475 != t477)), eqs, H', ⟨by have := HK1.out; first | omega | exact Nat.le_refl _⟩, ⟨by (with_reducible repeat (first | apply Kd.N_alloc | apply Kd.N_drewN | apply Kd.N_drew)); exact HO_7.out⟩, ⟨kr HO_8.out⟩, ⟨kb BK448.out⟩, ⟨by repeat (first | (with_reducible first | exact HB.out | apply below_alloc | apply pw_below_drewN | apply below_drew1 | refine below_set ?_ GE448.out) | exact HB.out)⟩⟩
       ·rw [if_neg c28] at H
        exact absurd H (by simp)
      ·rw [if_neg c27] at H
       exact absurd H (by simp)
     case rest =>
      clear HC26
      try clear c2
      try clear c3
      try clear c27
      try clear c28
      try clear c31
      try clear c31b0
      try clear c31b1
      try clear c31b2
      try clear hx470_0
      try clear hx472_0
      try clear hx474_0
      try clear hx476_0
      try clear p470
      try clear p472
      try clear p474
      try clear p476
      try clear q470
      try clear q472
      try clear q474
      try clear q476
      obtain ⟨kq, x50_25, rfl, HA, HJ25, HO_7, HO_8, BK448, HB⟩ := hcut
      cases kq with
      | zero => exact absurd HA.out (by simp [worldmintlaw14_LotsStacks.j1])
      | succ kj25 =>
       have H := HA.out
       clear HA
       simp only [worldmintlaw14_LotsStacks.j1] at H
       by_cases c44 : x50_25 = true
       ·subst c44
        have H1 : (some false) = some r := by rw [if_pos rfl] at H; exact H
        clear H
        have H := H1
        clear H1
        obtain rfl := Option.some.inj H
        go_wp2
        go_ret
        exact ⟨by first | rfl | (simp [errW_none, errW_some] <;> rfl) | (simp [*, errW_none, errW_some] <;> rfl), by repeat (first | (with_reducible first | exact HB.out | apply below_alloc | apply pw_below_drewN | apply below_drew1 | refine below_set ?_ GE448.out) | exact HB.out)⟩
       ·replace c44 := Bool.eq_false_iff.mpr c44
        subst c44
        have H1 : (worldmintlaw14_LotsStacks.l1 kj25 y458 y467 x9_1 0) = some r := by rw [if_neg (show ¬ (false = true) by decide)] at H; exact H
        clear H
        have H := H1
        clear H1
        have H' := Aside0.mk H
        clear H
        go_wp2
        go_loopg [10] kj25 (fun kq v10 w' => ∃ (x10_3 : Int), v10 = .int .i64 x10_3 ∧ Aside0 (worldmintlaw14_LotsStacks.l1 kq y458 y467 x9_1 x10_3 = some r) ∧ Aside0 (kq ≤ kj25) ∧ Aside0 (Kd.N (Kd.slice 39 k39) 22 w' w.heap.size (fun k_ => some k_ ≠ (v468 : Value).ownBlock ∧ k_ ≠ gb448) v459 y458) ∧ Aside0 (Kd.R k39 39 w' w.heap.size (fun k_ => k_ ≠ gb448) v468 y467) ∧ Aside0 (w'.heap[gb448]? = some (.cells #[.int .i64 a1_0, .int .i64 a1_1, .int .i64 a1_2] 39 (0, 0))) ∧ Aside0 (Below w.heap.size w w'))
        case atStart => exact ⟨(0), eqs, H', ⟨Nat.le_refl _⟩, ⟨by (with_reducible repeat (first | apply Kd.N_alloc | apply Kd.N_drewN | apply Kd.N_drew)); exact HO_7.out⟩, ⟨kr HO_8.out⟩, ⟨kb BK448.out⟩, ⟨by repeat (first | (with_reducible first | exact HB.out | apply below_alloc | apply pw_below_drewN | apply below_drew1 | refine below_set ?_ GE448.out) | exact HB.out)⟩⟩
        case round =>
         clear H'
         try clear c2
         try clear c3
         try clear c27
         try clear c28
         try clear c31
         try clear c31b0
         try clear c31b1
         try clear c31b2
         try clear c44
         try clear hx470_0
         try clear hx472_0
         try clear hx474_0
         try clear hx476_0
         try clear p470
         try clear p472
         try clear p474
         try clear p476
         try clear q470
         try clear q472
         try clear q474
         try clear q476
         obtain ⟨x10_3, rfl, HA, HK3, HO_7, HO_8, BK448, HB⟩ := hrel
         cases gk with
         | zero => exact absurd HA.out (by simp [worldmintlaw14_LotsStacks.l1])
         | succ k3 =>
          have H := HA.out
          clear HA
          simp only [worldmintlaw14_LotsStacks.l1] at H
          by_cases c45 : x10_3 < (y467.length : Int)
          ·rw [if_pos c45] at H
           have c45b0 : decide (x10_3 < (y467.length : Int)) = true := decide_eq_true c45
           clear c45
           by_cases c46 : 0 ≤ x9_1
           ·rw [if_pos c46] at H
            have c46b0 : decide (0 ≤ x9_1) = true := decide_eq_true c46
            clear c46
            by_cases c47 : x9_1 < (y458.length : Int)
            ·rw [if_pos c47] at H
             have c47b0 : decide (x9_1 < (y458.length : Int)) = true := decide_eq_true c47
             clear c47
             by_cases c48 : 0 ≤ x10_3
             ·rw [if_pos c48] at H
              have c48b0 : decide (0 ≤ x10_3) = true := decide_eq_true c48
              clear c48
              replace H := Option.bind_eq_some_iff.mp H
              obtain ⟨t480, A490, H⟩ := H
              replace H : ((worldmintref14_Put.f k3 (rd_L2 y458 x9_1) ((rd_T39 y467 x10_3).f0) ((rd_T39 y467 x10_3).f1) ((rd_T39 y467 x10_3).f2)).bind fun t485 => ((worldmintref14_Same.f k3 t480 t485).bind fun t488 => (if t488 = true then (worldmintlaw14_LotsStacks.l1 k3 y458 y467 x9_1 (wrap64 (x10_3 + 1))) else (some false)))) = some r := H
              have A49 := Aside0.mk A490
              clear A490
              replace H := Option.bind_eq_some_iff.mp H
              obtain ⟨t485, A500, H⟩ := H
              replace H : ((worldmintref14_Same.f k3 t480 t485).bind fun t488 => (if t488 = true then (worldmintlaw14_LotsStacks.l1 k3 y458 y467 x9_1 (wrap64 (x10_3 + 1))) else (some false))) = some r := H
              have A50 := Aside0.mk A500
              clear A500
              replace H := Option.bind_eq_some_iff.mp H
              obtain ⟨t488, A510, H⟩ := H
              replace H : (if t488 = true then (worldmintlaw14_LotsStacks.l1 k3 y458 y467 x9_1 (wrap64 (x10_3 + 1))) else (some false)) = some r := H
              have A51 := Aside0.mk A510
              clear A510
              by_cases c52 : t488 = true
              ·subst c52
               have H1 : (worldmintlaw14_LotsStacks.l1 k3 y458 y467 x9_1 (wrap64 (x10_3 + 1))) = some r := by rw [if_pos rfl] at H; exact H
               clear H
               have H := H1
               clear H1
               have H' := Aside0.mk H
               clear H
               obtain ⟨Ao53, co53, eo53⟩ := Kd.R_slice HO_8.out
               subst eo53
               try go_wp2
               have n0_ := Aside0.mk (Kd.N_drew HO_7.out)
               have n1_ := Aside0.mk (Kd.R_drew HO_8.out)
               have n2_ := Aside0.mk (blk_drew BK448.out)
               have n3_ := Aside0.mk (below_drew1 HB.out)
               clear HO_7
               clear HO_8
               clear BK448
               clear HB
               have HO_7 := n0_
               have HO_8 := n1_
               have BK448 := n2_
               have HB := n3_
               clear n0_ n1_ n2_ n3_
               obtain ⟨Ao55, co55, eo55⟩ := Kd.N_slice HO_7.out
               (first | subst eo55 | (injection eo55 with f1_ f2_ f3_; have f4_ := f1_.symm; have f5_ := f3_.symm; clear f1_ f2_ f3_; subst f4_; subst f5_))
               have p478 : 0 ≤ (x9_1 : Int) := oda
               have q478 : x9_1 < (y458.length : Int) := oda
               obtain ⟨ad478, A478_0, c478_0, e478, hx478_0, hl478_0, hi478_0⟩ := at_L2 (Kd.N_reads' HO_7.out).2.2 x9_1 p478 q478
               cases e478
               obtain ⟨ce478, hce478, hMe478, hcc478⟩ := Kd.N_get HO_7.out [] x9_1 p478 (by first | exact q478 | exact oda | (have e_ := (Kd.N_reads' HO_7.out).1; omega))
               obtain ⟨ua478_0, uc478_0, rfl, ul478_0, ge478_0⟩ := Kd.FK_slice_open hMe478
               have hv478_0 := hcc478 0 _ rfl
               rw [Nat.add_zero, show ((Kd.slice 39 k39)).sz = 1 from rfl, Nat.mul_one] at hv478_0
               replace hv478_0 := Option.some.inj (hv478_0.symm.trans hx478_0)
               injection hv478_0 with hva_ hvn_ hvc_
               rw [hva_] at ge478_0
               rw [hvc_] at ul478_0
               have HL478_0 := Aside0.mk (show Kd.V k39 39 _ w.heap.size _ _ (rd_L2 y458 x9_1) from Kd.V_mk ul478_0 ge478_0)
               clear hva_ hvn_ hvc_ ge478_0 ul478_0
               clear hcc478 hce478
               have HR478_0 := Aside0.mk hi478_0
               have HC478_0 := Aside0.mk hl478_0
               clear hi478_0 hl478_0
               replace p478 := eq_true p478
               replace q478 := eq_true q478
               have p479 : 0 ≤ (x10_3 : Int) := oda
               have q479 : x10_3 < (y467.length : Int) := oda
               obtain ⟨ad479, e479, hx479_0, hx479_1, hx479_2⟩ := at_T39 (Kd.R_reads' HO_8.out).2.2 x10_3 p479 q479
               cases e479
               replace p479 := eq_true p479
               replace q479 := eq_true q479
               have p483 : 0 ≤ (x9_1 : Int) := oda
               have q483 : x9_1 < (y458.length : Int) := oda
               obtain ⟨ad483, A483_0, c483_0, e483, hx483_0, hl483_0, hi483_0⟩ := at_L2 (Kd.N_reads' HO_7.out).2.2 x9_1 p483 q483
               obtain rfl : ad478 = ad483 := (by injection e483)
               obtain ⟨ce483, hce483, hMe483, hcc483⟩ := Kd.N_get HO_7.out [] x9_1 p483 (by first | exact q483 | exact oda | (have e_ := (Kd.N_reads' HO_7.out).1; omega))
               obtain ⟨ua483_0, uc483_0, rfl, ul483_0, ge483_0⟩ := Kd.FK_slice_open hMe483
               have hv483_0 := hcc483 0 _ rfl
               rw [Nat.add_zero, show ((Kd.slice 39 k39)).sz = 1 from rfl, Nat.mul_one] at hv483_0
               replace hv483_0 := Option.some.inj (hv483_0.symm.trans hx483_0)
               injection hv483_0 with hva_ hvn_ hvc_
               rw [hva_] at ge483_0
               rw [hvc_] at ul483_0
               have HL483_0 := Aside0.mk (show Kd.V k39 39 _ w.heap.size _ _ (rd_L2 y458 x9_1) from Kd.V_mk ul483_0 ge483_0)
               clear hva_ hvn_ hvc_ ge483_0 ul483_0
               clear hcc483 hce483
               have HR483_0 := Aside0.mk hi483_0
               have HC483_0 := Aside0.mk hl483_0
               clear hi483_0 hl483_0
               replace p483 := eq_true p483
               replace q483 := eq_true q483
               have ea_ := Option.some.inj (hx478_0.symm.trans hx483_0)
               injection ea_ with ea_ en_ ec_
               subst ea_
               subst ec_
               clear en_
               have p484 : 0 ≤ (x10_3 : Int) := oda
               have q484 : x10_3 < (y467.length : Int) := oda
               obtain ⟨ad484, e484, hx484_0, hx484_1, hx484_2⟩ := at_T39 (Kd.R_reads' HO_8.out).2.2 x10_3 p484 q484
               obtain rfl : ad479 = ad484 := (by injection e484)
               replace p484 := eq_true p484
               replace q484 := eq_true q484
               refine start_ (n := 20) (S := fun w' => w'.cell? (ad478.add (x9_1).toNat) = some (.slice A478_0 (rd_L2 y458 x9_1).length c478_0) ∧ w'.cell? (ad479.add ((x10_3).toNat * 3)) = some (.int .i64 ((rd_T39 y467 x10_3).f0)) ∧ w'.cell? ⟨(ad479.add ((x10_3).toNat * 3)).block, (ad479.add ((x10_3).toNat * 3)).off + 1, none⟩ = some (.int .i64 ((rd_T39 y467 x10_3).f1)) ∧ w'.cell? ⟨(ad479.add ((x10_3).toNat * 3)).block, (ad479.add ((x10_3).toNat * 3)).off + 2, none⟩ = some (.int .i64 ((rd_T39 y467 x10_3).f2)) ∧ w'.cell? (ad478.add (x9_1).toNat) = some (.slice A478_0 (rd_L2 y458 x9_1).length c478_0) ∧ w'.cell? (ad479.add ((x10_3).toNat * 3)) = some (.int .i64 ((rd_T39 y467 x10_3).f0)) ∧ w'.cell? ⟨(ad479.add ((x10_3).toNat * 3)).block, (ad479.add ((x10_3).toNat * 3)).off + 1, none⟩ = some (.int .i64 ((rd_T39 y467 x10_3).f1)) ∧ w'.cell? ⟨(ad479.add ((x10_3).toNat * 3)).block, (ad479.add ((x10_3).toNat * 3)).off + 2, none⟩ = some (.int .i64 ((rd_T39 y467 x10_3).f2))) (ds := []) (bs 20 0) (by kernel_rfl) rfl rfl ⟨hx478_0, hx479_0, hx479_1, hx479_2, hx483_0, hx484_0, hx484_1, hx484_2⟩ (fun hHeld => ?_); refine with_tabW worldmintlaw14_LotsStacks.tab11 worldmintlaw14_LotsStacks.bits11 (fun HT_ HW_ => ?_)
               generalize wr.drew = w54 at HO_7 HO_8 BK448 HB HL478_0 HL483_0 HR478_0 HR483_0 hx478_0 hx479_0 hx479_1 hx479_2 hx483_0 hx484_0 hx484_1 hx484_2 hHeld ⊢
               refine pu 0 57 (bs 20 1) HT_ ?_
               refine pu 1 58 (bs 20 3) HT_ ?_
               refine pu 2 59 (bs 20 7) HT_ ?_
               refine pu 4 61 (bs 20 23) HT_ ?_
               refine pu 5 62 (bs 20 55) HT_ ?_
               refine pu 6 63 (bs 20 119) HT_ ?_
               refine pu 9 66 (bs 20 631) HT_ ?_
               refine pu 10 67 (bs 20 1655) HT_ ?_
               refine pu 11 68 (bs 20 3703) HT_ ?_
               refine pu 13 70 (bs 20 11895) HT_ ?_
               refine pu 14 71 (bs 20 28279) HT_ ?_
               refine pu 15 72 (bs 20 61047) HT_ ?_
               refine take_ (i := 3) (N := some 60) (v := ?_) (a' := ?_) (bs 20 61055) rfl rfl (take_ofW HT_.out HW_.out (by kernel_rfl)) (fun _ _ _ h => h) (Or.inl ⟨by rfl, ?_⟩) hHeld ?_ ?_
               rotate_left
               ·rintro w' ⟨s0, s1, s2, s3, s4, s5, s6, s7⟩
                go_simp
                with_reducible rfl
               rotate_left
               ·simp only [Act.put, List.setIfInBounds_toArray, List.set_cons_zero, List.set_cons_succ, i64_w, i32_w]
                rfl
               refine take_ (i := 7) (N := some 64) (v := ?_) (a' := ?_) (bs 20 61183) rfl rfl (take_ofW HT_.out HW_.out (by kernel_rfl)) (fun _ _ _ h => h) (Or.inl ⟨by rfl, ?_⟩) hHeld ?_ ?_
               rotate_left
               ·rintro w' ⟨s0, s1, s2, s3, s4, s5, s6, s7⟩
                go_simp
                with_reducible rfl
               rotate_left
               ·simp only [Act.put, List.setIfInBounds_toArray, List.set_cons_zero, List.set_cons_succ, i64_w, i32_w]
                rfl
               refine take_ (i := 12) (N := some 69) (v := ?_) (a' := ?_) (bs 20 65279) rfl rfl (take_ofW HT_.out HW_.out (by kernel_rfl)) (fun _ _ _ h => h) (Or.inl ⟨by rfl, ?_⟩) hHeld ?_ ?_
               rotate_left
               ·rintro w' ⟨s0, s1, s2, s3, s4, s5, s6, s7⟩
                go_simp
                with_reducible rfl
               rotate_left
               ·simp only [Act.put, List.setIfInBounds_toArray, List.set_cons_zero, List.set_cons_succ, i64_w, i32_w]
                rfl
               refine take_ (i := 16) (N := some 73) (v := ?_) (a' := ?_) (bs 20 130815) rfl rfl (take_ofW HT_.out HW_.out (by kernel_rfl)) (fun _ _ _ h => h) (Or.inl ⟨by rfl, ?_⟩) hHeld ?_ ?_
               rotate_left
               ·rintro w' ⟨s0, s1, s2, s3, s4, s5, s6, s7⟩
                go_simp
                with_reducible rfl
               rotate_left
               ·simp only [Act.put, List.setIfInBounds_toArray, List.set_cons_zero, List.set_cons_succ, i64_w, i32_w]
                rfl
               refine one_ (i := 8) (N := some 65) (bs 20 131071) rfl rfl (one_of HT_.out (by kernel_rfl)) (by decide) (fun K hK => ?_)
               refine goes_ Try.func25 (by kernel_rfl) rfl #[.slice A478_0 (rd_L2 y458 x9_1).length c478_0, .agg #[.int .i64 ((rd_T39 y467 x10_3).f0), .int .i64 ((rd_T39 y467 x10_3).f1), .int .i64 ((rd_T39 y467 x10_3).f2)]] (by rfl) rfl rfl (by (try simp only [List.map_toArray, List.map_cons, List.map_nil]); first | done | rfl | (simp only [List.length_drop, List.length_take]; rfl)) ?_
               with_reducible refine (lots_Put.calls k3 _ _ (rd_L2 y458 x9_1) ((rd_T39 y467 x10_3).f0) ((rd_T39 y467 x10_3).f1) ((rd_T39 y467 x10_3).f2) t480 _ ?side1 ?side2 A49.out).mono ?_
               (case side1 => repeat (first | exact (by repeat (first | (with_reducible exact HR478_0.out) | (with_reducible refine Kd.C_alloc ?_ _) | (with_reducible refine Kd.C_drewN ?_ _) | (with_reducible refine Kd.C_drew ?_) | exact HR478_0.out)) | (with_reducible refine Kd.C_alloc ?_ _) | (with_reducible refine Kd.C_drewN ?_ _) | (with_reducible refine Kd.C_drew ?_)))
               (case side2 => exact HC478_0.out)
               rintro e w56 ⟨v481, rfl, ho0, hb⟩
               have HS0_ := (hb.cell (World.block_lt_of_cell? _ _ (hHeld.1))).trans (hHeld.1)
               have HS1_ := (hb.cell (World.block_lt_of_cell? _ _ (hHeld.2.1))).trans (hHeld.2.1)
               have HS2_ := (hb.cell (World.block_lt_of_cell? _ _ (hHeld.2.2.1))).trans (hHeld.2.2.1)
               have HS3_ := (hb.cell (World.block_lt_of_cell? _ _ (hHeld.2.2.2.1))).trans (hHeld.2.2.2.1)
               have HS4_ := (hb.cell (World.block_lt_of_cell? _ _ (hHeld.2.2.2.2.1))).trans (hHeld.2.2.2.2.1)
               have HS5_ := (hb.cell (World.block_lt_of_cell? _ _ (hHeld.2.2.2.2.2.1))).trans (hHeld.2.2.2.2.2.1)
               have HS6_ := (hb.cell (World.block_lt_of_cell? _ _ (hHeld.2.2.2.2.2.2.1))).trans (hHeld.2.2.2.2.2.2.1)
               have HS7_ := (hb.cell (World.block_lt_of_cell? _ _ (hHeld.2.2.2.2.2.2.2))).trans (hHeld.2.2.2.2.2.2.2)
               refine ⟨_, rfl, ?_⟩
               have n0_ := Aside0.mk (Kd.N_elder' (by (with_reducible repeat (first | apply Kd.N_alloc | apply Kd.N_drewN | apply Kd.N_drew)); exact HO_7.out) (Kd.R_base ho0) hb)
               have n1_ := Aside0.mk (Kd.R_elder' (kr HO_8.out) (Kd.R_base ho0) hb)
               have n2_ := Aside0.mk (Kd.V_elder' (by (with_reducible repeat (first | apply Kd.V_alloc | apply Kd.V_drewN | apply Kd.V_drew)); exact HL478_0.out) (Kd.R_base ho0) hb)
               have n3_ := Aside0.mk (Kd.V_elder' (by (with_reducible repeat (first | apply Kd.V_alloc | apply Kd.V_drewN | apply Kd.V_drew)); exact HL483_0.out) (Kd.R_base ho0) hb)
               have n4_ := Aside0.mk (Kd.R_lower (Kd.R_newB (Kd.R_new' ho0 (Kd.R_lt (kr HO_8.out))) (g := gb448) (o := .cells #[.int .i64 a1_0, .int .i64 a1_1, .int .i64 a1_2] 39 (0, 0)) (kb BK448.out)) (below_size (by repeat (first | (with_reducible first | exact HB.out | apply below_alloc | apply pw_below_drewN | apply below_drew1 | refine below_set ?_ GE448.out) | exact HB.out))))
               have n5_ := Aside0.mk (blk_below (g := gb448) (o := .cells #[.int .i64 a1_0, .int .i64 a1_1, .int .i64 a1_2] 39 (0, 0)) (kb BK448.out) hb)
               have n6_ := Aside0.mk (Kd.C_below (by repeat (first | (with_reducible exact HR478_0.out) | (with_reducible refine Kd.C_alloc ?_ _) | (with_reducible refine Kd.C_drewN ?_ _) | (with_reducible refine Kd.C_drew ?_) | exact HR478_0.out)) hb)
               have n7_ := Aside0.mk (Kd.C_below (by repeat (first | (with_reducible exact HR483_0.out) | (with_reducible refine Kd.C_alloc ?_ _) | (with_reducible refine Kd.C_drewN ?_ _) | (with_reducible refine Kd.C_drew ?_) | exact HR483_0.out)) hb)
               have n8_ := Aside0.mk (below_step (by repeat (first | (with_reducible first | exact HB.out | apply below_alloc | apply pw_below_drewN | apply below_drew1 | refine below_set ?_ GE448.out) | exact HB.out)) hb)
               clear HO_7
               clear HO_8
               clear HL478_0
               clear HL483_0
               clear BK448
               clear HR478_0
               clear HR483_0
               clear HB
               have HO_7 := n0_
               have HO_8 := n1_
               have HL478_0 := n2_
               have HL483_0 := n3_
               have HO482 := n4_
               have BK448 := n5_
               have HR478_0 := n6_
               have HR483_0 := n7_
               have HB := n8_
               clear n0_ n1_ n2_ n3_ n4_ n5_ n6_ n7_ n8_
               (try clear hb)
               (try clear hb2)
               (try clear hk)
               (try clear hi)
               (try clear ho0)
               refine hK.out _ _ ⟨HS0_, HS1_, HS2_, HS3_, HS4_, HS5_, HS6_, HS7_⟩ (fun hHeld => ?_)
               clear hK K
               refine norm_ (a' := ?_) ?_ ?_
               rotate_left
               ·show Act.put _ (some 65) _ = _
                simp only [Act.put, List.setIfInBounds_toArray, List.set_cons_zero, List.set_cons_succ, i64_w, i32_w]
                rfl
               refine one_ (i := 17) (N := some 74) (bs 20 262143) rfl rfl (one_of HT_.out (by kernel_rfl)) (by decide) (fun K hK => ?_)
               refine goes_ Try.func26 (by kernel_rfl) rfl #[.slice A478_0 (rd_L2 y458 x9_1).length c478_0, .agg #[.int .i64 ((rd_T39 y467 x10_3).f0), .int .i64 ((rd_T39 y467 x10_3).f1), .int .i64 ((rd_T39 y467 x10_3).f2)]] (by rfl) rfl rfl (by (try simp only [List.map_toArray, List.map_cons, List.map_nil]); first | done | rfl | (simp only [List.length_drop, List.length_take]; rfl)) ?_
               with_reducible refine (worldmintref14_Put.calls k3 _ _ (rd_L2 y458 x9_1) ((rd_T39 y467 x10_3).f0) ((rd_T39 y467 x10_3).f1) ((rd_T39 y467 x10_3).f2) t485 _ ?side1 ?side2 A50.out).mono ?_
               (case side1 => repeat (first | exact (by repeat (first | (with_reducible exact HR483_0.out) | (with_reducible refine Kd.C_alloc ?_ _) | (with_reducible refine Kd.C_drewN ?_ _) | (with_reducible refine Kd.C_drew ?_) | exact HR483_0.out)) | (with_reducible refine Kd.C_alloc ?_ _) | (with_reducible refine Kd.C_drewN ?_ _) | (with_reducible refine Kd.C_drew ?_)))
               (case side2 => exact HC483_0.out)
               rintro e w57 ⟨v486, rfl, ho0, hb⟩
               have HS0_ := (hb.cell (World.block_lt_of_cell? _ _ (hHeld.1))).trans (hHeld.1)
               have HS1_ := (hb.cell (World.block_lt_of_cell? _ _ (hHeld.2.1))).trans (hHeld.2.1)
               have HS2_ := (hb.cell (World.block_lt_of_cell? _ _ (hHeld.2.2.1))).trans (hHeld.2.2.1)
               have HS3_ := (hb.cell (World.block_lt_of_cell? _ _ (hHeld.2.2.2.1))).trans (hHeld.2.2.2.1)
               have HS4_ := (hb.cell (World.block_lt_of_cell? _ _ (hHeld.2.2.2.2.1))).trans (hHeld.2.2.2.2.1)
               have HS5_ := (hb.cell (World.block_lt_of_cell? _ _ (hHeld.2.2.2.2.2.1))).trans (hHeld.2.2.2.2.2.1)
               have HS6_ := (hb.cell (World.block_lt_of_cell? _ _ (hHeld.2.2.2.2.2.2.1))).trans (hHeld.2.2.2.2.2.2.1)
               have HS7_ := (hb.cell (World.block_lt_of_cell? _ _ (hHeld.2.2.2.2.2.2.2))).trans (hHeld.2.2.2.2.2.2.2)
               refine ⟨_, rfl, ?_⟩
               have n0_ := Aside0.mk (Kd.N_elder' (by (with_reducible repeat (first | apply Kd.N_alloc | apply Kd.N_drewN | apply Kd.N_drew)); exact HO_7.out) (Kd.R_base ho0) hb)
               have n1_ := Aside0.mk (Kd.R_elder' (kr HO_8.out) (Kd.R_base ho0) hb)
               have n2_ := Aside0.mk (Kd.V_elder' (by (with_reducible repeat (first | apply Kd.V_alloc | apply Kd.V_drewN | apply Kd.V_drew)); exact HL478_0.out) (Kd.R_base ho0) hb)
               have n3_ := Aside0.mk (Kd.V_elder' (by (with_reducible repeat (first | apply Kd.V_alloc | apply Kd.V_drewN | apply Kd.V_drew)); exact HL483_0.out) (Kd.R_base ho0) hb)
               have n4_ := Aside0.mk (Kd.R_elder' (kr HO482.out) (Kd.R_base ho0) hb)
               have n5_ := Aside0.mk (Kd.R_lower (Kd.R_newB (Kd.R_new' (Kd.R_new' ho0 (Kd.R_lt (kr HO_8.out))) (Kd.R_lt (kr HO482.out))) (g := gb448) (o := .cells #[.int .i64 a1_0, .int .i64 a1_1, .int .i64 a1_2] 39 (0, 0)) (kb BK448.out)) (below_size (by repeat (first | (with_reducible first | exact HB.out | apply below_alloc | apply pw_below_drewN | apply below_drew1 | refine below_set ?_ GE448.out) | exact HB.out))))
               have n6_ := Aside0.mk (blk_below (g := gb448) (o := .cells #[.int .i64 a1_0, .int .i64 a1_1, .int .i64 a1_2] 39 (0, 0)) (kb BK448.out) hb)
               have n7_ := Aside0.mk (Kd.C_below (by repeat (first | (with_reducible exact HR478_0.out) | (with_reducible refine Kd.C_alloc ?_ _) | (with_reducible refine Kd.C_drewN ?_ _) | (with_reducible refine Kd.C_drew ?_) | exact HR478_0.out)) hb)
               have n8_ := Aside0.mk (Kd.C_below (by repeat (first | (with_reducible exact HR483_0.out) | (with_reducible refine Kd.C_alloc ?_ _) | (with_reducible refine Kd.C_drewN ?_ _) | (with_reducible refine Kd.C_drew ?_) | exact HR483_0.out)) hb)
               have n9_ := Aside0.mk (below_step (by repeat (first | (with_reducible first | exact HB.out | apply below_alloc | apply pw_below_drewN | apply below_drew1 | refine below_set ?_ GE448.out) | exact HB.out)) hb)
               clear HO_7
               clear HO_8
               clear HL478_0
               clear HL483_0
               clear HO482
               clear BK448
               clear HR478_0
               clear HR483_0
               clear HB
               have HO_7 := n0_
               have HO_8 := n1_
               have HL478_0 := n2_
               have HL483_0 := n3_
               have HO482 := n4_
               have HO487 := n5_
               have BK448 := n6_
               have HR478_0 := n7_
               have HR483_0 := n8_
               have HB := n9_
               clear n0_ n1_ n2_ n3_ n4_ n5_ n6_ n7_ n8_ n9_
               (try clear hb)
               (try clear hb2)
               (try clear hk)
               (try clear hi)
               (try clear ho0)
               obtain ⟨Ao58, co58, eo58⟩ := Kd.R_slice HO482.out
               (first | subst eo58 | (injection eo58 with f1_ f2_ f3_; have f4_ := f1_.symm; have f5_ := f3_.symm; clear f1_ f2_ f3_; subst f4_; subst f5_))
               obtain ⟨Ao59, co59, eo59⟩ := Kd.R_slice HO487.out
               (first | subst eo59 | (injection eo59 with f1_ f2_ f3_; have f4_ := f1_.symm; have f5_ := f3_.symm; clear f1_ f2_ f3_; subst f4_; subst f5_))
               refine hK.out _ _ ⟨HS0_, HS1_, HS2_, HS3_, HS4_, HS5_, HS6_, HS7_⟩ (fun hHeld => ?_)
               clear hK K
               refine norm_ (a' := ?_) ?_ ?_
               rotate_left
               ·show Act.put _ (some 74) _ = _
                simp only [Act.put, List.setIfInBounds_toArray, List.set_cons_zero, List.set_cons_succ, i64_w, i32_w]
                rfl
               refine one_ (i := 18) (N := some 75) (bs 20 524287) rfl rfl (one_of HT_.out (by kernel_rfl)) (by decide) (fun K hK => ?_)
               refine goes_ Try.func18 (by kernel_rfl) rfl #[.slice Ao58 t480.length co58, .slice Ao59 t485.length co59] (by rfl) rfl rfl (by (try simp only [List.map_toArray, List.map_cons, List.map_nil]); first | done | rfl | (simp only [List.length_drop, List.length_take]; rfl)) ?_
               with_reducible refine (worldmintref14_Same.calls k3 _ _ t480 _ _ t485 true _ ?side1 ?side2 ?side3 ?side4 A51.out).mono ?_
               (case side1 => repeat (first | exact (Kd.R_reads' HO482.out).2.2 | (with_reducible refine Kd.C_alloc ?_ _) | (with_reducible refine Kd.C_drewN ?_ _) | (with_reducible refine Kd.C_drew ?_)))
               (case side2 => exact (Kd.R_reads' HO482.out).2.1)
               (case side3 => repeat (first | exact (Kd.R_reads' HO487.out).2.2 | (with_reducible refine Kd.C_alloc ?_ _) | (with_reducible refine Kd.C_drewN ?_ _) | (with_reducible refine Kd.C_drew ?_)))
               (case side4 => exact (Kd.R_reads' HO487.out).2.1)
               rintro e w' ⟨rfl, ⟨nd, rfl⟩⟩
               refine ⟨_, rfl, ?_⟩
               refine hK.out _ _ ⟨hHeld.1, hHeld.2.1, hHeld.2.2.1, hHeld.2.2.2.1, hHeld.2.2.2.2.1, hHeld.2.2.2.2.2.1, hHeld.2.2.2.2.2.2.1, hHeld.2.2.2.2.2.2.2⟩ (fun hHeld => ?_)
               clear hK K
               refine norm_ (a' := ?_) ?_ ?_
               rotate_left
               ·show Act.put _ (some 75) _ = _
                simp only [Act.put, List.setIfInBounds_toArray, List.set_cons_zero, List.set_cons_succ, i64_w, i32_w]
                rfl
               refine pu 19 76 (bs 20 1048575) HT_ ?_
               refine done_ (done_of HT_.out (by kernel_rfl)) ?_
               try go_wp2
               go_roundg k3
               case measure => have := HK1.out; have := HJ25.out; have := HK3.out; omega
               case rel => exact ⟨(wrap64 (x10_3 + 1)), eqs, H', ⟨by have := HK1.out; have := HJ25.out; have := HK3.out; omega⟩, ⟨by (with_reducible repeat (first | apply Kd.N_alloc | apply Kd.N_drewN | apply Kd.N_drew)); exact Kd.N_mono HO_7.out (fun _ hk => ⟨hk.1.1.1, hk.1.1.2⟩)⟩, ⟨by (with_reducible repeat (first | apply Kd.R_alloc | apply Kd.R_drewN | apply Kd.R_drew)); exact Kd.R_mono HO_8.out (fun _ hk => hk.1.1)⟩, ⟨kb BK448.out⟩, ⟨by repeat (first | (with_reducible first | exact HB.out | apply below_alloc | apply pw_below_drewN | apply below_drew1 | refine below_set ?_ GE448.out) | exact HB.out)⟩⟩
              ·replace c52 := Bool.eq_false_iff.mpr c52
               subst c52
               have H1 : (some false) = some r := by rw [if_neg (show ¬ (false = true) by decide)] at H; exact H
               clear H
               have H := H1
               clear H1
               obtain rfl := Option.some.inj H
               obtain ⟨Ao60, co60, eo60⟩ := Kd.R_slice HO_8.out
               subst eo60
               try go_wp2
               have n0_ := Aside0.mk (Kd.N_drew HO_7.out)
               have n1_ := Aside0.mk (Kd.R_drew HO_8.out)
               have n2_ := Aside0.mk (blk_drew BK448.out)
               have n3_ := Aside0.mk (below_drew1 HB.out)
               clear HO_7
               clear HO_8
               clear BK448
               clear HB
               have HO_7 := n0_
               have HO_8 := n1_
               have BK448 := n2_
               have HB := n3_
               clear n0_ n1_ n2_ n3_
               obtain ⟨Ao62, co62, eo62⟩ := Kd.N_slice HO_7.out
               (first | subst eo62 | (injection eo62 with f1_ f2_ f3_; have f4_ := f1_.symm; have f5_ := f3_.symm; clear f1_ f2_ f3_; subst f4_; subst f5_))
               have p478 : 0 ≤ (x9_1 : Int) := oda
               have q478 : x9_1 < (y458.length : Int) := oda
               obtain ⟨ad478, A478_0, c478_0, e478, hx478_0, hl478_0, hi478_0⟩ := at_L2 (Kd.N_reads' HO_7.out).2.2 x9_1 p478 q478
               cases e478
               obtain ⟨ce478, hce478, hMe478, hcc478⟩ := Kd.N_get HO_7.out [] x9_1 p478 (by first | exact q478 | exact oda | (have e_ := (Kd.N_reads' HO_7.out).1; omega))
               obtain ⟨ua478_0, uc478_0, rfl, ul478_0, ge478_0⟩ := Kd.FK_slice_open hMe478
               have hv478_0 := hcc478 0 _ rfl
               rw [Nat.add_zero, show ((Kd.slice 39 k39)).sz = 1 from rfl, Nat.mul_one] at hv478_0
               replace hv478_0 := Option.some.inj (hv478_0.symm.trans hx478_0)
               injection hv478_0 with hva_ hvn_ hvc_
               rw [hva_] at ge478_0
               rw [hvc_] at ul478_0
               have HL478_0 := Aside0.mk (show Kd.V k39 39 _ w.heap.size _ _ (rd_L2 y458 x9_1) from Kd.V_mk ul478_0 ge478_0)
               clear hva_ hvn_ hvc_ ge478_0 ul478_0
               clear hcc478 hce478
               have HR478_0 := Aside0.mk hi478_0
               have HC478_0 := Aside0.mk hl478_0
               clear hi478_0 hl478_0
               replace p478 := eq_true p478
               replace q478 := eq_true q478
               have p479 : 0 ≤ (x10_3 : Int) := oda
               have q479 : x10_3 < (y467.length : Int) := oda
               obtain ⟨ad479, e479, hx479_0, hx479_1, hx479_2⟩ := at_T39 (Kd.R_reads' HO_8.out).2.2 x10_3 p479 q479
               cases e479
               replace p479 := eq_true p479
               replace q479 := eq_true q479
               have p483 : 0 ≤ (x9_1 : Int) := oda
               have q483 : x9_1 < (y458.length : Int) := oda
               obtain ⟨ad483, A483_0, c483_0, e483, hx483_0, hl483_0, hi483_0⟩ := at_L2 (Kd.N_reads' HO_7.out).2.2 x9_1 p483 q483
               obtain rfl : ad478 = ad483 := (by injection e483)
               obtain ⟨ce483, hce483, hMe483, hcc483⟩ := Kd.N_get HO_7.out [] x9_1 p483 (by first | exact q483 | exact oda | (have e_ := (Kd.N_reads' HO_7.out).1; omega))
               obtain ⟨ua483_0, uc483_0, rfl, ul483_0, ge483_0⟩ := Kd.FK_slice_open hMe483
               have hv483_0 := hcc483 0 _ rfl
               rw [Nat.add_zero, show ((Kd.slice 39 k39)).sz = 1 from rfl, Nat.mul_one] at hv483_0
               replace hv483_0 := Option.some.inj (hv483_0.symm.trans hx483_0)
               injection hv483_0 with hva_ hvn_ hvc_
               rw [hva_] at ge483_0
               rw [hvc_] at ul483_0
               have HL483_0 := Aside0.mk (show Kd.V k39 39 _ w.heap.size _ _ (rd_L2 y458 x9_1) from Kd.V_mk ul483_0 ge483_0)
               clear hva_ hvn_ hvc_ ge483_0 ul483_0
               clear hcc483 hce483
               have HR483_0 := Aside0.mk hi483_0
               have HC483_0 := Aside0.mk hl483_0
               clear hi483_0 hl483_0
               replace p483 := eq_true p483
               replace q483 := eq_true q483
               have ea_ := Option.some.inj (hx478_0.symm.trans hx483_0)
               injection ea_ with ea_ en_ ec_
               subst ea_
               subst ec_
               clear en_
               have p484 : 0 ≤ (x10_3 : Int) := oda
               have q484 : x10_3 < (y467.length : Int) := oda
               obtain ⟨ad484, e484, hx484_0, hx484_1, hx484_2⟩ := at_T39 (Kd.R_reads' HO_8.out).2.2 x10_3 p484 q484
               obtain rfl : ad479 = ad484 := (by injection e484)
               replace p484 := eq_true p484
               replace q484 := eq_true q484
               refine start_ (n := 20) (S := fun w' => w'.cell? (ad478.add (x9_1).toNat) = some (.slice A478_0 (rd_L2 y458 x9_1).length c478_0) ∧ w'.cell? (ad479.add ((x10_3).toNat * 3)) = some (.int .i64 ((rd_T39 y467 x10_3).f0)) ∧ w'.cell? ⟨(ad479.add ((x10_3).toNat * 3)).block, (ad479.add ((x10_3).toNat * 3)).off + 1, none⟩ = some (.int .i64 ((rd_T39 y467 x10_3).f1)) ∧ w'.cell? ⟨(ad479.add ((x10_3).toNat * 3)).block, (ad479.add ((x10_3).toNat * 3)).off + 2, none⟩ = some (.int .i64 ((rd_T39 y467 x10_3).f2)) ∧ w'.cell? (ad478.add (x9_1).toNat) = some (.slice A478_0 (rd_L2 y458 x9_1).length c478_0) ∧ w'.cell? (ad479.add ((x10_3).toNat * 3)) = some (.int .i64 ((rd_T39 y467 x10_3).f0)) ∧ w'.cell? ⟨(ad479.add ((x10_3).toNat * 3)).block, (ad479.add ((x10_3).toNat * 3)).off + 1, none⟩ = some (.int .i64 ((rd_T39 y467 x10_3).f1)) ∧ w'.cell? ⟨(ad479.add ((x10_3).toNat * 3)).block, (ad479.add ((x10_3).toNat * 3)).off + 2, none⟩ = some (.int .i64 ((rd_T39 y467 x10_3).f2))) (ds := []) (bs 20 0) (by kernel_rfl) rfl rfl ⟨hx478_0, hx479_0, hx479_1, hx479_2, hx483_0, hx484_0, hx484_1, hx484_2⟩ (fun hHeld => ?_); refine with_tabW worldmintlaw14_LotsStacks.tab11 worldmintlaw14_LotsStacks.bits11 (fun HT_ HW_ => ?_)
               generalize wr.drew = w61 at HO_7 HO_8 BK448 HB HL478_0 HL483_0 HR478_0 HR483_0 hx478_0 hx479_0 hx479_1 hx479_2 hx483_0 hx484_0 hx484_1 hx484_2 hHeld ⊢
               refine pu 0 57 (bs 20 1) HT_ ?_
               refine pu 1 58 (bs 20 3) HT_ ?_
               refine pu 2 59 (bs 20 7) HT_ ?_
               refine pu 4 61 (bs 20 23) HT_ ?_
               refine pu 5 62 (bs 20 55) HT_ ?_
               refine pu 6 63 (bs 20 119) HT_ ?_
               refine pu 9 66 (bs 20 631) HT_ ?_
               refine pu 10 67 (bs 20 1655) HT_ ?_
               refine pu 11 68 (bs 20 3703) HT_ ?_
               refine pu 13 70 (bs 20 11895) HT_ ?_
               refine pu 14 71 (bs 20 28279) HT_ ?_
               refine pu 15 72 (bs 20 61047) HT_ ?_
               refine take_ (i := 3) (N := some 60) (v := ?_) (a' := ?_) (bs 20 61055) rfl rfl (take_ofW HT_.out HW_.out (by kernel_rfl)) (fun _ _ _ h => h) (Or.inl ⟨by rfl, ?_⟩) hHeld ?_ ?_
               rotate_left
               ·rintro w' ⟨s0, s1, s2, s3, s4, s5, s6, s7⟩
                go_simp
                with_reducible rfl
               rotate_left
               ·simp only [Act.put, List.setIfInBounds_toArray, List.set_cons_zero, List.set_cons_succ, i64_w, i32_w]
                rfl
               refine take_ (i := 7) (N := some 64) (v := ?_) (a' := ?_) (bs 20 61183) rfl rfl (take_ofW HT_.out HW_.out (by kernel_rfl)) (fun _ _ _ h => h) (Or.inl ⟨by rfl, ?_⟩) hHeld ?_ ?_
               rotate_left
               ·rintro w' ⟨s0, s1, s2, s3, s4, s5, s6, s7⟩
                go_simp
                with_reducible rfl
               rotate_left
               ·simp only [Act.put, List.setIfInBounds_toArray, List.set_cons_zero, List.set_cons_succ, i64_w, i32_w]
                rfl
               refine take_ (i := 12) (N := some 69) (v := ?_) (a' := ?_) (bs 20 65279) rfl rfl (take_ofW HT_.out HW_.out (by kernel_rfl)) (fun _ _ _ h => h) (Or.inl ⟨by rfl, ?_⟩) hHeld ?_ ?_
               rotate_left
               ·rintro w' ⟨s0, s1, s2, s3, s4, s5, s6, s7⟩
                go_simp
                with_reducible rfl
               rotate_left
               ·simp only [Act.put, List.setIfInBounds_toArray, List.set_cons_zero, List.set_cons_succ, i64_w, i32_w]
                rfl
               refine take_ (i := 16) (N := some 73) (v := ?_) (a' := ?_) (bs 20 130815) rfl rfl (take_ofW HT_.out HW_.out (by kernel_rfl)) (fun _ _ _ h => h) (Or.inl ⟨by rfl, ?_⟩) hHeld ?_ ?_
               rotate_left
               ·rintro w' ⟨s0, s1, s2, s3, s4, s5, s6, s7⟩
                go_simp
                with_reducible rfl
               rotate_left
               ·simp only [Act.put, List.setIfInBounds_toArray, List.set_cons_zero, List.set_cons_succ, i64_w, i32_w]
                rfl
               refine one_ (i := 8) (N := some 65) (bs 20 131071) rfl rfl (one_of HT_.out (by kernel_rfl)) (by decide) (fun K hK => ?_)
               refine goes_ Try.func25 (by kernel_rfl) rfl #[.slice A478_0 (rd_L2 y458 x9_1).length c478_0, .agg #[.int .i64 ((rd_T39 y467 x10_3).f0), .int .i64 ((rd_T39 y467 x10_3).f1), .int .i64 ((rd_T39 y467 x10_3).f2)]] (by rfl) rfl rfl (by (try simp only [List.map_toArray, List.map_cons, List.map_nil]); first | done | rfl | (simp only [List.length_drop, List.length_take]; rfl)) ?_
               with_reducible refine (lots_Put.calls k3 _ _ (rd_L2 y458 x9_1) ((rd_T39 y467 x10_3).f0) ((rd_T39 y467 x10_3).f1) ((rd_T39 y467 x10_3).f2) t480 _ ?side1 ?side2 A49.out).mono ?_
               (case side1 => repeat (first | exact (by repeat (first | (with_reducible exact HR478_0.out) | (with_reducible refine Kd.C_alloc ?_ _) | (with_reducible refine Kd.C_drewN ?_ _) | (with_reducible refine Kd.C_drew ?_) | exact HR478_0.out)) | (with_reducible refine Kd.C_alloc ?_ _) | (with_reducible refine Kd.C_drewN ?_ _) | (with_reducible refine Kd.C_drew ?_)))
               (case side2 => exact HC478_0.out)
               rintro e w63 ⟨v481, rfl, ho0, hb⟩
               have HS0_ := (hb.cell (World.block_lt_of_cell? _ _ (hHeld.1))).trans (hHeld.1)
               have HS1_ := (hb.cell (World.block_lt_of_cell? _ _ (hHeld.2.1))).trans (hHeld.2.1)
               have HS2_ := (hb.cell (World.block_lt_of_cell? _ _ (hHeld.2.2.1))).trans (hHeld.2.2.1)
               have HS3_ := (hb.cell (World.block_lt_of_cell? _ _ (hHeld.2.2.2.1))).trans (hHeld.2.2.2.1)
               have HS4_ := (hb.cell (World.block_lt_of_cell? _ _ (hHeld.2.2.2.2.1))).trans (hHeld.2.2.2.2.1)
               have HS5_ := (hb.cell (World.block_lt_of_cell? _ _ (hHeld.2.2.2.2.2.1))).trans (hHeld.2.2.2.2.2.1)
               have HS6_ := (hb.cell (World.block_lt_of_cell? _ _ (hHeld.2.2.2.2.2.2.1))).trans (hHeld.2.2.2.2.2.2.1)
               have HS7_ := (hb.cell (World.block_lt_of_cell? _ _ (hHeld.2.2.2.2.2.2.2))).trans (hHeld.2.2.2.2.2.2.2)
               refine ⟨_, rfl, ?_⟩
               have n0_ := Aside0.mk (Kd.N_elder' (by (with_reducible repeat (first | apply Kd.N_alloc | apply Kd.N_drewN | apply Kd.N_drew)); exact HO_7.out) (Kd.R_base ho0) hb)
               have n1_ := Aside0.mk (Kd.R_elder' (kr HO_8.out) (Kd.R_base ho0) hb)
               have n2_ := Aside0.mk (Kd.V_elder' (by (with_reducible repeat (first | apply Kd.V_alloc | apply Kd.V_drewN | apply Kd.V_drew)); exact HL478_0.out) (Kd.R_base ho0) hb)
               have n3_ := Aside0.mk (Kd.V_elder' (by (with_reducible repeat (first | apply Kd.V_alloc | apply Kd.V_drewN | apply Kd.V_drew)); exact HL483_0.out) (Kd.R_base ho0) hb)
               have n4_ := Aside0.mk (Kd.R_lower (Kd.R_newB (Kd.R_new' ho0 (Kd.R_lt (kr HO_8.out))) (g := gb448) (o := .cells #[.int .i64 a1_0, .int .i64 a1_1, .int .i64 a1_2] 39 (0, 0)) (kb BK448.out)) (below_size (by repeat (first | (with_reducible first | exact HB.out | apply below_alloc | apply pw_below_drewN | apply below_drew1 | refine below_set ?_ GE448.out) | exact HB.out))))
               have n5_ := Aside0.mk (blk_below (g := gb448) (o := .cells #[.int .i64 a1_0, .int .i64 a1_1, .int .i64 a1_2] 39 (0, 0)) (kb BK448.out) hb)
               have n6_ := Aside0.mk (Kd.C_below (by repeat (first | (with_reducible exact HR478_0.out) | (with_reducible refine Kd.C_alloc ?_ _) | (with_reducible refine Kd.C_drewN ?_ _) | (with_reducible refine Kd.C_drew ?_) | exact HR478_0.out)) hb)
               have n7_ := Aside0.mk (Kd.C_below (by repeat (first | (with_reducible exact HR483_0.out) | (with_reducible refine Kd.C_alloc ?_ _) | (with_reducible refine Kd.C_drewN ?_ _) | (with_reducible refine Kd.C_drew ?_) | exact HR483_0.out)) hb)
               have n8_ := Aside0.mk (below_step (by repeat (first | (with_reducible first | exact HB.out | apply below_alloc | apply pw_below_drewN | apply below_drew1 | refine below_set ?_ GE448.out) | exact HB.out)) hb)
               clear HO_7
               clear HO_8
               clear HL478_0
               clear HL483_0
               clear BK448
               clear HR478_0
               clear HR483_0
               clear HB
               have HO_7 := n0_
               have HO_8 := n1_
               have HL478_0 := n2_
               have HL483_0 := n3_
               have HO482 := n4_
               have BK448 := n5_
               have HR478_0 := n6_
               have HR483_0 := n7_
               have HB := n8_
               clear n0_ n1_ n2_ n3_ n4_ n5_ n6_ n7_ n8_
               (try clear hb)
               (try clear hb2)
               (try clear hk)
               (try clear hi)
               (try clear ho0)
               refine hK.out _ _ ⟨HS0_, HS1_, HS2_, HS3_, HS4_, HS5_, HS6_, HS7_⟩ (fun hHeld => ?_)
               clear hK K
               refine norm_ (a' := ?_) ?_ ?_
               rotate_left
               ·show Act.put _ (some 65) _ = _
                simp only [Act.put, List.setIfInBounds_toArray, List.set_cons_zero, List.set_cons_succ, i64_w, i32_w]
                rfl
               refine one_ (i := 17) (N := some 74) (bs 20 262143) rfl rfl (one_of HT_.out (by kernel_rfl)) (by decide) (fun K hK => ?_)
               refine goes_ Try.func26 (by kernel_rfl) rfl #[.slice A478_0 (rd_L2 y458 x9_1).length c478_0, .agg #[.int .i64 ((rd_T39 y467 x10_3).f0), .int .i64 ((rd_T39 y467 x10_3).f1), .int .i64 ((rd_T39 y467 x10_3).f2)]] (by rfl) rfl rfl (by (try simp only [List.map_toArray, List.map_cons, List.map_nil]); first | done | rfl | (simp only [List.length_drop, List.length_take]; rfl)) ?_
               with_reducible refine (worldmintref14_Put.calls k3 _ _ (rd_L2 y458 x9_1) ((rd_T39 y467 x10_3).f0) ((rd_T39 y467 x10_3).f1) ((rd_T39 y467 x10_3).f2) t485 _ ?side1 ?side2 A50.out).mono ?_
               (case side1 => repeat (first | exact (by repeat (first | (with_reducible exact HR483_0.out) | (with_reducible refine Kd.C_alloc ?_ _) | (with_reducible refine Kd.C_drewN ?_ _) | (with_reducible refine Kd.C_drew ?_) | exact HR483_0.out)) | (with_reducible refine Kd.C_alloc ?_ _) | (with_reducible refine Kd.C_drewN ?_ _) | (with_reducible refine Kd.C_drew ?_)))
               (case side2 => exact HC483_0.out)
               rintro e w64 ⟨v486, rfl, ho0, hb⟩
               have HS0_ := (hb.cell (World.block_lt_of_cell? _ _ (hHeld.1))).trans (hHeld.1)
               have HS1_ := (hb.cell (World.block_lt_of_cell? _ _ (hHeld.2.1))).trans (hHeld.2.1)
               have HS2_ := (hb.cell (World.block_lt_of_cell? _ _ (hHeld.2.2.1))).trans (hHeld.2.2.1)
               have HS3_ := (hb.cell (World.block_lt_of_cell? _ _ (hHeld.2.2.2.1))).trans (hHeld.2.2.2.1)
               have HS4_ := (hb.cell (World.block_lt_of_cell? _ _ (hHeld.2.2.2.2.1))).trans (hHeld.2.2.2.2.1)
               have HS5_ := (hb.cell (World.block_lt_of_cell? _ _ (hHeld.2.2.2.2.2.1))).trans (hHeld.2.2.2.2.2.1)
               have HS6_ := (hb.cell (World.block_lt_of_cell? _ _ (hHeld.2.2.2.2.2.2.1))).trans (hHeld.2.2.2.2.2.2.1)
               have HS7_ := (hb.cell (World.block_lt_of_cell? _ _ (hHeld.2.2.2.2.2.2.2))).trans (hHeld.2.2.2.2.2.2.2)
               refine ⟨_, rfl, ?_⟩
               have n0_ := Aside0.mk (Kd.N_elder' (by (with_reducible repeat (first | apply Kd.N_alloc | apply Kd.N_drewN | apply Kd.N_drew)); exact HO_7.out) (Kd.R_base ho0) hb)
               have n1_ := Aside0.mk (Kd.R_elder' (kr HO_8.out) (Kd.R_base ho0) hb)
               have n2_ := Aside0.mk (Kd.V_elder' (by (with_reducible repeat (first | apply Kd.V_alloc | apply Kd.V_drewN | apply Kd.V_drew)); exact HL478_0.out) (Kd.R_base ho0) hb)
               have n3_ := Aside0.mk (Kd.V_elder' (by (with_reducible repeat (first | apply Kd.V_alloc | apply Kd.V_drewN | apply Kd.V_drew)); exact HL483_0.out) (Kd.R_base ho0) hb)
               have n4_ := Aside0.mk (Kd.R_elder' (kr HO482.out) (Kd.R_base ho0) hb)
               have n5_ := Aside0.mk (Kd.R_lower (Kd.R_newB (Kd.R_new' (Kd.R_new' ho0 (Kd.R_lt (kr HO_8.out))) (Kd.R_lt (kr HO482.out))) (g := gb448) (o := .cells #[.int .i64 a1_0, .int .i64 a1_1, .int .i64 a1_2] 39 (0, 0)) (kb BK448.out)) (below_size (by repeat (first | (with_reducible first | exact HB.out | apply below_alloc | apply pw_below_drewN | apply below_drew1 | refine below_set ?_ GE448.out) | exact HB.out))))
               have n6_ := Aside0.mk (blk_below (g := gb448) (o := .cells #[.int .i64 a1_0, .int .i64 a1_1, .int .i64 a1_2] 39 (0, 0)) (kb BK448.out) hb)
               have n7_ := Aside0.mk (Kd.C_below (by repeat (first | (with_reducible exact HR478_0.out) | (with_reducible refine Kd.C_alloc ?_ _) | (with_reducible refine Kd.C_drewN ?_ _) | (with_reducible refine Kd.C_drew ?_) | exact HR478_0.out)) hb)
               have n8_ := Aside0.mk (Kd.C_below (by repeat (first | (with_reducible exact HR483_0.out) | (with_reducible refine Kd.C_alloc ?_ _) | (with_reducible refine Kd.C_drewN ?_ _) | (with_reducible refine Kd.C_drew ?_) | exact HR483_0.out)) hb)
               have n9_ := Aside0.mk (below_step (by repeat (first | (with_reducible first | exact HB.out | apply below_alloc | apply pw_below_drewN | apply below_drew1 | refine below_set ?_ GE448.out) | exact HB.out)) hb)
               clear HO_7
               clear HO_8
               clear HL478_0
               clear HL483_0
               clear HO482
               clear BK448
               clear HR478_0
               clear HR483_0
               clear HB
               have HO_7 := n0_
               have HO_8 := n1_
               have HL478_0 := n2_
               have HL483_0 := n3_
               have HO482 := n4_
               have HO487 := n5_
               have BK448 := n6_
               have HR478_0 := n7_
               have HR483_0 := n8_
               have HB := n9_
               clear n0_ n1_ n2_ n3_ n4_ n5_ n6_ n7_ n8_ n9_
               (try clear hb)
               (try clear hb2)
               (try clear hk)
               (try clear hi)
               (try clear ho0)
               obtain ⟨Ao65, co65, eo65⟩ := Kd.R_slice HO482.out
               (first | subst eo65 | (injection eo65 with f1_ f2_ f3_; have f4_ := f1_.symm; have f5_ := f3_.symm; clear f1_ f2_ f3_; subst f4_; subst f5_))
               obtain ⟨Ao66, co66, eo66⟩ := Kd.R_slice HO487.out
               (first | subst eo66 | (injection eo66 with f1_ f2_ f3_; have f4_ := f1_.symm; have f5_ := f3_.symm; clear f1_ f2_ f3_; subst f4_; subst f5_))
               refine hK.out _ _ ⟨HS0_, HS1_, HS2_, HS3_, HS4_, HS5_, HS6_, HS7_⟩ (fun hHeld => ?_)
               clear hK K
               refine norm_ (a' := ?_) ?_ ?_
               rotate_left
               ·show Act.put _ (some 74) _ = _
                simp only [Act.put, List.setIfInBounds_toArray, List.set_cons_zero, List.set_cons_succ, i64_w, i32_w]
                rfl
               refine one_ (i := 18) (N := some 75) (bs 20 524287) rfl rfl (one_of HT_.out (by kernel_rfl)) (by decide) (fun K hK => ?_)
               refine goes_ Try.func18 (by kernel_rfl) rfl #[.slice Ao65 t480.length co65, .slice Ao66 t485.length co66] (by rfl) rfl rfl (by (try simp only [List.map_toArray, List.map_cons, List.map_nil]); first | done | rfl | (simp only [List.length_drop, List.length_take]; rfl)) ?_
               with_reducible refine (worldmintref14_Same.calls k3 _ _ t480 _ _ t485 false _ ?side1 ?side2 ?side3 ?side4 A51.out).mono ?_
               (case side1 => repeat (first | exact (Kd.R_reads' HO482.out).2.2 | (with_reducible refine Kd.C_alloc ?_ _) | (with_reducible refine Kd.C_drewN ?_ _) | (with_reducible refine Kd.C_drew ?_)))
               (case side2 => exact (Kd.R_reads' HO482.out).2.1)
               (case side3 => repeat (first | exact (Kd.R_reads' HO487.out).2.2 | (with_reducible refine Kd.C_alloc ?_ _) | (with_reducible refine Kd.C_drewN ?_ _) | (with_reducible refine Kd.C_drew ?_)))
               (case side4 => exact (Kd.R_reads' HO487.out).2.1)
               rintro e w' ⟨rfl, ⟨nd, rfl⟩⟩
               refine ⟨_, rfl, ?_⟩
               refine hK.out _ _ ⟨hHeld.1, hHeld.2.1, hHeld.2.2.1, hHeld.2.2.2.1, hHeld.2.2.2.2.1, hHeld.2.2.2.2.2.1, hHeld.2.2.2.2.2.2.1, hHeld.2.2.2.2.2.2.2⟩ (fun hHeld => ?_)
               clear hK K
               refine norm_ (a' := ?_) ?_ ?_
               rotate_left
               ·show Act.put _ (some 75) _ = _
                simp only [Act.put, List.setIfInBounds_toArray, List.set_cons_zero, List.set_cons_succ, i64_w, i32_w]
                rfl
               refine pu 19 76 (bs 20 1048575) HT_ ?_
               refine done_ (done_of HT_.out (by kernel_rfl)) ?_
               try go_wp2
               go_ret
               exact ⟨by first | rfl | (simp [errW_none, errW_some] <;> rfl) | (simp [*, errW_none, errW_some] <;> rfl), by repeat (first | (with_reducible first | exact HB.out | apply below_alloc | apply pw_below_drewN | apply below_drew1 | refine below_set ?_ GE448.out) | exact HB.out)⟩
             ·rw [if_neg c48] at H
              exact absurd H (by simp)
            ·rw [if_neg c47] at H
             exact absurd H (by simp)
           ·rw [if_neg c46] at H
            exact absurd H (by simp)
          ·rw [if_neg c45] at H
           have c45b0 : decide (x10_3 < (y467.length : Int)) = false := decide_eq_false c45
           clear c45
           have H' := Aside0.mk H
           clear H
           obtain ⟨Ao67, co67, eo67⟩ := Kd.R_slice HO_8.out
           subst eo67
           go_wp2
           go_roundg k3
           case measure => have := HK1.out; have := HJ25.out; have := HK3.out; omega
           case rel => exact ⟨(wrap64 (x9_1 + 1)), eqs, H', ⟨by have := HK1.out; have := HJ25.out; have := HK3.out; omega⟩, ⟨by (with_reducible repeat (first | apply Kd.N_alloc | apply Kd.N_drewN | apply Kd.N_drew)); exact HO_7.out⟩, ⟨kr HO_8.out⟩, ⟨kb BK448.out⟩, ⟨by repeat (first | (with_reducible first | exact HB.out | apply below_alloc | apply pw_below_drewN | apply below_drew1 | refine below_set ?_ GE448.out) | exact HB.out)⟩⟩
    ·rw [if_neg c25] at H
     have c25b0 : decide (x9_1 < 3) = false := decide_eq_false c25
     clear c25
     replace H := Option.bind_eq_some_iff.mp H
     obtain ⟨t489, A680, H⟩ := H
     replace H : (some t489) = some r := H
     have A68 := Aside0.mk A680
     clear A680
     obtain rfl := Option.some.inj H
     go_wp2_with (first | ((with_reducible refine gate_callee (f := 19) rfl ?_); refine goesL_ (some 77) rfl rfl Try.func19 (by kernel_rfl) rfl #[] rfl (by (try simp only [List.map_toArray, List.map_cons, List.map_nil]); first | done | rfl | (simp only [List.length_drop, List.length_take]; rfl)) ?_; (with_reducible refine (worldmintlaw14_lives.calls k1  t489 _ A68.out).mono ?_); rintro e w69 ⟨rfl, hb⟩; refine ⟨_, rfl, ?_⟩; have n0_ := Aside0.mk (Kd.N_below (by (with_reducible repeat (first | apply Kd.N_alloc | apply Kd.N_drewN | apply Kd.N_drew)); exact HO_7.out) hb); have n1_ := Aside0.mk (Kd.R_below (kr HO_8.out) hb); have n2_ := Aside0.mk (blk_below (g := gb448) (o := .cells #[.int .i64 a1_0, .int .i64 a1_1, .int .i64 a1_2] 39 (0, 0)) (kb BK448.out) hb); have n3_ := Aside0.mk (below_step (by repeat (first | (with_reducible first | exact HB.out | apply below_alloc | apply pw_below_drewN | apply below_drew1 | refine below_set ?_ GE448.out) | exact HB.out)) hb); clear HO_7; clear HO_8; clear BK448; clear HB; have HO_7 := n0_; have HO_8 := n1_; have BK448 := n2_; have HB := n3_; clear n0_ n1_ n2_ n3_; (try clear hb); (try clear hb2); (try clear hk); (try clear hi)))
     go_ret
     exact ⟨by first | rfl | (simp [errW_none, errW_some] <;> rfl) | (simp [*, errW_none, errW_some] <;> rfl), by repeat (first | (with_reducible first | exact HB.out | apply below_alloc | apply pw_below_drewN | apply below_drew1 | refine below_set ?_ GE448.out) | exact HB.out)⟩
 ·rw [if_neg c8] at H
  exact absurd H (by simp)
end Go.Proofs.Ytcicjbgfahdejaa.P
