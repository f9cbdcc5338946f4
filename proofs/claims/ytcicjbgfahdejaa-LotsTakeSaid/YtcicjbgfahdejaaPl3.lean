-- Written by a program of this session (wip/tools), out of the translation. Not trusted: Lean checks it.
import Derived.Test.YtcicjbgfahdejaaPx1
import Derived.Test.YtcicjbgfahdejaaPD
import Derived.Test.YtcicjbgfahdejaaPc1
import Derived.Test.YtcicjbgfahdejaaPc2
import Derived.Test.YtcicjbgfahdejaaPt2
import Derived.Test.YtcicjbgfahdejaaPc3
import Derived.Test.YtcicjbgfahdejaaPc5
namespace Go.Proofs.Ytcicjbgfahdejaa.P
open Go.RowKit Go.Proofs.YtcicjbgfahdejaaW.PrintWords Go.Proofs.YtcicjbgfahdejaaW.PrintLast Go.Proofs.YtcicjbgfahdejaaW.PrintMore
attribute [local go_sem] max2_int min2_int max_two min_two max_three min_three max_four min_four   -- for this text's walks alone
set_option linter.unusedVariables false
set_option linter.unusedSimpArgs false

/-! ### worldmintlaw14_LotsTake -/
def worldmintlaw14_LotsTake.T9 : Bool × List (List Nat × List Nat) := (true, [([], []), ([], []), ([0, 1], [0, 1]), ([2], [2]), ([], []), ([], []), ([5], [5]), ([4, 6], [4, 6]), ([7], [7]), ([], []), ([9], [9]), ([3, 8, 10], [3, 8, 10]), ([11], [11]), ([12], [12]), ([12], [12]), ([12], [12]), ([13, 11, 0, 1, 2, 3, 4, 5, 6, 7, 8, 9, 10, 11, 12, 13], [13]), ([14, 16, 0, 1, 2, 3, 4, 5, 6, 7, 8, 9, 10, 11, 12, 13, 14, 16], [14]), ([15, 17, 0, 1, 2, 3, 4, 5, 6, 7, 8, 9, 10, 11, 12, 13, 14, 15, 16, 17], [15])])
def worldmintlaw14_LotsTake.B9 : List Nat := [0, 0, 3, 7, 0, 0, 32, 112, 240, 0, 512, 2047, 4095, 8191, 8191, 8191, 16383, 98303, 262143]
theorem worldmintlaw14_LotsTake.tab9 : rtab .any (opsOf Try.f3 9) = worldmintlaw14_LotsTake.T9 := by kernel_rfl
theorem worldmintlaw14_LotsTake.bits9 : waitsOk worldmintlaw14_LotsTake.T9.2 worldmintlaw14_LotsTake.B9 = true := by kernel_rfl
def worldmintlaw14_LotsTake.T10 : Bool × List (List Nat × List Nat) := (true, [([], []), ([], []), ([0, 1], [0, 1]), ([2], [2]), ([], []), ([], []), ([5], [5]), ([4, 6], [4, 6]), ([7], [7]), ([], []), ([9], [9]), ([3, 8, 10], [3, 8, 10]), ([11], [11]), ([12], [12]), ([12], [12]), ([12], [12]), ([13, 11, 0, 1, 2, 3, 4, 5, 6, 7, 8, 9, 10, 11, 12, 13], [13]), ([14, 16, 0, 1, 2, 3, 4, 5, 6, 7, 8, 9, 10, 11, 12, 13, 14, 16], [14]), ([15, 17, 0, 1, 2, 3, 4, 5, 6, 7, 8, 9, 10, 11, 12, 13, 14, 15, 16, 17], [15])])
def worldmintlaw14_LotsTake.B10 : List Nat := [0, 0, 3, 7, 0, 0, 32, 112, 240, 0, 512, 2047, 4095, 8191, 8191, 8191, 16383, 98303, 262143]
theorem worldmintlaw14_LotsTake.tab10 : rtab .any (opsOf Try.f3 10) = worldmintlaw14_LotsTake.T10 := by kernel_rfl
theorem worldmintlaw14_LotsTake.bits10 : waitsOk worldmintlaw14_LotsTake.T10.2 worldmintlaw14_LotsTake.B10 = true := by kernel_rfl
set_option maxHeartbeats 8000000 in
set_option maxRecDepth 100000 in
theorem worldmintlaw14_LotsTake.calls (k : Nat) (A0 : Option Addr) (c0 : Nat) (l0 : List (S39)) (A1 : Option Addr) (c1 : Nat) (l1 : List Int) (a2 : Int) (r : Bool) (w : World) (hr0 : Kd.C k39 w A0 l0.length l0) (hc0 : l0.length ≤ c0) (hr1 : Kd.C (Kd.int .i64) w A1 l1.length l1) (hc1 : l1.length ≤ c1) (h : worldmintlaw14_LotsTake.f k l0 l1 a2 = some r) :
  Calls Try.prog 3 #[.slice A0 l0.length c0, .slice A1 l1.length c1, .int .i64 a2] w fun e w' => e = .returned (.bool r) ∧ Below w.heap.size w w' := by
 have HR0 := Aside0.mk hr0
 have HC0 := Aside0.mk hc0
 clear hr0 hc0
 have HR1 := Aside0.mk hr1
 have HC1 := Aside0.mk hc1
 clear hr1 hc1
 have HB := Aside0.mk (Below.refl w.heap.size w)
 have H : ((worldmintlaw14_few.f l0).bind fun t349 => ((worldmintref14_Lots.f k l1 0).bind fun t352 => (worldmintlaw14_LotsTake.l0 k a2 (([t349, t352] : List (List (S39)))) 0))) = some r := h
 clear h
 replace H := Option.bind_eq_some_iff.mp H
 obtain ⟨t349, A40, H⟩ := H
 replace H : ((worldmintref14_Lots.f k l1 0).bind fun t352 => (worldmintlaw14_LotsTake.l0 k a2 (([t349, t352] : List (List (S39)))) 0)) = some r := H
 have A4 := Aside0.mk A40
 clear A40
 replace H := Option.bind_eq_some_iff.mp H
 obtain ⟨t352, A50, H⟩ := H
 replace H : (worldmintlaw14_LotsTake.l0 k a2 (([t349, t352] : List (List (S39)))) 0) = some r := H
 have A5 := Aside0.mk A50
 clear A50
 obtain ⟨y355, hy355⟩ : ∃ y_ : List (List (S39)), y_ = (([t349, t352] : List (List (S39)))) := ⟨_, rfl⟩
 replace H : (worldmintlaw14_LotsTake.l0 k a2 y355 0) = some r := by first | (rw [hy355]; with_reducible exact H) | (have H2_ := (Option.bind_some _ _).symm.trans H; rw [hy355]; with_reducible exact H2_) | (have H2_ := (Option.bind_some _ _).symm.trans H; with_reducible exact H2_) | with_reducible exact H | (rw [hy355]; exact H) | exact H
 have Ny355 := Aside0.mk hy355
 clear hy355
 have H' := Aside0.mk H
 clear H
 go_enter Try.func3, Try.ntmps3
 go_wp2_with (first | ((with_reducible refine gate_callee (f := 12) rfl ?_); refine goesL_ (some 18) rfl rfl Try.func12 (by kernel_rfl) rfl #[.slice A0 l0.length c0] rfl (by (try simp only [List.map_toArray, List.map_cons, List.map_nil]); first | done | rfl | (simp only [List.length_drop, List.length_take]; rfl)) ?_; (with_reducible refine (worldmintlaw14_few.calls _ _ l0 t349 _ ?side1 ?side2 A4.out).mono ?_); (case side1 => repeat (first | exact HR0.out | (with_reducible refine Kd.C_alloc ?_ _) | (with_reducible refine Kd.C_drewN ?_ _) | (with_reducible refine Kd.C_drew ?_))); (case side2 => exact HC0.out); rintro e w6 ⟨v350, rfl, ho0, hb⟩; refine ⟨_, rfl, ?_⟩; have n0_ := Aside0.mk (Kd.R_lower ho0 (below_size (bw))); have n1_ := Aside0.mk (below_step (bw) hb); clear HB; have HO351 := n0_; have HB := n1_; clear n0_ n1_; (try clear hb); (try clear hb2); (try clear hk); (try clear hi); (try clear ho0)) | ((with_reducible refine gate_callee (f := 13) rfl ?_); refine goesL_ (some 20) rfl rfl Try.func13 (by kernel_rfl) rfl #[.slice A1 l1.length c1, .int .i64 0] rfl (by (try simp only [List.map_toArray, List.map_cons, List.map_nil]); first | done | rfl | (simp only [List.length_drop, List.length_take]; rfl)) ?_; (with_reducible refine (worldmintref14_Lots.calls k _ _ l1 0 t352 _ ?side1 ?side2 A5.out).mono ?_); (case side1 => repeat (first | exact (Kd.C_below HR1.out HB.out) | (with_reducible refine Kd.C_alloc ?_ _) | (with_reducible refine Kd.C_drewN ?_ _) | (with_reducible refine Kd.C_drew ?_))); (case side2 => exact HC1.out); rintro e w7 ⟨v353, rfl, ho0, hb⟩; refine ⟨_, rfl, ?_⟩; have n0_ := Aside0.mk (Kd.R_elder' (kr HO351.out) (Kd.R_base ho0) hb); have n1_ := Aside0.mk (Kd.R_lower (Kd.R_new' ho0 (Kd.R_lt (kr HO351.out))) (below_size (bw))); have n2_ := Aside0.mk (below_step (bw) hb); clear HO351; clear HB; have HO351 := n0_; have HO354 := n1_; have HB := n2_; clear n0_ n1_ n2_; (try clear hb); (try clear hb2); (try clear hk); (try clear hi); (try clear ho0); obtain ⟨Ao8, co8, eo8⟩ := Kd.R_slice HO351.out; subst eo8; obtain ⟨Ao9, co9, eo9⟩ := Kd.R_slice HO354.out; subst eo9) | ((with_reducible refine gate_dst (N := 21) rfl ?_); refine Kd.N_lit (Kd.slice 39 k39) _ 22 ?hg (N' := 21) ?hd (xs := ([t349, t352] : List (List (S39)))) (inner := [.slice Ao8 t349.length co8, .slice Ao9 t352.length co9]) (ok := (fun _ => True)) (okp := (fun _ => True)) ?hr ?hp (fun _ hk => hk) ((show ∀ k_, w7.heap.size ≤ k_ → (fun _ => True) k_ from fun k_ hk => trivial) _ (Nat.le_refl _)) (Below.refl _ _) (Nat.le_refl _) (by simp) ?_; (case hd => rfl); (case hg => rfl); (case hr => first | (go_simp; done) | (go_simp; rfl)); (case hp => exact (Reps.one (show Kd.FK (Kd.slice 39 k39) _ _ t349 [.slice Ao8 t349.length co8] from (Kd.FK_slice_mk (Kd.R_reads' (Kd.R_mono (ok' := (fun _ => True)) (HO351.out) (fun k_ hk => trivial))).2.1 (Kd.R_F (Kd.R_mono (ok' := (fun _ => True)) (HO351.out) (fun k_ hk => trivial))))) (Reps.one (show Kd.FK (Kd.slice 39 k39) _ _ t352 [.slice Ao9 t352.length co9] from (Kd.FK_slice_mk (Kd.R_reads' (Kd.R_mono (ok' := (fun _ => True)) (HO354.out) (fun k_ hk => trivial))).2.1 (Kd.R_F (Kd.R_mono (ok' := (fun _ => True)) (HO354.out) (fun k_ hk => trivial))))) (Reps.none _ _)))); intro v356 w10 ho11 hb hg_ hnew_; clear hg_ hnew_; (first | rw [← Ny355.out] at ho11 | (simp only [Int.reduceToNat] at ho11; rw [← Ny355.out] at ho11)); have n0_ := Aside0.mk (Kd.N_lower ho11 (below_size (bw))); have n1_ := Aside0.mk (below_step (bw) hb); clear HB; clear HO351; clear HO354; have HO357 := n0_; have HB := n1_; clear n0_ n1_; clear hb ho11))
 go_loopg [8] k (fun kq v8 w' => ∃ (x8_1 : Int), v8 = .int .i64 x8_1 ∧ Aside0 (worldmintlaw14_LotsTake.l0 kq a2 y355 x8_1 = some r) ∧ Aside0 (kq ≤ k) ∧ Aside0 (Kd.N (Kd.slice 39 k39) 22 w' w.heap.size (fun _ => True) v356 y355) ∧ Aside0 (Below w.heap.size w w'))
 case atStart => exact ⟨(0), eqs, H', ⟨Nat.le_refl _⟩, ⟨by (with_reducible repeat (first | apply Kd.N_alloc | apply Kd.N_drewN | apply Kd.N_drew)); exact HO357.out⟩, ⟨bw⟩⟩
 case round =>
  clear H'
  try clear c1
  obtain ⟨x8_1, rfl, HA, HK1, HO_7, HB⟩ := hrel
  cases gk with
  | zero => exact absurd HA.out (by simp [worldmintlaw14_LotsTake.l0])
  | succ k1 =>
   have H := HA.out
   clear HA
   simp only [worldmintlaw14_LotsTake.l0] at H
   by_cases c12 : x8_1 < 2
   ·rw [if_pos c12] at H
    have c12b0 : decide (x8_1 < 2) = true := decide_eq_true c12
    clear c12
    by_cases c13 : 0 ≤ x8_1
    ·rw [if_pos c13] at H
     have c13b0 : decide (0 ≤ x8_1) = true := decide_eq_true c13
     clear c13
     by_cases c14 : x8_1 < (y355.length : Int)
     ·rw [if_pos c14] at H
      have c14b0 : decide (x8_1 < (y355.length : Int)) = true := decide_eq_true c14
      clear c14
      replace H := Option.bind_eq_some_iff.mp H
      obtain ⟨t359, A150, H⟩ := H
      replace H : ((worldmintref03_Around.f a2 (wrap64 (t359 + 2))).bind fun t360 => (worldmintlaw14_LotsTake.l1 k1 a2 y355 x8_1 (([a2, t360] : List Int)) 0)) = some r := H
      have A15 := Aside0.mk A150
      clear A150
      replace H := Option.bind_eq_some_iff.mp H
      obtain ⟨t360, A160, H⟩ := H
      replace H : (worldmintlaw14_LotsTake.l1 k1 a2 y355 x8_1 (([a2, t360] : List Int)) 0) = some r := H
      have A16 := Aside0.mk A160
      clear A160
      obtain ⟨y361, hy361⟩ : ∃ y_ : List Int, y_ = (([a2, t360] : List Int)) := ⟨_, rfl⟩
      replace H : (worldmintlaw14_LotsTake.l1 k1 a2 y355 x8_1 y361 0) = some r := by first | (rw [hy361]; with_reducible exact H) | (have H2_ := (Option.bind_some _ _).symm.trans H; rw [hy361]; with_reducible exact H2_) | (have H2_ := (Option.bind_some _ _).symm.trans H; with_reducible exact H2_) | with_reducible exact H | (rw [hy361]; exact H) | exact H
      have Ny361 := Aside0.mk hy361
      clear hy361
      have H' := Aside0.mk H
      clear H
      obtain ⟨Ao17, co17, eo17⟩ := Kd.N_slice HO_7.out
      subst eo17
      have p358 : 0 ≤ (x8_1 : Int) := oda
      have q358 : x8_1 < (y355.length : Int) := oda
      obtain ⟨ad358, A358_0, c358_0, e358, hx358_0, hl358_0, hi358_0⟩ := at_L2 (Kd.N_reads' HO_7.out).2.2 x8_1 p358 q358
      cases e358
      obtain ⟨ce358, hce358, hMe358, hcc358⟩ := Kd.N_get HO_7.out [] x8_1 p358 (by first | exact q358 | exact oda | (have e_ := (Kd.N_reads' HO_7.out).1; omega))
      obtain ⟨ua358_0, uc358_0, rfl, ul358_0, ge358_0⟩ := Kd.FK_slice_open hMe358
      have hv358_0 := hcc358 0 _ rfl
      rw [Nat.add_zero, show ((Kd.slice 39 k39)).sz = 1 from rfl, Nat.mul_one] at hv358_0
      replace hv358_0 := Option.some.inj (hv358_0.symm.trans hx358_0)
      injection hv358_0 with hva_ hvn_ hvc_
      rw [hva_] at ge358_0
      rw [hvc_] at ul358_0
      have HL358_0 := Aside0.mk (show Kd.V k39 39 _ w.heap.size _ _ (rd_L2 y355 x8_1) from Kd.V_mk ul358_0 ge358_0)
      clear hva_ hvn_ hvc_ ge358_0 ul358_0
      clear hcc358 hce358
      have HR358_0 := Aside0.mk hi358_0
      have HC358_0 := Aside0.mk hl358_0
      clear hi358_0 hl358_0
      replace p358 := eq_true p358
      replace q358 := eq_true q358
      go_wp2_with (first | ((with_reducible refine gate_callee (f := 15) rfl ?_); refine goesL_ (some 32) rfl rfl Try.func15 (by kernel_rfl) rfl #[.slice A358_0 (rd_L2 y355 x8_1).length c358_0] rfl (by (try simp only [List.map_toArray, List.map_cons, List.map_nil]); first | done | rfl | (simp only [List.length_drop, List.length_take]; rfl)) ?_; (with_reducible refine (worldmintref14_Total.calls k1 _ _ (rd_L2 y355 x8_1) t359 _ ?side1 ?side2 A15.out).mono ?_); (case side1 => repeat (first | exact (by repeat (first | (with_reducible exact HR358_0.out) | (with_reducible refine Kd.C_alloc ?_ _) | (with_reducible refine Kd.C_drewN ?_ _) | (with_reducible refine Kd.C_drew ?_) | exact HR358_0.out)) | (with_reducible refine Kd.C_alloc ?_ _) | (with_reducible refine Kd.C_drewN ?_ _) | (with_reducible refine Kd.C_drew ?_))); (case side2 => exact HC358_0.out); rintro e w18 ⟨rfl, hb⟩; refine ⟨_, rfl, ?_⟩; have n0_ := Aside0.mk (Kd.N_below (by (with_reducible repeat (first | apply Kd.N_alloc | apply Kd.N_drewN | apply Kd.N_drew)); exact HO_7.out) hb); have n1_ := Aside0.mk (Kd.V_below (by (with_reducible repeat (first | apply Kd.V_alloc | apply Kd.V_drewN | apply Kd.V_drew)); exact HL358_0.out) hb); have n2_ := Aside0.mk (Kd.C_below (by repeat (first | (with_reducible exact HR358_0.out) | (with_reducible refine Kd.C_alloc ?_ _) | (with_reducible refine Kd.C_drewN ?_ _) | (with_reducible refine Kd.C_drew ?_) | exact HR358_0.out)) hb); have n3_ := Aside0.mk (below_step (bw) hb); clear HO_7; clear HL358_0; clear HR358_0; clear HB; have HO_7 := n0_; have HL358_0 := n1_; have HR358_0 := n2_; have HB := n3_; clear n0_ n1_ n2_ n3_; (try clear hb); (try clear hb2); (try clear hk); (try clear hi)) | ((with_reducible refine gate_callee (f := 14) rfl ?_); refine goesL_ (some 34) rfl rfl Try.func14 (by kernel_rfl) rfl #[.int .i64 a2, .int .i64 (wrap64 (t359 + 2))] rfl (by (try simp only [List.map_toArray, List.map_cons, List.map_nil]); first | done | rfl | (simp only [List.length_drop, List.length_take]; rfl)) ?_; (with_reducible refine (worldmintref03_Around.calls a2 (wrap64 (t359 + 2)) t360 _ A16.out).mono ?_); rintro e w' ⟨rfl, ⟨nd, rfl⟩⟩; refine ⟨_, rfl, ?_⟩) | ((with_reducible refine gate_dst (N := 35) rfl ?_); refine Kd.R_lit (Kd.int .i64) _ 3 ?hg (N := 35) ?hd (xs := ([a2, t360] : List Int)) (inner := [.int .i64 a2, .int .i64 t360]) (ok := fun _ => True) (okp := fun _ => True) ?hr ?hp (fun _ hk => hk) trivial (Below.refl _ _) (Nat.le_refl _) (by simp) ?_; (case hd => rfl); (case hg => rfl); (case hr => first | (go_simp; done) | (go_simp; rfl)); (case hp => exact (Reps.one (show Kd.M (Kd.int .i64) _ _ _ a2 [.int .i64 a2] from rfl) (Reps.one (show Kd.M (Kd.int .i64) _ _ _ t360 [.int .i64 t360] from rfl) (Reps.none _ _)))); intro v362 w19 ho20 hb hg_ hnew_; clear hg_ hnew_; (first | rw [← Ny361.out] at ho20 | (simp only [Int.reduceToNat] at ho20; rw [← Ny361.out] at ho20)); have n0_ := Aside0.mk (Kd.N_elder' (by (with_reducible repeat (first | apply Kd.N_alloc | apply Kd.N_drewN | apply Kd.N_drew)); exact HO_7.out) (Kd.R_base ho20) hb); have n1_ := Aside0.mk (Kd.V_elder' (by (with_reducible repeat (first | apply Kd.V_alloc | apply Kd.V_drewN | apply Kd.V_drew)); exact HL358_0.out) (Kd.R_base ho20) hb); have n2_ := Aside0.mk (Kd.R_lower ho20 (below_size (bw))); have n3_ := Aside0.mk (Kd.C_below (by repeat (first | (with_reducible exact HR358_0.out) | (with_reducible refine Kd.C_alloc ?_ _) | (with_reducible refine Kd.C_drewN ?_ _) | (with_reducible refine Kd.C_drew ?_) | exact HR358_0.out)) hb); have n4_ := Aside0.mk (below_step (bw) hb); clear HO_7; clear HL358_0; clear HR358_0; clear HB; have HO_7 := n0_; have HL358_0 := n1_; have HO363 := n2_; have HR358_0 := n3_; have HB := n4_; clear n0_ n1_ n2_ n3_ n4_; clear hb ho20))
      go_loopg [10] k1 (fun kq v10 w' => ∃ (x10_2 : Int), v10 = .int .i64 x10_2 ∧ Aside0 (worldmintlaw14_LotsTake.l1 kq a2 y355 x8_1 y361 x10_2 = some r) ∧ Aside0 (kq ≤ k1) ∧ Aside0 (Kd.N (Kd.slice 39 k39) 22 w' w.heap.size (fun k_ => some k_ ≠ (v362 : Value).ownBlock) (.slice (some ad358) y355.length co17) y355) ∧ Aside0 (Kd.R (Kd.int .i64) 3 w' w.heap.size (fun _ => True) v362 y361) ∧ Aside0 (Kd.C k39 w' A358_0 (rd_L2 y355 x8_1).length (rd_L2 y355 x8_1)) ∧ Aside0 (Below w.heap.size w w'))
      case atStart => exact ⟨(0), eqs, H', ⟨Nat.le_refl _⟩, ⟨by (with_reducible repeat (first | apply Kd.N_alloc | apply Kd.N_drewN | apply Kd.N_drew)); exact Kd.N_mono HO_7.out (fun _ hk => hk.2)⟩, ⟨kr HO363.out⟩, ⟨by repeat (first | (with_reducible exact HR358_0.out) | (with_reducible refine Kd.C_alloc ?_ _) | (with_reducible refine Kd.C_drewN ?_ _) | (with_reducible refine Kd.C_drew ?_) | exact HR358_0.out)⟩, ⟨bw⟩⟩
      case round =>
       clear H'
       try clear c1
       try clear c12
       try clear c12b0
       try clear c13
       try clear c13b0
       try clear c14
       try clear c14b0
       try clear hx358_0
       try clear p358
       try clear q358
       obtain ⟨x10_2, rfl, HA, HK2, HO_7, HO_9, HR358_0, HB⟩ := hrel
       cases gk with
       | zero => exact absurd HA.out (by simp [worldmintlaw14_LotsTake.l1])
       | succ k2 =>
        have H := HA.out
        clear HA
        simp only [worldmintlaw14_LotsTake.l1] at H
        by_cases c21 : x10_2 < 4
        ·rw [if_pos c21] at H
         have c21b0 : decide (x10_2 < 4) = true := decide_eq_true c21
         clear c21
         by_cases c22 : 0 ≤ x8_1
         ·rw [if_pos c22] at H
          have c22b0 : decide (0 ≤ x8_1) = true := decide_eq_true c22
          clear c22
          by_cases c23 : x8_1 < (y355.length : Int)
          ·rw [if_pos c23] at H
           have c23b0 : decide (x8_1 < (y355.length : Int)) = true := decide_eq_true c23
           clear c23
           obtain ⟨ji24, hji24⟩ : ∃ j_ : Int, (Int.tmod x10_2 2) = j_ := ⟨_, rfl⟩
           replace H : (if 0 ≤ (ji24) then (if (ji24) < (y361.length : Int) then ((lots_Take.f k2 (rd_L2 y355 x8_1) (rd y361 (ji24)) (decide (x10_2 > 1))).bind fun bt366 => ((worldmintref14_Take.f k2 (rd_L2 y355 x8_1) (rd y361 (ji24)) (decide (x10_2 > 1))).bind fun bt375 => (if bt366.2.2 = bt375.2.2 then ((worldmintref14_Same.f k2 bt366.1 bt375.1).bind fun t382 => (if t382 = true then ((worldmintref14_Same.f k2 bt366.2.1 bt375.2.1).bind fun t383 => (worldmintlaw14_LotsTake.j2 k2 a2 y355 x8_1 y361 x10_2 (!t383))) else (worldmintlaw14_LotsTake.j2 k2 a2 y355 x8_1 y361 x10_2 true))) else (worldmintlaw14_LotsTake.j2 k2 a2 y355 x8_1 y361 x10_2 true)))) else (none)) else (none)) = some r := by first | (rw [hji24] at H; exact H) | (simp only [hji24] at H ⊢; exact H)
           by_cases c25 : 0 ≤ (ji24)
           ·rw [if_pos c25] at H
            have c25b0 : decide (0 ≤ (ji24)) = true := decide_eq_true c25
            clear c25
            by_cases c26 : (ji24) < (y361.length : Int)
            ·rw [if_pos c26] at H
             have c26b0 : decide ((ji24) < (y361.length : Int)) = true := decide_eq_true c26
             clear c26
             replace H := Option.bind_eq_some_iff.mp H
             obtain ⟨⟨t366, t367, t368⟩, A270, H⟩ := H
             replace H : ((worldmintref14_Take.f k2 (rd_L2 y355 x8_1) (rd y361 (ji24)) (decide (x10_2 > 1))).bind fun bt375 => (if t368 = bt375.2.2 then ((worldmintref14_Same.f k2 t366 bt375.1).bind fun t382 => (if t382 = true then ((worldmintref14_Same.f k2 t367 bt375.2.1).bind fun t383 => (worldmintlaw14_LotsTake.j2 k2 a2 y355 x8_1 y361 x10_2 (!t383))) else (worldmintlaw14_LotsTake.j2 k2 a2 y355 x8_1 y361 x10_2 true))) else (worldmintlaw14_LotsTake.j2 k2 a2 y355 x8_1 y361 x10_2 true))) = some r := H
             have A27 := Aside0.mk A270
             clear A270
             replace H := Option.bind_eq_some_iff.mp H
             obtain ⟨⟨t375, t376, t377⟩, A280, H⟩ := H
             replace H : (if t368 = t377 then ((worldmintref14_Same.f k2 t366 t375).bind fun t382 => (if t382 = true then ((worldmintref14_Same.f k2 t367 t376).bind fun t383 => (worldmintlaw14_LotsTake.j2 k2 a2 y355 x8_1 y361 x10_2 (!t383))) else (worldmintlaw14_LotsTake.j2 k2 a2 y355 x8_1 y361 x10_2 true))) else (worldmintlaw14_LotsTake.j2 k2 a2 y355 x8_1 y361 x10_2 true)) = some r := H
             have A28 := Aside0.mk A280
             clear A280
             have HC29 := Aside0.mk H
             clear H
             try go_wp2
             have n0_ := Aside0.mk (Kd.N_drew HO_7.out)
             have n1_ := Aside0.mk (Kd.R_drew HO_9.out)
             have n2_ := Aside0.mk (Kd.C_drew HR358_0.out)
             have n3_ := Aside0.mk (below_drew1 HB.out)
             clear HO_7
             clear HO_9
             clear HR358_0
             clear HB
             have HO_7 := n0_
             have HO_9 := n1_
             have HR358_0 := n2_
             have HB := n3_
             clear n0_ n1_ n2_ n3_
             have p364 : 0 ≤ (x8_1 : Int) := oda
             have q364 : x8_1 < (y355.length : Int) := oda
             obtain ⟨ad364, A364_0, c364_0, e364, hx364_0, hl364_0, hi364_0⟩ := at_L2 (Kd.N_reads' HO_7.out).2.2 x8_1 p364 q364
             obtain rfl : ad358 = ad364 := (by injection e364)
             obtain ⟨ce364, hce364, hMe364, hcc364⟩ := Kd.N_get HO_7.out [] x8_1 p364 (by first | exact q364 | exact oda | (have e_ := (Kd.N_reads' HO_7.out).1; omega))
             obtain ⟨ua364_0, uc364_0, rfl, ul364_0, ge364_0⟩ := Kd.FK_slice_open hMe364
             have hv364_0 := hcc364 0 _ rfl
             rw [Nat.add_zero, show ((Kd.slice 39 k39)).sz = 1 from rfl, Nat.mul_one] at hv364_0
             replace hv364_0 := Option.some.inj (hv364_0.symm.trans hx364_0)
             injection hv364_0 with hva_ hvn_ hvc_
             rw [hva_] at ge364_0
             rw [hvc_] at ul364_0
             have HL364_0 := Aside0.mk (show Kd.V k39 39 _ w.heap.size _ _ (rd_L2 y355 x8_1) from Kd.V_mk ul364_0 ge364_0)
             clear hva_ hvn_ hvc_ ge364_0 ul364_0
             clear hcc364 hce364
             have HR364_0 := Aside0.mk hi364_0
             have HC364_0 := Aside0.mk hl364_0
             clear hi364_0 hl364_0
             replace p364 := eq_true p364
             replace q364 := eq_true q364
             obtain ⟨Ao31, co31, eo31⟩ := Kd.R_slice HO_9.out
             (first | subst eo31 | (injection eo31 with f1_ f2_ f3_; have f4_ := f1_.symm; have f5_ := f3_.symm; clear f1_ f2_ f3_; subst f4_; subst f5_))
             have p365 : 0 ≤ ((ji24) : Int) := oda
             have q365 : (ji24) < (y361.length : Int) := oda
             obtain ⟨ad365, e365, hx365_0⟩ := Kd.at_int (Kd.R_reads' HO_9.out).2.2 (ji24) p365 q365
             cases e365
             replace p365 := eq_true p365
             replace q365 := eq_true q365
             refine start_ (n := 19) (S := fun w' => w'.cell? (ad358.add (x8_1).toNat) = some (.slice A364_0 (rd_L2 y355 x8_1).length c364_0) ∧ w'.cell? (ad365.add ((ji24)).toNat) = some (.int .i64 (rd y361 (ji24)))) (ds := []) (bs 19 0) (by kernel_rfl) rfl rfl ⟨hx364_0, hx365_0⟩ (fun hHeld => ?_); refine with_tabW worldmintlaw14_LotsTake.tab9 worldmintlaw14_LotsTake.bits9 (fun HT_ HW_ => ?_)
             generalize wr.drew = w30 at HO_7 HO_9 HR358_0 HB HL364_0 HR364_0 hx364_0 hx365_0 hHeld ⊢
             refine pu 0 41 (bs 19 1) HT_ ?_
             refine pu 1 42 (bs 19 3) HT_ ?_
             refine pu 2 43 (bs 19 7) HT_ ?_
             refine pu 4 45 (bs 19 23) HT_ ?_
             refine pu 5 46 (bs 19 55) HT_ ?_
             refine pu 6 47 (bs 19 119) HT_ ?_
             refine pu 7 48 (bs 19 247) HT_ ?_
             refine pu 9 50 (bs 19 759) HT_ ?_
             refine pu 10 51 (bs 19 1783) HT_ ?_
             refine take_ (i := 3) (N := some 44) (v := ?_) (a' := ?_) (bs 19 1791) rfl rfl (take_ofW HT_.out HW_.out (by kernel_rfl)) (fun _ _ _ h => h) (Or.inl ⟨by rfl, ?_⟩) hHeld ?_ ?_
             rotate_left
             ·rintro w' ⟨s0, s1⟩
              go_simp
              with_reducible rfl
             rotate_left
             ·simp only [Act.put, List.setIfInBounds_toArray, List.set_cons_zero, List.set_cons_succ, i64_w, i32_w]
              rfl
             refine take_ (i := 8) (N := some 49) (v := ?_) (a' := ?_) (bs 19 2047) rfl rfl (take_ofW HT_.out HW_.out (by kernel_rfl)) (fun _ _ _ h => h) (Or.inl ⟨by rfl, ?_⟩) hHeld ?_ ?_
             rotate_left
             ·rintro w' ⟨s0, s1⟩
              go_simp
              with_reducible rfl
             rotate_left
             ·simp only [Act.put, List.setIfInBounds_toArray, List.set_cons_zero, List.set_cons_succ, i64_w, i32_w]
              rfl
             refine one_ (i := 11) (N := some 52) (bs 19 4095) rfl rfl (one_of HT_.out (by kernel_rfl)) (by decide) (fun K hK => ?_)
             refine goes_ Try.func16 (by kernel_rfl) rfl #[.slice A364_0 (rd_L2 y355 x8_1).length c364_0, .int .i64 (rd y361 (ji24)), .bool (decide (x10_2 > 1))] (by rfl) rfl rfl (by (try simp only [List.map_toArray, List.map_cons, List.map_nil]); first | done | (simp only [hji24]; rfl) | rfl | (simp only [List.length_drop, List.length_take]; rfl)) ?_
             with_reducible refine (lots_Take.calls k2 _ _ (rd_L2 y355 x8_1) (rd y361 (ji24)) (decide (x10_2 > 1)) t366 t367 t368 _ ?side1 ?side2 A27.out).mono ?_
             (case side1 => repeat (first | exact (by repeat (first | (with_reducible exact HR364_0.out) | (with_reducible refine Kd.C_alloc ?_ _) | (with_reducible refine Kd.C_drewN ?_ _) | (with_reducible refine Kd.C_drew ?_) | exact HR364_0.out)) | (with_reducible refine Kd.C_alloc ?_ _) | (with_reducible refine Kd.C_drewN ?_ _) | (with_reducible refine Kd.C_drew ?_)))
             (case side2 => exact HC364_0.out)
             rintro e w32 ⟨v369, v371, rfl, ho0, ho1, hb⟩
             have HS0_ := (hb.cell (World.block_lt_of_cell? _ _ (hHeld.1))).trans (hHeld.1)
             have HS1_ := (hb.cell (World.block_lt_of_cell? _ _ (hHeld.2))).trans (hHeld.2)
             refine ⟨_, rfl, ?_⟩
             have n0_ := Aside0.mk (Kd.N_mono (Kd.N_told (Kd.N_told (Kd.N_old (by (with_reducible repeat (first | apply Kd.N_alloc | apply Kd.N_drewN | apply Kd.N_drew)); exact HO_7.out) hb) (Kd.R_base ho0)) (Kd.R_base ho1)) (fun _ h_ => h_.1))
             have n1_ := Aside0.mk (Kd.R_below (kr HO_9.out) hb)
             have n2_ := Aside0.mk (Kd.V_mono (Kd.V_told (Kd.V_told (Kd.V_old (by (with_reducible repeat (first | apply Kd.V_alloc | apply Kd.V_drewN | apply Kd.V_drew)); exact HL364_0.out) hb) (Kd.R_base ho0)) (Kd.R_base ho1)) (fun _ h_ => h_.1))
             have n3_ := Aside0.mk (Kd.R_lower ho0 (below_size (bw)))
             have n4_ := Aside0.mk (Kd.R_lower ho1 (below_size (bw)))
             have n5_ := Aside0.mk (Kd.C_below (by repeat (first | (with_reducible exact HR358_0.out) | (with_reducible refine Kd.C_alloc ?_ _) | (with_reducible refine Kd.C_drewN ?_ _) | (with_reducible refine Kd.C_drew ?_) | exact HR358_0.out)) hb)
             have n6_ := Aside0.mk (Kd.C_below (by repeat (first | (with_reducible exact HR364_0.out) | (with_reducible refine Kd.C_alloc ?_ _) | (with_reducible refine Kd.C_drewN ?_ _) | (with_reducible refine Kd.C_drew ?_) | exact HR364_0.out)) hb)
             have n7_ := Aside0.mk (below_step (bw) hb)
             clear HO_7
             clear HO_9
             clear HL364_0
             clear HR358_0
             clear HR364_0
             clear HB
             have HO_7 := n0_
             have HO_9 := n1_
             have HL364_0 := n2_
             have HO370 := n3_
             have HO372 := n4_
             have HR358_0 := n5_
             have HR364_0 := n6_
             have HB := n7_
             clear n0_ n1_ n2_ n3_ n4_ n5_ n6_ n7_
             (try clear hb)
             (try clear hb2)
             (try clear hk)
             (try clear hi)
             (try clear ho0)
             (try clear ho1)
             refine hK.out _ _ ⟨HS0_, HS1_⟩ (fun hHeld => ?_)
             clear hK K
             refine norm_ (a' := ?_) ?_ ?_
             rotate_left
             ·show Act.put _ (some 52) _ = _
              simp only [Act.put, List.setIfInBounds_toArray, List.set_cons_zero, List.set_cons_succ, i64_w, i32_w]
              rfl
             refine pu 12 40 (bs 19 8191) HT_ ?_
             refine pu 13 53 (bs 19 16383) HT_ ?_
             refine pu 14 54 (bs 19 32767) HT_ ?_
             refine pu 15 55 (bs 19 65535) HT_ ?_
             refine pu 16 11 (bs 19 131071) HT_ ?_
             refine pu 17 12 (bs 19 262143) HT_ ?_
             refine pu 18 13 (bs 19 524287) HT_ ?_
             refine done_ (done_of HT_.out (by kernel_rfl)) ?_
             try go_wp2
             have n0_ := Aside0.mk (Kd.N_drew HO_7.out)
             have n1_ := Aside0.mk (Kd.R_drew HO_9.out)
             have n2_ := Aside0.mk (Kd.V_drew HL364_0.out)
             have n3_ := Aside0.mk (Kd.R_drew HO370.out)
             have n4_ := Aside0.mk (Kd.R_drew HO372.out)
             have n5_ := Aside0.mk (Kd.C_drew HR358_0.out)
             have n6_ := Aside0.mk (Kd.C_drew HR364_0.out)
             have n7_ := Aside0.mk (below_drew1 HB.out)
             clear HO_7
             clear HO_9
             clear HL364_0
             clear HO370
             clear HO372
             clear HR358_0
             clear HR364_0
             clear HB
             have HO_7 := n0_
             have HO_9 := n1_
             have HL364_0 := n2_
             have HO370 := n3_
             have HO372 := n4_
             have HR358_0 := n5_
             have HR364_0 := n6_
             have HB := n7_
             clear n0_ n1_ n2_ n3_ n4_ n5_ n6_ n7_
             have p373 : 0 ≤ (x8_1 : Int) := oda
             have q373 : x8_1 < (y355.length : Int) := oda
             obtain ⟨ad373, A373_0, c373_0, e373, hx373_0, hl373_0, hi373_0⟩ := at_L2 (Kd.N_reads' HO_7.out).2.2 x8_1 p373 q373
             obtain rfl : ad358 = ad373 := (by injection e373)
             obtain ⟨ce373, hce373, hMe373, hcc373⟩ := Kd.N_get HO_7.out [] x8_1 p373 (by first | exact q373 | exact oda | (have e_ := (Kd.N_reads' HO_7.out).1; omega))
             obtain ⟨ua373_0, uc373_0, rfl, ul373_0, ge373_0⟩ := Kd.FK_slice_open hMe373
             have hv373_0 := hcc373 0 _ rfl
             rw [Nat.add_zero, show ((Kd.slice 39 k39)).sz = 1 from rfl, Nat.mul_one] at hv373_0
             replace hv373_0 := Option.some.inj (hv373_0.symm.trans hx373_0)
             injection hv373_0 with hva_ hvn_ hvc_
             rw [hva_] at ge373_0
             rw [hvc_] at ul373_0
             have HL373_0 := Aside0.mk (show Kd.V k39 39 _ w.heap.size _ _ (rd_L2 y355 x8_1) from Kd.V_mk ul373_0 ge373_0)
             clear hva_ hvn_ hvc_ ge373_0 ul373_0
             clear hcc373 hce373
             have HR373_0 := Aside0.mk hi373_0
             have HC373_0 := Aside0.mk hl373_0
             clear hi373_0 hl373_0
             replace p373 := eq_true p373
             replace q373 := eq_true q373
             have p374 : 0 ≤ ((ji24) : Int) := oda
             have q374 : (ji24) < (y361.length : Int) := oda
             obtain ⟨ad374, e374, hx374_0⟩ := Kd.at_int (Kd.R_reads' HO_9.out).2.2 (ji24) p374 q374
             obtain rfl : ad365 = ad374 := (by injection e374)
             replace p374 := eq_true p374
             replace q374 := eq_true q374
             refine start_ (n := 19) (S := fun w' => w'.cell? (ad358.add (x8_1).toNat) = some (.slice A373_0 (rd_L2 y355 x8_1).length c373_0) ∧ w'.cell? (ad365.add ((ji24)).toNat) = some (.int .i64 (rd y361 (ji24)))) (ds := []) (bs 19 0) (by kernel_rfl) rfl rfl ⟨hx373_0, hx374_0⟩ (fun hHeld => ?_); refine with_tabW worldmintlaw14_LotsTake.tab10 worldmintlaw14_LotsTake.bits10 (fun HT_ HW_ => ?_)
             generalize w32.drew = w33 at HO_7 HO_9 HL364_0 HO370 HO372 HR358_0 HR364_0 HB HL373_0 HR373_0 hx373_0 hx374_0 hHeld ⊢
             refine pu 0 57 (bs 19 1) HT_ ?_
             refine pu 1 58 (bs 19 3) HT_ ?_
             refine pu 2 59 (bs 19 7) HT_ ?_
             refine pu 4 61 (bs 19 23) HT_ ?_
             refine pu 5 62 (bs 19 55) HT_ ?_
             refine pu 6 63 (bs 19 119) HT_ ?_
             refine pu 7 64 (bs 19 247) HT_ ?_
             refine pu 9 66 (bs 19 759) HT_ ?_
             refine pu 10 67 (bs 19 1783) HT_ ?_
             refine take_ (i := 3) (N := some 60) (v := ?_) (a' := ?_) (bs 19 1791) rfl rfl (take_ofW HT_.out HW_.out (by kernel_rfl)) (fun _ _ _ h => h) (Or.inl ⟨by rfl, ?_⟩) hHeld ?_ ?_
             rotate_left
             ·rintro w' ⟨s0, s1⟩
              go_simp
              with_reducible rfl
             rotate_left
             ·simp only [Act.put, List.setIfInBounds_toArray, List.set_cons_zero, List.set_cons_succ, i64_w, i32_w]
              rfl
             refine take_ (i := 8) (N := some 65) (v := ?_) (a' := ?_) (bs 19 2047) rfl rfl (take_ofW HT_.out HW_.out (by kernel_rfl)) (fun _ _ _ h => h) (Or.inl ⟨by rfl, ?_⟩) hHeld ?_ ?_
             rotate_left
             ·rintro w' ⟨s0, s1⟩
              go_simp
              with_reducible rfl
             rotate_left
             ·simp only [Act.put, List.setIfInBounds_toArray, List.set_cons_zero, List.set_cons_succ, i64_w, i32_w]
              rfl
             refine one_ (i := 11) (N := some 68) (bs 19 4095) rfl rfl (one_of HT_.out (by kernel_rfl)) (by decide) (fun K hK => ?_)
             refine goes_ Try.func17 (by kernel_rfl) rfl #[.slice A373_0 (rd_L2 y355 x8_1).length c373_0, .int .i64 (rd y361 (ji24)), .bool (decide (x10_2 > 1))] (by rfl) rfl rfl (by (try simp only [List.map_toArray, List.map_cons, List.map_nil]); first | done | (simp only [hji24]; rfl) | rfl | (simp only [List.length_drop, List.length_take]; rfl)) ?_
             with_reducible refine (worldmintref14_Take.calls k2 _ _ (rd_L2 y355 x8_1) (rd y361 (ji24)) (decide (x10_2 > 1)) t375 t376 t377 _ ?side1 ?side2 A28.out).mono ?_
             (case side1 => repeat (first | exact (by repeat (first | (with_reducible exact HR373_0.out) | (with_reducible refine Kd.C_alloc ?_ _) | (with_reducible refine Kd.C_drewN ?_ _) | (with_reducible refine Kd.C_drew ?_) | exact HR373_0.out)) | (with_reducible refine Kd.C_alloc ?_ _) | (with_reducible refine Kd.C_drewN ?_ _) | (with_reducible refine Kd.C_drew ?_)))
             (case side2 => exact HC373_0.out)
             rintro e w34 ⟨v378, v380, rfl, ho0, ho1, hb⟩
             have HS0_ := (hb.cell (World.block_lt_of_cell? _ _ (hHeld.1))).trans (hHeld.1)
             have HS1_ := (hb.cell (World.block_lt_of_cell? _ _ (hHeld.2))).trans (hHeld.2)
             refine ⟨_, rfl, ?_⟩
             have n0_ := Aside0.mk (Kd.N_mono (Kd.N_told (Kd.N_told (Kd.N_old (by (with_reducible repeat (first | apply Kd.N_alloc | apply Kd.N_drewN | apply Kd.N_drew)); exact HO_7.out) hb) (Kd.R_base ho0)) (Kd.R_base ho1)) (fun _ h_ => h_.1))
             have n1_ := Aside0.mk (Kd.R_below (kr HO_9.out) hb)
             have n2_ := Aside0.mk (Kd.V_mono (Kd.V_told (Kd.V_told (Kd.V_old (by (with_reducible repeat (first | apply Kd.V_alloc | apply Kd.V_drewN | apply Kd.V_drew)); exact HL364_0.out) hb) (Kd.R_base ho0)) (Kd.R_base ho1)) (fun _ h_ => h_.1))
             have n3_ := Aside0.mk (Kd.R_mono (Kd.R_told (Kd.R_told (Kd.R_old (kr HO370.out) hb) (Kd.R_base ho0)) (Kd.R_base ho1)) (fun _ h_ => h_.1))
             have n4_ := Aside0.mk (Kd.R_mono (Kd.R_told (Kd.R_told (Kd.R_old (kr HO372.out) hb) (Kd.R_base ho0)) (Kd.R_base ho1)) (fun _ h_ => h_.1))
             have n5_ := Aside0.mk (Kd.V_mono (Kd.V_told (Kd.V_told (Kd.V_old (by (with_reducible repeat (first | apply Kd.V_alloc | apply Kd.V_drewN | apply Kd.V_drew)); exact HL373_0.out) hb) (Kd.R_base ho0)) (Kd.R_base ho1)) (fun _ h_ => h_.1))
             have n6_ := Aside0.mk (Kd.R_lower (Kd.R_new' (Kd.R_new' ho0 (Kd.R_lt (kr HO370.out))) (Kd.R_lt (kr HO372.out))) (below_size (bw)))
             have n7_ := Aside0.mk (Kd.R_lower (Kd.R_new' (Kd.R_new' ho1 (Kd.R_lt (kr HO370.out))) (Kd.R_lt (kr HO372.out))) (below_size (bw)))
             have n8_ := Aside0.mk (Kd.C_below (by repeat (first | (with_reducible exact HR358_0.out) | (with_reducible refine Kd.C_alloc ?_ _) | (with_reducible refine Kd.C_drewN ?_ _) | (with_reducible refine Kd.C_drew ?_) | exact HR358_0.out)) hb)
             have n9_ := Aside0.mk (Kd.C_below (by repeat (first | (with_reducible exact HR364_0.out) | (with_reducible refine Kd.C_alloc ?_ _) | (with_reducible refine Kd.C_drewN ?_ _) | (with_reducible refine Kd.C_drew ?_) | exact HR364_0.out)) hb)
             have n10_ := Aside0.mk (Kd.C_below (by repeat (first | (with_reducible exact HR373_0.out) | (with_reducible refine Kd.C_alloc ?_ _) | (with_reducible refine Kd.C_drewN ?_ _) | (with_reducible refine Kd.C_drew ?_) | exact HR373_0.out)) hb)
             have n11_ := Aside0.mk (below_step (bw) hb)
             clear HO_7
             clear HO_9
             clear HL364_0
             clear HO370
             clear HO372
             clear HL373_0
             clear HR358_0
             clear HR364_0
             clear HR373_0
             clear HB
             have HO_7 := n0_
             have HO_9 := n1_
             have HL364_0 := n2_
             have HO370 := n3_
             have HO372 := n4_
             have HL373_0 := n5_
             have HO379 := n6_
             have HO381 := n7_
             have HR358_0 := n8_
             have HR364_0 := n9_
             have HR373_0 := n10_
             have HB := n11_
             clear n0_ n1_ n2_ n3_ n4_ n5_ n6_ n7_ n8_ n9_ n10_ n11_
             (try clear hb)
             (try clear hb2)
             (try clear hk)
             (try clear hi)
             (try clear ho0)
             (try clear ho1)
             refine hK.out _ _ ⟨HS0_, HS1_⟩ (fun hHeld => ?_)
             clear hK K
             refine norm_ (a' := ?_) ?_ ?_
             rotate_left
             ·show Act.put _ (some 68) _ = _
              simp only [Act.put, List.setIfInBounds_toArray, List.set_cons_zero, List.set_cons_succ, i64_w, i32_w]
              rfl
             refine pu 12 56 (bs 19 8191) HT_ ?_
             refine pu 13 69 (bs 19 16383) HT_ ?_
             refine pu 14 70 (bs 19 32767) HT_ ?_
             refine pu 15 71 (bs 19 65535) HT_ ?_
             refine pu 16 14 (bs 19 131071) HT_ ?_
             refine pu 17 15 (bs 19 262143) HT_ ?_
             refine pu 18 16 (bs 19 524287) HT_ ?_
             refine done_ (done_of HT_.out (by kernel_rfl)) ?_
             go_upto_region 11 with (fail)
             go_cut [86] (fun v86 wc => ∃ (kq : Nat) (x86_28 : Bool), v86 = .bool x86_28 ∧ Aside0 (worldmintlaw14_LotsTake.j2 kq a2 y355 x8_1 y361 x10_2 x86_28 = some r) ∧ Aside0 (kq ≤ k2) ∧ Aside0 (Kd.N (Kd.slice 39 k39) 22 wc w.heap.size (fun k_ => some k_ ≠ ((.slice (some ad365) y361.length co31) : Value).ownBlock) (.slice (some ad358) y355.length co17) y355) ∧ Aside0 (Kd.R (Kd.int .i64) 3 wc w.heap.size (fun _ => True) (.slice (some ad365) y361.length co31) y361) ∧ Aside0 (Kd.C k39 wc A358_0 (rd_L2 y355 x8_1).length (rd_L2 y355 x8_1)) ∧ Aside0 (Kd.C k39 wc A364_0 (rd_L2 y355 x8_1).length (rd_L2 y355 x8_1)) ∧ Aside0 (Kd.C k39 wc A373_0 (rd_L2 y355 x8_1).length (rd_L2 y355 x8_1)) ∧ Aside0 (Below w.heap.size w wc))
             case first =>
              have H := HC29.out
              clear HC29
              by_cases c35 : t368 = t377
              ·rw [if_pos c35] at H
               have c35b0 : (t368 == t377) = true := beq_iff_eq.mpr c35
               have c35b1 : (t368 != t377) = false := bne_eq_false_iff_eq.mpr c35
               clear c35
               (first | rw [c35b0] | (simp only [i64_w, i32_w]; rw [c35b0]) | skip)
               replace H := Option.bind_eq_some_iff.mp H
               obtain ⟨t382, A360, H⟩ := H
               replace H : (if t382 = true then ((worldmintref14_Same.f k2 t367 t376).bind fun t383 => (worldmintlaw14_LotsTake.j2 k2 a2 y355 x8_1 y361 x10_2 (!t383))) else (worldmintlaw14_LotsTake.j2 k2 a2 y355 x8_1 y361 x10_2 true)) = some r := H
               have A36 := Aside0.mk A360
               clear A360
               by_cases c37 : t382 = true
               ·subst c37
                have H1 : ((worldmintref14_Same.f k2 t367 t376).bind fun t383 => (worldmintlaw14_LotsTake.j2 k2 a2 y355 x8_1 y361 x10_2 (!t383))) = some r := by rw [if_pos rfl] at H; exact H
                clear H
                have H := H1
                clear H1
                replace H := Option.bind_eq_some_iff.mp H
                obtain ⟨t383, A380, H⟩ := H
                replace H : (worldmintlaw14_LotsTake.j2 k2 a2 y355 x8_1 y361 x10_2 (!t383)) = some r := H
                have A38 := Aside0.mk A380
                clear A380
                have H' := Aside0.mk H
                clear H
                obtain ⟨Ao39, co39, eo39⟩ := Kd.R_slice HO370.out
                subst eo39
                obtain ⟨Ao40, co40, eo40⟩ := Kd.R_slice HO379.out
                subst eo40
                go_wp2_with (first | (go_at_call 18; (with_reducible refine (worldmintref14_Same.calls k2 _ _ t366 _ _ t375 true _ ?side1 ?side2 ?side3 ?side4 A36.out).mono ?_); (case side1 => repeat (first | exact (Kd.R_reads' HO370.out).2.2 | (with_reducible refine Kd.C_alloc ?_ _) | (with_reducible refine Kd.C_drewN ?_ _) | (with_reducible refine Kd.C_drew ?_))); (case side2 => exact (Kd.R_reads' HO370.out).2.1); (case side3 => repeat (first | exact (Kd.R_reads' HO379.out).2.2 | (with_reducible refine Kd.C_alloc ?_ _) | (with_reducible refine Kd.C_drewN ?_ _) | (with_reducible refine Kd.C_drew ?_))); (case side4 => exact (Kd.R_reads' HO379.out).2.1); rintro e w' ⟨rfl, ⟨nd, rfl⟩⟩; obtain ⟨Ao41, co41, eo41⟩ := Kd.R_slice HO372.out; subst eo41; obtain ⟨Ao42, co42, eo42⟩ := Kd.R_slice HO381.out; subst eo42) | (go_at_call 18; (with_reducible refine (worldmintref14_Same.calls k2 _ _ t367 _ _ t376 t383 _ ?side1 ?side2 ?side3 ?side4 A38.out).mono ?_); (case side1 => repeat (first | exact (Kd.R_reads' HO372.out).2.2 | (with_reducible refine Kd.C_alloc ?_ _) | (with_reducible refine Kd.C_drewN ?_ _) | (with_reducible refine Kd.C_drew ?_))); (case side2 => exact (Kd.R_reads' HO372.out).2.1); (case side3 => repeat (first | exact (Kd.R_reads' HO381.out).2.2 | (with_reducible refine Kd.C_alloc ?_ _) | (with_reducible refine Kd.C_drewN ?_ _) | (with_reducible refine Kd.C_drew ?_))); (case side4 => exact (Kd.R_reads' HO381.out).2.1); rintro e w' ⟨rfl, ⟨nd, rfl⟩⟩))
                go_meet
                case rel => exact ⟨_, (!t383), eqs, H', ⟨by have := HK1.out; have := HK2.out; first | omega | exact Nat.le_refl _⟩, ⟨by (with_reducible repeat (first | apply Kd.N_alloc | apply Kd.N_drewN | apply Kd.N_drew)); exact Kd.N_mono HO_7.out (fun _ hk => hk.1.1.1.1)⟩, ⟨kr HO_9.out⟩, ⟨by repeat (first | (with_reducible exact HR358_0.out) | (with_reducible refine Kd.C_alloc ?_ _) | (with_reducible refine Kd.C_drewN ?_ _) | (with_reducible refine Kd.C_drew ?_) | exact HR358_0.out)⟩, ⟨by repeat (first | (with_reducible exact HR364_0.out) | (with_reducible refine Kd.C_alloc ?_ _) | (with_reducible refine Kd.C_drewN ?_ _) | (with_reducible refine Kd.C_drew ?_) | exact HR364_0.out)⟩, ⟨by repeat (first | (with_reducible exact HR373_0.out) | (with_reducible refine Kd.C_alloc ?_ _) | (with_reducible refine Kd.C_drewN ?_ _) | (with_reducible refine Kd.C_drew ?_) | exact HR373_0.out)⟩, ⟨bw⟩⟩
               ·replace c37 := Bool.eq_false_iff.mpr c37
                subst c37
                have H1 : (worldmintlaw14_LotsTake.j2 k2 a2 y355 x8_1 y361 x10_2 true) = some r := by rw [if_neg (show ¬ (false = true) by decide)] at H; exact H
                clear H
                have H := H1
                clear H1
                have H' := Aside0.mk H
                clear H
                obtain ⟨Ao43, co43, eo43⟩ := Kd.R_slice HO370.out
                subst eo43
                obtain ⟨Ao44, co44, eo44⟩ := Kd.R_slice HO379.out
                subst eo44
                go_wp2_with (first | (go_at_call 18; (with_reducible refine (worldmintref14_Same.calls k2 _ _ t366 _ _ t375 false _ ?side1 ?side2 ?side3 ?side4 A36.out).mono ?_); (case side1 => repeat (first | exact (Kd.R_reads' HO370.out).2.2 | (with_reducible refine Kd.C_alloc ?_ _) | (with_reducible refine Kd.C_drewN ?_ _) | (with_reducible refine Kd.C_drew ?_))); (case side2 => exact (Kd.R_reads' HO370.out).2.1); (case side3 => repeat (first | exact (Kd.R_reads' HO379.out).2.2 | (with_reducible refine Kd.C_alloc ?_ _) | (with_reducible refine Kd.C_drewN ?_ _) | (with_reducible refine Kd.C_drew ?_))); (case side4 => exact (Kd.R_reads' HO379.out).2.1); rintro e w' ⟨rfl, ⟨nd, rfl⟩⟩))
                go_meet
                case rel => exact ⟨_, (true), eqs, H', ⟨by have := HK1.out; have := HK2.out; first | omega | exact Nat.le_refl _⟩, ⟨by (with_reducible repeat (first | apply Kd.N_alloc | apply Kd.N_drewN | apply Kd.N_drew)); exact Kd.N_mono HO_7.out (fun _ hk => hk.1.1.1.1)⟩, ⟨kr HO_9.out⟩, ⟨by repeat (first | (with_reducible exact HR358_0.out) | (with_reducible refine Kd.C_alloc ?_ _) | (with_reducible refine Kd.C_drewN ?_ _) | (with_reducible refine Kd.C_drew ?_) | exact HR358_0.out)⟩, ⟨by repeat (first | (with_reducible exact HR364_0.out) | (with_reducible refine Kd.C_alloc ?_ _) | (with_reducible refine Kd.C_drewN ?_ _) | (with_reducible refine Kd.C_drew ?_) | exact HR364_0.out)⟩, ⟨by repeat (first | (with_reducible exact HR373_0.out) | (with_reducible refine Kd.C_alloc ?_ _) | (with_reducible refine Kd.C_drewN ?_ _) | (with_reducible refine Kd.C_drew ?_) | exact HR373_0.out)⟩, ⟨bw⟩⟩
              ·rw [if_neg c35] at H
               have c35b0 : (t368 == t377) = false := beq_eq_false_iff_ne.mpr c35
               have c35b1 : (t368 != t377) = true := bne_iff_ne.mpr c35
               (first | rw [c35b0] | (simp only [i64_w, i32_w]; rw [c35b0]) | skip)
               have H' := Aside0.mk H
               clear H
               go_wp2
               go_meet
               case rel => exact ⟨_, (true), eqs, H', ⟨by have := HK1.out; have := HK2.out; first | omega | exact Nat.le_refl _⟩, ⟨by (with_reducible repeat (first | apply Kd.N_alloc | apply Kd.N_drewN | apply Kd.N_drew)); exact Kd.N_mono HO_7.out (fun _ hk => hk.1.1.1.1)⟩, ⟨kr HO_9.out⟩, ⟨by repeat (first | (with_reducible exact HR358_0.out) | (with_reducible refine Kd.C_alloc ?_ _) | (with_reducible refine Kd.C_drewN ?_ _) | (with_reducible refine Kd.C_drew ?_) | exact HR358_0.out)⟩, ⟨by repeat (first | (with_reducible exact HR364_0.out) | (with_reducible refine Kd.C_alloc ?_ _) | (with_reducible refine Kd.C_drewN ?_ _) | (with_reducible refine Kd.C_drew ?_) | exact HR364_0.out)⟩, ⟨by repeat (first | (with_reducible exact HR373_0.out) | (with_reducible refine Kd.C_alloc ?_ _) | (with_reducible refine Kd.C_drewN ?_ _) | (with_reducible refine Kd.C_drew ?_) | exact HR373_0.out)⟩, ⟨bw⟩⟩
             case rest =>
              clear HC29
              try clear c1
              try clear c14
              try clear c14b0
              try clear c21
              try clear c21b0
              try clear c22
              try clear c22b0
              try clear c23
              try clear c23b0
              try clear c25
              try clear c25b0
              try clear c26
              try clear c26b0
              try clear c35
              try clear c35b0
              try clear c35b1
              try clear c37
              try clear hx358_0
              try clear hx364_0
              try clear hx365_0
              try clear hx373_0
              try clear hx374_0
              try clear p358
              try clear p364
              try clear p365
              try clear p373
              try clear p374
              try clear q358
              try clear q364
              try clear q365
              try clear q373
              try clear q374
              obtain ⟨kq, x86_28, rfl, HA, HJ28, HO_7, HO_9, HR358_0, HR364_0, HR373_0, HB⟩ := hcut
              cases kq with
              | zero => exact absurd HA.out (by simp [worldmintlaw14_LotsTake.j2])
              | succ kj28 =>
               have H := HA.out
               clear HA
               simp only [worldmintlaw14_LotsTake.j2] at H
               by_cases c45 : x86_28 = true
               ·subst c45
                have H1 : (some false) = some r := by rw [if_pos rfl] at H; exact H
                clear H
                have H := H1
                clear H1
                obtain rfl := Option.some.inj H
                go_wp2
                go_ret
                exact ⟨by first | rfl | (simp [errW_none, errW_some] <;> rfl) | (simp only [← hji24]; first | rfl | (simp [errW_none, errW_some] <;> rfl)) | (simp [*, errW_none, errW_some] <;> rfl), bw⟩
               ·replace c45 := Bool.eq_false_iff.mpr c45
                subst c45
                have H1 : (worldmintlaw14_LotsTake.l1 kj28 a2 y355 x8_1 y361 (wrap64 (x10_2 + 1))) = some r := by rw [if_neg (show ¬ (false = true) by decide)] at H; exact H
                clear H
                have H := H1
                clear H1
                have H' := Aside0.mk H
                clear H
                go_wp2
                go_roundg kj28
                case measure => have := HK1.out; have := HK2.out; have := HJ28.out; omega
                case rel => exact ⟨(wrap64 (x10_2 + 1)), eqs, H', ⟨by have := HK1.out; have := HK2.out; have := HJ28.out; omega⟩, ⟨by (with_reducible repeat (first | apply Kd.N_alloc | apply Kd.N_drewN | apply Kd.N_drew)); exact HO_7.out⟩, ⟨kr HO_9.out⟩, ⟨by repeat (first | (with_reducible exact HR358_0.out) | (with_reducible refine Kd.C_alloc ?_ _) | (with_reducible refine Kd.C_drewN ?_ _) | (with_reducible refine Kd.C_drew ?_) | exact HR358_0.out)⟩, ⟨bw⟩⟩
            ·rw [if_neg c26] at H
             exact absurd H (by simp)
           ·rw [if_neg c25] at H
            exact absurd H (by simp)
          ·rw [if_neg c23] at H
           exact absurd H (by simp)
         ·rw [if_neg c22] at H
          exact absurd H (by simp)
        ·rw [if_neg c21] at H
         have c21b0 : decide (x10_2 < 4) = false := decide_eq_false c21
         clear c21
         have H' := Aside0.mk H
         clear H
         go_wp2
         go_roundg k2
         case measure => have := HK1.out; have := HK2.out; omega
         case rel => exact ⟨(wrap64 (x8_1 + 1)), eqs, H', ⟨by have := HK1.out; have := HK2.out; omega⟩, ⟨by (with_reducible repeat (first | apply Kd.N_alloc | apply Kd.N_drewN | apply Kd.N_drew)); exact Kd.N_mono HO_7.out (fun _ hk => trivial)⟩, ⟨bw⟩⟩
     ·rw [if_neg c14] at H
      exact absurd H (by simp)
    ·rw [if_neg c13] at H
     exact absurd H (by simp)
   ·rw [if_neg c12] at H
    have c12b0 : decide (x8_1 < 2) = false := decide_eq_false c12
    clear c12
    replace H := Option.bind_eq_some_iff.mp H
    obtain ⟨t384, A460, H⟩ := H
    replace H : (some t384) = some r := H
    have A46 := Aside0.mk A460
    clear A460
    obtain rfl := Option.some.inj H
    go_wp2_with (first | ((with_reducible refine gate_callee (f := 19) rfl ?_); refine goesL_ (some 87) rfl rfl Try.func19 (by kernel_rfl) rfl #[] rfl (by (try simp only [List.map_toArray, List.map_cons, List.map_nil]); first | done | rfl | (simp only [List.length_drop, List.length_take]; rfl)) ?_; (with_reducible refine (worldmintlaw14_lives.calls k1  t384 _ A46.out).mono ?_); rintro e w47 ⟨rfl, hb⟩; refine ⟨_, rfl, ?_⟩; have n0_ := Aside0.mk (Kd.N_below (by (with_reducible repeat (first | apply Kd.N_alloc | apply Kd.N_drewN | apply Kd.N_drew)); exact HO_7.out) hb); have n1_ := Aside0.mk (below_step (bw) hb); clear HO_7; clear HB; have HO_7 := n0_; have HB := n1_; clear n0_ n1_; (try clear hb); (try clear hb2); (try clear hk); (try clear hi)))
    go_ret
    exact ⟨by first | rfl | (simp [errW_none, errW_some] <;> rfl) | (simp [*, errW_none, errW_some] <;> rfl), bw⟩
end Go.Proofs.Ytcicjbgfahdejaa.P
