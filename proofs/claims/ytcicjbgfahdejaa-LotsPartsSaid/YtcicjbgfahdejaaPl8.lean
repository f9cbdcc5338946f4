-- Written by a program of this session (wip/tools), out of the translation. Not trusted: Lean checks it.
import Derived.Test.YtcicjbgfahdejaaPx1
import Derived.Test.YtcicjbgfahdejaaPD
import Derived.Test.YtcicjbgfahdejaaPc1
import Derived.Test.YtcicjbgfahdejaaPc2
import Derived.Test.YtcicjbgfahdejaaPc3
import Derived.Test.YtcicjbgfahdejaaPc5
import Derived.Test.YtcicjbgfahdejaaPp1
import Derived.Test.YtcicjbgfahdejaaPm1
import Derived.Test.YtcicjbgfahdejaaPu1
import Derived.Test.YtcicjbgfahdejaaPz1
namespace Go.Proofs.Ytcicjbgfahdejaa.P
open Go.RowKit Go.Proofs.YtcicjbgfahdejaaW.PrintWords Go.Proofs.YtcicjbgfahdejaaW.PrintLast Go.Proofs.YtcicjbgfahdejaaW.PrintMore
attribute [local go_sem] max2_int min2_int max_two min_two max_three min_three max_four min_four   -- for this text's walks alone
set_option linter.unusedVariables false
set_option linter.unusedSimpArgs false

/-! ### worldmintlaw14_LotsParts -/
set_option maxHeartbeats 8000000 in
set_option maxRecDepth 100000 in
theorem worldmintlaw14_LotsParts.calls (k : Nat) (A0 : Option Addr) (c0 : Nat) (l0 : List Int) (a1 : Int) (a2 : Int) (a3 : Bool) (r : Bool) (w : World) (hr0 : Kd.C (Kd.int .i64) w A0 l0.length l0) (hc0 : l0.length ≤ c0) (h : worldmintlaw14_LotsParts.f k l0 a1 a2 a3 = some r) :
  Calls Try.prog 8 #[.slice A0 l0.length c0, .int .i64 a1, .int .i64 a2, .bool a3] w fun e w' => e = .returned (.bool r) ∧ Below w.heap.size w w' := by
 have hu39 := Try.underlying39
 have HR0 := Aside0.mk hr0
 have HC0 := Aside0.mk hc0
 clear hr0 hc0
 have HB := Aside0.mk (Below.refl w.heap.size w)
 have H : ((worldmintref14_Lots.f k l0 0).bind fun t653 => ((lots_Set.f k t653).bind fun t656 => ((lots_Total.f k t656).bind fun t659 => (if t659 = 0 then (if (t656.length : Int) = 0 then ((worldmintlaw14_lives.f k).bind fun t660 => (some t660)) else (some false)) else ((worldmintref03_Around.f a1 (wrap64 ((mn t659 1099511627776) + 1))).bind fun t661 => ((lots_Take.f k t656 t661 a3).bind fun bt662 => (if bt662.2.2 = 0 then ((lots_Total.f k bt662.1).bind fun t669 => (if t669 = t661 then ((lots_Total.f k bt662.2.1).bind fun t670 => (if t670 = (wrap64 (t659 - t661)) then ((lots_Meet.f k bt662.1 bt662.2.1).bind fun t671 => (if (t671.length : Int) = 0 then ((lots_Union.f k bt662.1 bt662.2.1).bind fun t674 => ((worldmintref14_Same.f k t674 t656).bind fun t677 => (worldmintlaw14_LotsParts.j0 k a2 t656 t661 (!t677)))) else (worldmintlaw14_LotsParts.j0 k a2 t656 t661 true))) else (worldmintlaw14_LotsParts.j0 k a2 t656 t661 true))) else (worldmintlaw14_LotsParts.j0 k a2 t656 t661 true))) else (worldmintlaw14_LotsParts.j0 k a2 t656 t661 true)))))))) = some r := h
 clear h
 replace H := Option.bind_eq_some_iff.mp H
 obtain ⟨t653, A50, H⟩ := H
 replace H : ((lots_Set.f k t653).bind fun t656 => ((lots_Total.f k t656).bind fun t659 => (if t659 = 0 then (if (t656.length : Int) = 0 then ((worldmintlaw14_lives.f k).bind fun t660 => (some t660)) else (some false)) else ((worldmintref03_Around.f a1 (wrap64 ((mn t659 1099511627776) + 1))).bind fun t661 => ((lots_Take.f k t656 t661 a3).bind fun bt662 => (if bt662.2.2 = 0 then ((lots_Total.f k bt662.1).bind fun t669 => (if t669 = t661 then ((lots_Total.f k bt662.2.1).bind fun t670 => (if t670 = (wrap64 (t659 - t661)) then ((lots_Meet.f k bt662.1 bt662.2.1).bind fun t671 => (if (t671.length : Int) = 0 then ((lots_Union.f k bt662.1 bt662.2.1).bind fun t674 => ((worldmintref14_Same.f k t674 t656).bind fun t677 => (worldmintlaw14_LotsParts.j0 k a2 t656 t661 (!t677)))) else (worldmintlaw14_LotsParts.j0 k a2 t656 t661 true))) else (worldmintlaw14_LotsParts.j0 k a2 t656 t661 true))) else (worldmintlaw14_LotsParts.j0 k a2 t656 t661 true))) else (worldmintlaw14_LotsParts.j0 k a2 t656 t661 true))))))) = some r := H
 have A5 := Aside0.mk A50
 clear A50
 replace H := Option.bind_eq_some_iff.mp H
 obtain ⟨t656, A60, H⟩ := H
 replace H : ((lots_Total.f k t656).bind fun t659 => (if t659 = 0 then (if (t656.length : Int) = 0 then ((worldmintlaw14_lives.f k).bind fun t660 => (some t660)) else (some false)) else ((worldmintref03_Around.f a1 (wrap64 ((mn t659 1099511627776) + 1))).bind fun t661 => ((lots_Take.f k t656 t661 a3).bind fun bt662 => (if bt662.2.2 = 0 then ((lots_Total.f k bt662.1).bind fun t669 => (if t669 = t661 then ((lots_Total.f k bt662.2.1).bind fun t670 => (if t670 = (wrap64 (t659 - t661)) then ((lots_Meet.f k bt662.1 bt662.2.1).bind fun t671 => (if (t671.length : Int) = 0 then ((lots_Union.f k bt662.1 bt662.2.1).bind fun t674 => ((worldmintref14_Same.f k t674 t656).bind fun t677 => (worldmintlaw14_LotsParts.j0 k a2 t656 t661 (!t677)))) else (worldmintlaw14_LotsParts.j0 k a2 t656 t661 true))) else (worldmintlaw14_LotsParts.j0 k a2 t656 t661 true))) else (worldmintlaw14_LotsParts.j0 k a2 t656 t661 true))) else (worldmintlaw14_LotsParts.j0 k a2 t656 t661 true)))))) = some r := H
 have A6 := Aside0.mk A60
 clear A60
 replace H := Option.bind_eq_some_iff.mp H
 obtain ⟨t659, A70, H⟩ := H
 replace H : (if t659 = 0 then (if (t656.length : Int) = 0 then ((worldmintlaw14_lives.f k).bind fun t660 => (some t660)) else (some false)) else ((worldmintref03_Around.f a1 (wrap64 ((mn t659 1099511627776) + 1))).bind fun t661 => ((lots_Take.f k t656 t661 a3).bind fun bt662 => (if bt662.2.2 = 0 then ((lots_Total.f k bt662.1).bind fun t669 => (if t669 = t661 then ((lots_Total.f k bt662.2.1).bind fun t670 => (if t670 = (wrap64 (t659 - t661)) then ((lots_Meet.f k bt662.1 bt662.2.1).bind fun t671 => (if (t671.length : Int) = 0 then ((lots_Union.f k bt662.1 bt662.2.1).bind fun t674 => ((worldmintref14_Same.f k t674 t656).bind fun t677 => (worldmintlaw14_LotsParts.j0 k a2 t656 t661 (!t677)))) else (worldmintlaw14_LotsParts.j0 k a2 t656 t661 true))) else (worldmintlaw14_LotsParts.j0 k a2 t656 t661 true))) else (worldmintlaw14_LotsParts.j0 k a2 t656 t661 true))) else (worldmintlaw14_LotsParts.j0 k a2 t656 t661 true))))) = some r := H
 have A7 := Aside0.mk A70
 clear A70
 by_cases c8 : t659 = 0
 ·rw [if_pos c8] at H
  have c8b0 : (t659 == 0) = true := beq_iff_eq.mpr c8
  have c8b1 : (t659 != 0) = false := bne_eq_false_iff_eq.mpr c8
  clear c8
  by_cases c9 : (t656.length : Int) = 0
  ·rw [if_pos c9] at H
   have c9b0 : ((t656.length : Int) == 0) = true := beq_iff_eq.mpr c9
   have c9b1 : ((t656.length : Int) != 0) = false := bne_eq_false_iff_eq.mpr c9
   clear c9
   replace H := Option.bind_eq_some_iff.mp H
   obtain ⟨t660, A100, H⟩ := H
   replace H : (some t660) = some r := H
   have A10 := Aside0.mk A100
   clear A100
   obtain rfl := Option.some.inj H
   go_enter Try.func8, Try.ntmps8
   go_wp2_with (first | ((with_reducible refine gate_callee (f := 13) rfl ?_); refine goesL_ (some 28) rfl rfl Try.func13 (by kernel_rfl) rfl #[.slice A0 l0.length c0, .int .i64 0] rfl (by (try simp only [List.map_toArray, List.map_cons, List.map_nil]); first | done | rfl | (simp only [List.length_drop, List.length_take]; rfl)) ?_; (with_reducible refine (worldmintref14_Lots.calls k _ _ l0 0 t653 _ ?side1 ?side2 A5.out).mono ?_); (case side1 => repeat (first | exact HR0.out | (with_reducible refine Kd.C_alloc ?_ _) | (with_reducible refine Kd.C_drewN ?_ _) | (with_reducible refine Kd.C_drew ?_))); (case side2 => exact HC0.out); rintro e w11 ⟨v654, rfl, ho0, hb⟩; refine ⟨_, rfl, ?_⟩; have n0_ := Aside0.mk (Kd.R_lower ho0 (below_size (bw))); have n1_ := Aside0.mk (below_step (bw) hb); clear HB; have HO655 := n0_; have HB := n1_; clear n0_ n1_; (try clear hb); (try clear hb2); (try clear hk); (try clear hi); (try clear ho0); obtain ⟨Ao12, co12, eo12⟩ := Kd.R_slice HO655.out; subst eo12) | ((with_reducible refine gate_callee (f := 34) rfl ?_); refine goesL_ (some 29) rfl rfl Try.func34 (by kernel_rfl) rfl #[.slice Ao12 t653.length co12] rfl (by (try simp only [List.map_toArray, List.map_cons, List.map_nil]); first | done | rfl | (simp only [List.length_drop, List.length_take]; rfl)) ?_; (with_reducible refine (lots_Set.calls k _ _ t653 t656 _ ?side1 ?side2 A6.out).mono ?_); (case side1 => repeat (first | exact (Kd.R_reads' HO655.out).2.2 | (with_reducible refine Kd.C_alloc ?_ _) | (with_reducible refine Kd.C_drewN ?_ _) | (with_reducible refine Kd.C_drew ?_))); (case side2 => exact (Kd.R_reads' HO655.out).2.1); rintro e w13 ⟨v657, rfl, ho0, hb⟩; refine ⟨_, rfl, ?_⟩; have n0_ := Aside0.mk (Kd.R_elder' (kr HO655.out) (Kd.R_base ho0) hb); have n1_ := Aside0.mk (Kd.R_lower (Kd.R_new' ho0 (Kd.R_lt (kr HO655.out))) (below_size (bw))); have n2_ := Aside0.mk (below_step (bw) hb); clear HO655; clear HB; have HO655 := n0_; have HO658 := n1_; have HB := n2_; clear n0_ n1_ n2_; (try clear hb); (try clear hb2); (try clear hk); (try clear hi); (try clear ho0); obtain ⟨Ao14, co14, eo14⟩ := Kd.R_slice HO658.out; subst eo14) | ((with_reducible refine gate_callee (f := 24) rfl ?_); refine goesL_ (some 31) rfl rfl Try.func24 (by kernel_rfl) rfl #[.slice Ao14 t656.length co14] rfl (by (try simp only [List.map_toArray, List.map_cons, List.map_nil]); first | done | rfl | (simp only [List.length_drop, List.length_take]; rfl)) ?_; (with_reducible refine (lots_Total.calls k _ _ t656 t659 _ ?side1 ?side2 A7.out).mono ?_); (case side1 => repeat (first | exact (Kd.R_reads' HO658.out).2.2 | (with_reducible refine Kd.C_alloc ?_ _) | (with_reducible refine Kd.C_drewN ?_ _) | (with_reducible refine Kd.C_drew ?_))); (case side2 => exact (Kd.R_reads' HO658.out).2.1); rintro e w15 ⟨rfl, hb⟩; refine ⟨_, rfl, ?_⟩; have n0_ := Aside0.mk (Kd.R_below (kr HO655.out) hb); have n1_ := Aside0.mk (Kd.R_below (kr HO658.out) hb); have n2_ := Aside0.mk (below_step (bw) hb); clear HO655; clear HO658; clear HB; have HO655 := n0_; have HO658 := n1_; have HB := n2_; clear n0_ n1_ n2_; (try clear hb); (try clear hb2); (try clear hk); (try clear hi)) | (go_at_call 19; (with_reducible refine (worldmintlaw14_lives.calls k  t660 _ A10.out).mono ?_); rintro e w16 ⟨rfl, hb⟩; have n0_ := Aside0.mk (Kd.R_below (kr HO655.out) hb); have n1_ := Aside0.mk (Kd.R_below (kr HO658.out) hb); have n2_ := Aside0.mk (below_step (bw) hb); clear HO655; clear HO658; clear HB; have HO655 := n0_; have HO658 := n1_; have HB := n2_; clear n0_ n1_ n2_; (try clear hb); (try clear hb2); (try clear hk); (try clear hi)))
   go_ret
   exact ⟨by first | rfl | (simp [errW_none, errW_some] <;> rfl) | (simp [*, errW_none, errW_some] <;> rfl), bw⟩
  ·rw [if_neg c9] at H
   have c9b0 : ((t656.length : Int) == 0) = false := beq_eq_false_iff_ne.mpr c9
   have c9b1 : ((t656.length : Int) != 0) = true := bne_iff_ne.mpr c9
   have c9b2 : ¬ (t656 = []) := fun h_ => c9 (by rw [h_]; rfl)
   obtain rfl := Option.some.inj H
   go_enter Try.func8, Try.ntmps8
   go_wp2_with (first | ((with_reducible refine gate_callee (f := 13) rfl ?_); refine goesL_ (some 28) rfl rfl Try.func13 (by kernel_rfl) rfl #[.slice A0 l0.length c0, .int .i64 0] rfl (by (try simp only [List.map_toArray, List.map_cons, List.map_nil]); first | done | rfl | (simp only [List.length_drop, List.length_take]; rfl)) ?_; (with_reducible refine (worldmintref14_Lots.calls k _ _ l0 0 t653 _ ?side1 ?side2 A5.out).mono ?_); (case side1 => repeat (first | exact HR0.out | (with_reducible refine Kd.C_alloc ?_ _) | (with_reducible refine Kd.C_drewN ?_ _) | (with_reducible refine Kd.C_drew ?_))); (case side2 => exact HC0.out); rintro e w17 ⟨v654, rfl, ho0, hb⟩; refine ⟨_, rfl, ?_⟩; have n0_ := Aside0.mk (Kd.R_lower ho0 (below_size (bw))); have n1_ := Aside0.mk (below_step (bw) hb); clear HB; have HO655 := n0_; have HB := n1_; clear n0_ n1_; (try clear hb); (try clear hb2); (try clear hk); (try clear hi); (try clear ho0); obtain ⟨Ao18, co18, eo18⟩ := Kd.R_slice HO655.out; subst eo18) | ((with_reducible refine gate_callee (f := 34) rfl ?_); refine goesL_ (some 29) rfl rfl Try.func34 (by kernel_rfl) rfl #[.slice Ao18 t653.length co18] rfl (by (try simp only [List.map_toArray, List.map_cons, List.map_nil]); first | done | rfl | (simp only [List.length_drop, List.length_take]; rfl)) ?_; (with_reducible refine (lots_Set.calls k _ _ t653 t656 _ ?side1 ?side2 A6.out).mono ?_); (case side1 => repeat (first | exact (Kd.R_reads' HO655.out).2.2 | (with_reducible refine Kd.C_alloc ?_ _) | (with_reducible refine Kd.C_drewN ?_ _) | (with_reducible refine Kd.C_drew ?_))); (case side2 => exact (Kd.R_reads' HO655.out).2.1); rintro e w19 ⟨v657, rfl, ho0, hb⟩; refine ⟨_, rfl, ?_⟩; have n0_ := Aside0.mk (Kd.R_elder' (kr HO655.out) (Kd.R_base ho0) hb); have n1_ := Aside0.mk (Kd.R_lower (Kd.R_new' ho0 (Kd.R_lt (kr HO655.out))) (below_size (bw))); have n2_ := Aside0.mk (below_step (bw) hb); clear HO655; clear HB; have HO655 := n0_; have HO658 := n1_; have HB := n2_; clear n0_ n1_ n2_; (try clear hb); (try clear hb2); (try clear hk); (try clear hi); (try clear ho0); obtain ⟨Ao20, co20, eo20⟩ := Kd.R_slice HO658.out; subst eo20) | ((with_reducible refine gate_callee (f := 24) rfl ?_); refine goesL_ (some 31) rfl rfl Try.func24 (by kernel_rfl) rfl #[.slice Ao20 t656.length co20] rfl (by (try simp only [List.map_toArray, List.map_cons, List.map_nil]); first | done | rfl | (simp only [List.length_drop, List.length_take]; rfl)) ?_; (with_reducible refine (lots_Total.calls k _ _ t656 t659 _ ?side1 ?side2 A7.out).mono ?_); (case side1 => repeat (first | exact (Kd.R_reads' HO658.out).2.2 | (with_reducible refine Kd.C_alloc ?_ _) | (with_reducible refine Kd.C_drewN ?_ _) | (with_reducible refine Kd.C_drew ?_))); (case side2 => exact (Kd.R_reads' HO658.out).2.1); rintro e w21 ⟨rfl, hb⟩; refine ⟨_, rfl, ?_⟩; have n0_ := Aside0.mk (Kd.R_below (kr HO655.out) hb); have n1_ := Aside0.mk (Kd.R_below (kr HO658.out) hb); have n2_ := Aside0.mk (below_step (bw) hb); clear HO655; clear HO658; clear HB; have HO655 := n0_; have HO658 := n1_; have HB := n2_; clear n0_ n1_ n2_; (try clear hb); (try clear hb2); (try clear hk); (try clear hi)))
   go_ret
   exact ⟨by first | rfl | (simp [errW_none, errW_some] <;> rfl) | (simp [*, errW_none, errW_some] <;> rfl), bw⟩
 ·rw [if_neg c8] at H
  have c8b0 : (t659 == 0) = false := beq_eq_false_iff_ne.mpr c8
  have c8b1 : (t659 != 0) = true := bne_iff_ne.mpr c8
  obtain ⟨ji22, hji22⟩ : ∃ j_ : Int, (mn t659 1099511627776) = j_ := ⟨_, rfl⟩
  replace H : ((worldmintref03_Around.f a1 (wrap64 ((ji22) + 1))).bind fun t661 => ((lots_Take.f k t656 t661 a3).bind fun bt662 => (if bt662.2.2 = 0 then ((lots_Total.f k bt662.1).bind fun t669 => (if t669 = t661 then ((lots_Total.f k bt662.2.1).bind fun t670 => (if t670 = (wrap64 (t659 - t661)) then ((lots_Meet.f k bt662.1 bt662.2.1).bind fun t671 => (if (t671.length : Int) = 0 then ((lots_Union.f k bt662.1 bt662.2.1).bind fun t674 => ((worldmintref14_Same.f k t674 t656).bind fun t677 => (worldmintlaw14_LotsParts.j0 k a2 t656 t661 (!t677)))) else (worldmintlaw14_LotsParts.j0 k a2 t656 t661 true))) else (worldmintlaw14_LotsParts.j0 k a2 t656 t661 true))) else (worldmintlaw14_LotsParts.j0 k a2 t656 t661 true))) else (worldmintlaw14_LotsParts.j0 k a2 t656 t661 true)))) = some r := by first | (rw [hji22] at H; exact H) | (simp only [hji22] at H ⊢; exact H)
  (try rw [hji22] at A5)
  (try rw [hji22] at A6)
  (try rw [hji22] at A7)
  (try (have hji22h : ji22 ≤ 1099511627776 := by (rw [← hji22]; unfold mn; (repeat' split) <;> omega)))
  (try (have hji22g : ji22 ≤ 64 := by omega))
  have hji22_ : (if 1099511627776 < t659 then 1099511627776 else t659) = ji22 := hji22
  replace H := Option.bind_eq_some_iff.mp H
  obtain ⟨t661, A230, H⟩ := H
  replace H : ((lots_Take.f k t656 t661 a3).bind fun bt662 => (if bt662.2.2 = 0 then ((lots_Total.f k bt662.1).bind fun t669 => (if t669 = t661 then ((lots_Total.f k bt662.2.1).bind fun t670 => (if t670 = (wrap64 (t659 - t661)) then ((lots_Meet.f k bt662.1 bt662.2.1).bind fun t671 => (if (t671.length : Int) = 0 then ((lots_Union.f k bt662.1 bt662.2.1).bind fun t674 => ((worldmintref14_Same.f k t674 t656).bind fun t677 => (worldmintlaw14_LotsParts.j0 k a2 t656 t661 (!t677)))) else (worldmintlaw14_LotsParts.j0 k a2 t656 t661 true))) else (worldmintlaw14_LotsParts.j0 k a2 t656 t661 true))) else (worldmintlaw14_LotsParts.j0 k a2 t656 t661 true))) else (worldmintlaw14_LotsParts.j0 k a2 t656 t661 true))) = some r := H
  have A23 := Aside0.mk A230
  clear A230
  replace H := Option.bind_eq_some_iff.mp H
  obtain ⟨⟨t662, t663, t664⟩, A240, H⟩ := H
  replace H : (if t664 = 0 then ((lots_Total.f k t662).bind fun t669 => (if t669 = t661 then ((lots_Total.f k t663).bind fun t670 => (if t670 = (wrap64 (t659 - t661)) then ((lots_Meet.f k t662 t663).bind fun t671 => (if (t671.length : Int) = 0 then ((lots_Union.f k t662 t663).bind fun t674 => ((worldmintref14_Same.f k t674 t656).bind fun t677 => (worldmintlaw14_LotsParts.j0 k a2 t656 t661 (!t677)))) else (worldmintlaw14_LotsParts.j0 k a2 t656 t661 true))) else (worldmintlaw14_LotsParts.j0 k a2 t656 t661 true))) else (worldmintlaw14_LotsParts.j0 k a2 t656 t661 true))) else (worldmintlaw14_LotsParts.j0 k a2 t656 t661 true)) = some r := H
  have A24 := Aside0.mk A240
  clear A240
  have HC25 := Aside0.mk H
  clear H
  go_enter Try.func8, Try.ntmps8
  go_upto_region 7 with (first | ((with_reducible refine gate_callee (f := 13) rfl ?_); refine goesL_ (some 28) rfl rfl Try.func13 (by kernel_rfl) rfl #[.slice A0 l0.length c0, .int .i64 0] rfl (by (try simp only [List.map_toArray, List.map_cons, List.map_nil]); first | done | rfl | (simp only [List.length_drop, List.length_take]; rfl)) ?_; (with_reducible refine (worldmintref14_Lots.calls k _ _ l0 0 t653 _ ?side1 ?side2 A5.out).mono ?_); (case side1 => repeat (first | exact HR0.out | (with_reducible refine Kd.C_alloc ?_ _) | (with_reducible refine Kd.C_drewN ?_ _) | (with_reducible refine Kd.C_drew ?_))); (case side2 => exact HC0.out); rintro e w26 ⟨v654, rfl, ho0, hb⟩; refine ⟨_, rfl, ?_⟩; have n0_ := Aside0.mk (Kd.R_lower ho0 (below_size (bw))); have n1_ := Aside0.mk (below_step (bw) hb); clear HB; have HO655 := n0_; have HB := n1_; clear n0_ n1_; (try clear hb); (try clear hb2); (try clear hk); (try clear hi); (try clear ho0); obtain ⟨Ao27, co27, eo27⟩ := Kd.R_slice HO655.out; subst eo27) | ((with_reducible refine gate_callee (f := 34) rfl ?_); refine goesL_ (some 29) rfl rfl Try.func34 (by kernel_rfl) rfl #[.slice Ao27 t653.length co27] rfl (by (try simp only [List.map_toArray, List.map_cons, List.map_nil]); first | done | rfl | (simp only [List.length_drop, List.length_take]; rfl)) ?_; (with_reducible refine (lots_Set.calls k _ _ t653 t656 _ ?side1 ?side2 A6.out).mono ?_); (case side1 => repeat (first | exact (Kd.R_reads' HO655.out).2.2 | (with_reducible refine Kd.C_alloc ?_ _) | (with_reducible refine Kd.C_drewN ?_ _) | (with_reducible refine Kd.C_drew ?_))); (case side2 => exact (Kd.R_reads' HO655.out).2.1); rintro e w28 ⟨v657, rfl, ho0, hb⟩; refine ⟨_, rfl, ?_⟩; have n0_ := Aside0.mk (Kd.R_elder' (kr HO655.out) (Kd.R_base ho0) hb); have n1_ := Aside0.mk (Kd.R_lower (Kd.R_new' ho0 (Kd.R_lt (kr HO655.out))) (below_size (bw))); have n2_ := Aside0.mk (below_step (bw) hb); clear HO655; clear HB; have HO655 := n0_; have HO658 := n1_; have HB := n2_; clear n0_ n1_ n2_; (try clear hb); (try clear hb2); (try clear hk); (try clear hi); (try clear ho0); obtain ⟨Ao29, co29, eo29⟩ := Kd.R_slice HO658.out; subst eo29) | ((with_reducible refine gate_callee (f := 24) rfl ?_); refine goesL_ (some 31) rfl rfl Try.func24 (by kernel_rfl) rfl #[.slice Ao29 t656.length co29] rfl (by (try simp only [List.map_toArray, List.map_cons, List.map_nil]); first | done | rfl | (simp only [List.length_drop, List.length_take]; rfl)) ?_; (with_reducible refine (lots_Total.calls k _ _ t656 t659 _ ?side1 ?side2 A7.out).mono ?_); (case side1 => repeat (first | exact (Kd.R_reads' HO658.out).2.2 | (with_reducible refine Kd.C_alloc ?_ _) | (with_reducible refine Kd.C_drewN ?_ _) | (with_reducible refine Kd.C_drew ?_))); (case side2 => exact (Kd.R_reads' HO658.out).2.1); rintro e w30 ⟨rfl, hb⟩; refine ⟨_, rfl, ?_⟩; have n0_ := Aside0.mk (Kd.R_below (kr HO655.out) hb); have n1_ := Aside0.mk (Kd.R_below (kr HO658.out) hb); have n2_ := Aside0.mk (below_step (bw) hb); clear HO655; clear HO658; clear HB; have HO655 := n0_; have HO658 := n1_; have HB := n2_; clear n0_ n1_ n2_; (try clear hb); (try clear hb2); (try clear hk); (try clear hi)) | ((with_reducible refine gate_callee (f := 14) rfl ?_); refine goesL_ (some 44) rfl rfl Try.func14 (by kernel_rfl) rfl #[.int .i64 a1, .int .i64 (wrap64 ((ji22) + 1))] rfl (by (try simp only [List.map_toArray, List.map_cons, List.map_nil]); first | done | (simp only [hji22]; rfl) | rfl | (simp only [List.length_drop, List.length_take]; rfl)) ?_; (with_reducible refine (worldmintref03_Around.calls a1 (wrap64 ((ji22) + 1)) t661 _ A23.out).mono ?_); rintro e w' ⟨rfl, ⟨nd, rfl⟩⟩; refine ⟨_, rfl, ?_⟩) | ((with_reducible refine gate_callee (f := 16) rfl ?_); refine goesL_ (some 49) rfl rfl Try.func16 (by kernel_rfl) rfl #[.slice Ao29 t656.length co29, .int .i64 t661, .bool a3] rfl (by (try simp only [List.map_toArray, List.map_cons, List.map_nil]); first | done | rfl | (simp only [List.length_drop, List.length_take]; rfl)) ?_; (with_reducible refine (lots_Take.calls k _ _ t656 t661 a3 t662 t663 t664 _ ?side1 ?side2 A24.out).mono ?_); (case side1 => repeat (first | exact (Kd.R_reads' HO658.out).2.2 | (with_reducible refine Kd.C_alloc ?_ _) | (with_reducible refine Kd.C_drewN ?_ _) | (with_reducible refine Kd.C_drew ?_))); (case side2 => exact (Kd.R_reads' HO658.out).2.1); rintro e w31 ⟨v665, v667, rfl, ho0, ho1, hb⟩; refine ⟨_, rfl, ?_⟩; have n0_ := Aside0.mk (Kd.R_mono (Kd.R_told (Kd.R_told (Kd.R_old (kr HO655.out) hb) (Kd.R_base ho0)) (Kd.R_base ho1)) (fun _ h_ => h_.1)); have n1_ := Aside0.mk (Kd.R_mono (Kd.R_told (Kd.R_told (Kd.R_old (kr HO658.out) hb) (Kd.R_base ho0)) (Kd.R_base ho1)) (fun _ h_ => h_.1)); have n2_ := Aside0.mk (Kd.R_lower (Kd.R_new' (Kd.R_new' ho0 (Kd.R_lt (kr HO655.out))) (Kd.R_lt (kr HO658.out))) (below_size (bw))); have n3_ := Aside0.mk (Kd.R_lower (Kd.R_new' (Kd.R_new' ho1 (Kd.R_lt (kr HO655.out))) (Kd.R_lt (kr HO658.out))) (below_size (bw))); have n4_ := Aside0.mk (below_step (bw) hb); clear HO655; clear HO658; clear HB; have HO655 := n0_; have HO658 := n1_; have HO666 := n2_; have HO668 := n3_; have HB := n4_; clear n0_ n1_ n2_ n3_ n4_; (try clear hb); (try clear hb2); (try clear hk); (try clear hi); (try clear ho0); (try clear ho1)))
  (try simp only [Act.put, List.setIfInBounds_toArray, List.set_cons_zero, List.set_cons_succ])
  go_cut [83] (fun v83 wc => ∃ (kq : Nat) (x83_24 : Bool), v83 = .bool x83_24 ∧ Aside0 (worldmintlaw14_LotsParts.j0 kq a2 t656 t661 x83_24 = some r) ∧ Aside0 (kq ≤ k) ∧ Aside0 (Kd.R k39 39 wc w.heap.size (fun _ => True) (.slice Ao29 t656.length co29) t656) ∧ Aside0 (Below w.heap.size w wc))
  case first =>
   have H := HC25.out
   clear HC25
   by_cases c32 : t664 = 0
   ·rw [if_pos c32] at H
    have c32b0 : (t664 == 0) = true := beq_iff_eq.mpr c32
    have c32b1 : (t664 != 0) = false := bne_eq_false_iff_eq.mpr c32
    clear c32
    (first | rw [c32b0] | (simp only [i64_w, i32_w]; rw [c32b0]) | skip)
    replace H := Option.bind_eq_some_iff.mp H
    obtain ⟨t669, A330, H⟩ := H
    replace H : (if t669 = t661 then ((lots_Total.f k t663).bind fun t670 => (if t670 = (wrap64 (t659 - t661)) then ((lots_Meet.f k t662 t663).bind fun t671 => (if (t671.length : Int) = 0 then ((lots_Union.f k t662 t663).bind fun t674 => ((worldmintref14_Same.f k t674 t656).bind fun t677 => (worldmintlaw14_LotsParts.j0 k a2 t656 t661 (!t677)))) else (worldmintlaw14_LotsParts.j0 k a2 t656 t661 true))) else (worldmintlaw14_LotsParts.j0 k a2 t656 t661 true))) else (worldmintlaw14_LotsParts.j0 k a2 t656 t661 true)) = some r := H
    have A33 := Aside0.mk A330
    clear A330
    by_cases c34 : t669 = t661
    ·rw [if_pos c34] at H
     have c34b0 : (t669 == t661) = true := beq_iff_eq.mpr c34
     have c34b1 : (t669 != t661) = false := bne_eq_false_iff_eq.mpr c34
     clear c34
     replace H := Option.bind_eq_some_iff.mp H
     obtain ⟨t670, A350, H⟩ := H
     replace H : (if t670 = (wrap64 (t659 - t661)) then ((lots_Meet.f k t662 t663).bind fun t671 => (if (t671.length : Int) = 0 then ((lots_Union.f k t662 t663).bind fun t674 => ((worldmintref14_Same.f k t674 t656).bind fun t677 => (worldmintlaw14_LotsParts.j0 k a2 t656 t661 (!t677)))) else (worldmintlaw14_LotsParts.j0 k a2 t656 t661 true))) else (worldmintlaw14_LotsParts.j0 k a2 t656 t661 true)) = some r := H
     have A35 := Aside0.mk A350
     clear A350
     by_cases c36 : t670 = (wrap64 (t659 - t661))
     ·rw [if_pos c36] at H
      have c36b0 : (t670 == (wrap64 (t659 - t661))) = true := beq_iff_eq.mpr c36
      have c36b1 : (t670 != (wrap64 (t659 - t661))) = false := bne_eq_false_iff_eq.mpr c36
      clear c36
      replace H := Option.bind_eq_some_iff.mp H
      obtain ⟨t671, A370, H⟩ := H
      replace H : (if (t671.length : Int) = 0 then ((lots_Union.f k t662 t663).bind fun t674 => ((worldmintref14_Same.f k t674 t656).bind fun t677 => (worldmintlaw14_LotsParts.j0 k a2 t656 t661 (!t677)))) else (worldmintlaw14_LotsParts.j0 k a2 t656 t661 true)) = some r := H
      have A37 := Aside0.mk A370
      clear A370
      by_cases c38 : (t671.length : Int) = 0
      ·rw [if_pos c38] at H
       have c38b0 : ((t671.length : Int) == 0) = true := beq_iff_eq.mpr c38
       have c38b1 : ((t671.length : Int) != 0) = false := bne_eq_false_iff_eq.mpr c38
       clear c38
       replace H := Option.bind_eq_some_iff.mp H
       obtain ⟨t674, A390, H⟩ := H
       replace H : ((worldmintref14_Same.f k t674 t656).bind fun t677 => (worldmintlaw14_LotsParts.j0 k a2 t656 t661 (!t677))) = some r := H
       have A39 := Aside0.mk A390
       clear A390
       replace H := Option.bind_eq_some_iff.mp H
       obtain ⟨t677, A400, H⟩ := H
       replace H : (worldmintlaw14_LotsParts.j0 k a2 t656 t661 (!t677)) = some r := H
       have A40 := Aside0.mk A400
       clear A400
       have H' := Aside0.mk H
       clear H
       obtain ⟨Ao41, co41, eo41⟩ := Kd.R_slice HO666.out
       subst eo41
       go_wp2_with (first | (go_at_call 24; (with_reducible refine (lots_Total.calls k _ _ t662 t669 _ ?side1 ?side2 A33.out).mono ?_); (case side1 => repeat (first | exact (Kd.R_reads' HO666.out).2.2 | (with_reducible refine Kd.C_alloc ?_ _) | (with_reducible refine Kd.C_drewN ?_ _) | (with_reducible refine Kd.C_drew ?_))); (case side2 => exact (Kd.R_reads' HO666.out).2.1); rintro e w42 ⟨rfl, hb⟩; have n0_ := Aside0.mk (Kd.R_below (kr HO655.out) hb); have n1_ := Aside0.mk (Kd.R_below (kr HO658.out) hb); have n2_ := Aside0.mk (Kd.R_below (kr HO666.out) hb); have n3_ := Aside0.mk (Kd.R_below (kr HO668.out) hb); have n4_ := Aside0.mk (below_step (bw) hb); clear HO655; clear HO658; clear HO666; clear HO668; clear HB; have HO655 := n0_; have HO658 := n1_; have HO666 := n2_; have HO668 := n3_; have HB := n4_; clear n0_ n1_ n2_ n3_ n4_; (try clear hb); (try clear hb2); (try clear hk); (try clear hi); obtain ⟨Ao43, co43, eo43⟩ := Kd.R_slice HO668.out; subst eo43) | (go_at_call 24; (with_reducible refine (lots_Total.calls k _ _ t663 t670 _ ?side1 ?side2 A35.out).mono ?_); (case side1 => repeat (first | exact (Kd.R_reads' HO668.out).2.2 | (with_reducible refine Kd.C_alloc ?_ _) | (with_reducible refine Kd.C_drewN ?_ _) | (with_reducible refine Kd.C_drew ?_))); (case side2 => exact (Kd.R_reads' HO668.out).2.1); rintro e w44 ⟨rfl, hb⟩; have n0_ := Aside0.mk (Kd.R_below (kr HO655.out) hb); have n1_ := Aside0.mk (Kd.R_below (kr HO658.out) hb); have n2_ := Aside0.mk (Kd.R_below (kr HO666.out) hb); have n3_ := Aside0.mk (Kd.R_below (kr HO668.out) hb); have n4_ := Aside0.mk (below_step (bw) hb); clear HO655; clear HO658; clear HO666; clear HO668; clear HB; have HO655 := n0_; have HO658 := n1_; have HO666 := n2_; have HO668 := n3_; have HB := n4_; clear n0_ n1_ n2_ n3_ n4_; (try clear hb); (try clear hb2); (try clear hk); (try clear hi)) | (go_at_call 27; (with_reducible refine (lots_Meet.calls k _ _ t662 _ _ t663 t671 _ ?side1 ?side2 ?side3 ?side4 A37.out).mono ?_); (case side1 => repeat (first | exact (Kd.R_reads' HO666.out).2.2 | (with_reducible refine Kd.C_alloc ?_ _) | (with_reducible refine Kd.C_drewN ?_ _) | (with_reducible refine Kd.C_drew ?_))); (case side2 => exact (Kd.R_reads' HO666.out).2.1); (case side3 => repeat (first | exact (Kd.R_reads' HO668.out).2.2 | (with_reducible refine Kd.C_alloc ?_ _) | (with_reducible refine Kd.C_drewN ?_ _) | (with_reducible refine Kd.C_drew ?_))); (case side4 => exact (Kd.R_reads' HO668.out).2.1); rintro e w45 ⟨v672, rfl, ho0, hb⟩; have n0_ := Aside0.mk (Kd.R_elder' (kr HO655.out) (Kd.R_base ho0) hb); have n1_ := Aside0.mk (Kd.R_elder' (kr HO658.out) (Kd.R_base ho0) hb); have n2_ := Aside0.mk (Kd.R_elder' (kr HO666.out) (Kd.R_base ho0) hb); have n3_ := Aside0.mk (Kd.R_elder' (kr HO668.out) (Kd.R_base ho0) hb); have n4_ := Aside0.mk (Kd.R_lower (Kd.R_new' (Kd.R_new' (Kd.R_new' (Kd.R_new' ho0 (Kd.R_lt (kr HO655.out))) (Kd.R_lt (kr HO658.out))) (Kd.R_lt (kr HO666.out))) (Kd.R_lt (kr HO668.out))) (below_size (bw))); have n5_ := Aside0.mk (below_step (bw) hb); clear HO655; clear HO658; clear HO666; clear HO668; clear HB; have HO655 := n0_; have HO658 := n1_; have HO666 := n2_; have HO668 := n3_; have HO673 := n4_; have HB := n5_; clear n0_ n1_ n2_ n3_ n4_ n5_; (try clear hb); (try clear hb2); (try clear hk); (try clear hi); (try clear ho0); obtain ⟨Ao46, co46, eo46⟩ := Kd.R_slice HO673.out; subst eo46) | (go_at_call 30; (with_reducible refine (lots_Union.calls k (fun k_ => some k_ = (.slice Ao41 t662.length co41 : Value).ownBlock) _ _ t662 (fun k_ => some k_ = (.slice Ao43 t663.length co43 : Value).ownBlock) _ _ t663 t674 _ ?side1 ?side2 A39.out).mono ?_); (case side1 => exact Kd.R_V (Kd.R_tight rfl (HO666.out))); (case side2 => exact Kd.R_V (Kd.R_tight rfl (HO668.out))); rintro e w47 ⟨v675, rfl, ho0, hb⟩; have n0_ := Aside0.mk (Kd.R_elder' (kr HO655.out) (Kd.R_base ho0) hb); have n1_ := Aside0.mk (Kd.R_elder' (kr HO658.out) (Kd.R_base ho0) hb); have n2_ := Aside0.mk (Kd.R_elder' (kr HO666.out) (Kd.R_base ho0) hb); have n3_ := Aside0.mk (Kd.R_elder' (kr HO668.out) (Kd.R_base ho0) hb); have n4_ := Aside0.mk (Kd.R_elder' (kr HO673.out) (Kd.R_base ho0) hb); have n5_ := Aside0.mk (Kd.R_lower (Kd.R_new' (Kd.R_new' (Kd.R_new' (Kd.R_new' (Kd.R_new' (Kd.R_mono (ok' := fun k_ => True) ho0 (fun _ hk_ => trivial)) (Kd.R_lt (kr HO655.out))) (Kd.R_lt (kr HO658.out))) (Kd.R_lt (kr HO666.out))) (Kd.R_lt (kr HO668.out))) (Kd.R_lt (kr HO673.out))) (below_size (bw))); have n6_ := Aside0.mk (below_step (bw) hb); clear HO655; clear HO658; clear HO666; clear HO668; clear HO673; clear HB; have HO655 := n0_; have HO658 := n1_; have HO666 := n2_; have HO668 := n3_; have HO673 := n4_; have HO676 := n5_; have HB := n6_; clear n0_ n1_ n2_ n3_ n4_ n5_ n6_; (try clear hb); (try clear hb2); (try clear hk); (try clear hi); (try clear ho0); obtain ⟨Ao48, co48, eo48⟩ := Kd.R_slice HO676.out; subst eo48) | (go_at_call 18; (with_reducible refine (worldmintref14_Same.calls k _ _ t674 _ _ t656 t677 _ ?side1 ?side2 ?side3 ?side4 A40.out).mono ?_); (case side1 => repeat (first | exact (Kd.R_reads' HO676.out).2.2 | (with_reducible refine Kd.C_alloc ?_ _) | (with_reducible refine Kd.C_drewN ?_ _) | (with_reducible refine Kd.C_drew ?_))); (case side2 => exact (Kd.R_reads' HO676.out).2.1); (case side3 => repeat (first | exact (Kd.R_reads' HO658.out).2.2 | (with_reducible refine Kd.C_alloc ?_ _) | (with_reducible refine Kd.C_drewN ?_ _) | (with_reducible refine Kd.C_drew ?_))); (case side4 => exact (Kd.R_reads' HO658.out).2.1); rintro e w' ⟨rfl, ⟨nd, rfl⟩⟩))
       go_meet
       case rel => exact ⟨_, (!t677), eqs, H', ⟨by first | omega | exact Nat.le_refl _⟩, ⟨by (with_reducible repeat (first | apply Kd.R_alloc | apply Kd.R_drewN | apply Kd.R_drew)); exact Kd.R_mono HO658.out (fun _ hk => trivial)⟩, ⟨bw⟩⟩
      ·rw [if_neg c38] at H
       have c38b0 : ((t671.length : Int) == 0) = false := beq_eq_false_iff_ne.mpr c38
       have c38b1 : ((t671.length : Int) != 0) = true := bne_iff_ne.mpr c38
       have c38b2 : ¬ (t671 = []) := fun h_ => c38 (by rw [h_]; rfl)
       have H' := Aside0.mk H
       clear H
       obtain ⟨Ao49, co49, eo49⟩ := Kd.R_slice HO666.out
       subst eo49
       go_wp2_with (first | (go_at_call 24; (with_reducible refine (lots_Total.calls k _ _ t662 t669 _ ?side1 ?side2 A33.out).mono ?_); (case side1 => repeat (first | exact (Kd.R_reads' HO666.out).2.2 | (with_reducible refine Kd.C_alloc ?_ _) | (with_reducible refine Kd.C_drewN ?_ _) | (with_reducible refine Kd.C_drew ?_))); (case side2 => exact (Kd.R_reads' HO666.out).2.1); rintro e w50 ⟨rfl, hb⟩; have n0_ := Aside0.mk (Kd.R_below (kr HO655.out) hb); have n1_ := Aside0.mk (Kd.R_below (kr HO658.out) hb); have n2_ := Aside0.mk (Kd.R_below (kr HO666.out) hb); have n3_ := Aside0.mk (Kd.R_below (kr HO668.out) hb); have n4_ := Aside0.mk (below_step (bw) hb); clear HO655; clear HO658; clear HO666; clear HO668; clear HB; have HO655 := n0_; have HO658 := n1_; have HO666 := n2_; have HO668 := n3_; have HB := n4_; clear n0_ n1_ n2_ n3_ n4_; (try clear hb); (try clear hb2); (try clear hk); (try clear hi); obtain ⟨Ao51, co51, eo51⟩ := Kd.R_slice HO668.out; subst eo51) | (go_at_call 24; (with_reducible refine (lots_Total.calls k _ _ t663 t670 _ ?side1 ?side2 A35.out).mono ?_); (case side1 => repeat (first | exact (Kd.R_reads' HO668.out).2.2 | (with_reducible refine Kd.C_alloc ?_ _) | (with_reducible refine Kd.C_drewN ?_ _) | (with_reducible refine Kd.C_drew ?_))); (case side2 => exact (Kd.R_reads' HO668.out).2.1); rintro e w52 ⟨rfl, hb⟩; have n0_ := Aside0.mk (Kd.R_below (kr HO655.out) hb); have n1_ := Aside0.mk (Kd.R_below (kr HO658.out) hb); have n2_ := Aside0.mk (Kd.R_below (kr HO666.out) hb); have n3_ := Aside0.mk (Kd.R_below (kr HO668.out) hb); have n4_ := Aside0.mk (below_step (bw) hb); clear HO655; clear HO658; clear HO666; clear HO668; clear HB; have HO655 := n0_; have HO658 := n1_; have HO666 := n2_; have HO668 := n3_; have HB := n4_; clear n0_ n1_ n2_ n3_ n4_; (try clear hb); (try clear hb2); (try clear hk); (try clear hi)) | (go_at_call 27; (with_reducible refine (lots_Meet.calls k _ _ t662 _ _ t663 t671 _ ?side1 ?side2 ?side3 ?side4 A37.out).mono ?_); (case side1 => repeat (first | exact (Kd.R_reads' HO666.out).2.2 | (with_reducible refine Kd.C_alloc ?_ _) | (with_reducible refine Kd.C_drewN ?_ _) | (with_reducible refine Kd.C_drew ?_))); (case side2 => exact (Kd.R_reads' HO666.out).2.1); (case side3 => repeat (first | exact (Kd.R_reads' HO668.out).2.2 | (with_reducible refine Kd.C_alloc ?_ _) | (with_reducible refine Kd.C_drewN ?_ _) | (with_reducible refine Kd.C_drew ?_))); (case side4 => exact (Kd.R_reads' HO668.out).2.1); rintro e w53 ⟨v672, rfl, ho0, hb⟩; have n0_ := Aside0.mk (Kd.R_elder' (kr HO655.out) (Kd.R_base ho0) hb); have n1_ := Aside0.mk (Kd.R_elder' (kr HO658.out) (Kd.R_base ho0) hb); have n2_ := Aside0.mk (Kd.R_elder' (kr HO666.out) (Kd.R_base ho0) hb); have n3_ := Aside0.mk (Kd.R_elder' (kr HO668.out) (Kd.R_base ho0) hb); have n4_ := Aside0.mk (Kd.R_lower (Kd.R_new' (Kd.R_new' (Kd.R_new' (Kd.R_new' ho0 (Kd.R_lt (kr HO655.out))) (Kd.R_lt (kr HO658.out))) (Kd.R_lt (kr HO666.out))) (Kd.R_lt (kr HO668.out))) (below_size (bw))); have n5_ := Aside0.mk (below_step (bw) hb); clear HO655; clear HO658; clear HO666; clear HO668; clear HB; have HO655 := n0_; have HO658 := n1_; have HO666 := n2_; have HO668 := n3_; have HO673 := n4_; have HB := n5_; clear n0_ n1_ n2_ n3_ n4_ n5_; (try clear hb); (try clear hb2); (try clear hk); (try clear hi); (try clear ho0); obtain ⟨Ao54, co54, eo54⟩ := Kd.R_slice HO673.out; subst eo54))
       go_meet
       case rel => exact ⟨_, (true), eqs, H', ⟨by first | omega | exact Nat.le_refl _⟩, ⟨by (with_reducible repeat (first | apply Kd.R_alloc | apply Kd.R_drewN | apply Kd.R_drew)); exact Kd.R_mono HO658.out (fun _ hk => trivial)⟩, ⟨bw⟩⟩
     ·rw [if_neg c36] at H
      have c36b0 : (t670 == (wrap64 (t659 - t661))) = false := beq_eq_false_iff_ne.mpr c36
      have c36b1 : (t670 != (wrap64 (t659 - t661))) = true := bne_iff_ne.mpr c36
      have H' := Aside0.mk H
      clear H
      obtain ⟨Ao55, co55, eo55⟩ := Kd.R_slice HO666.out
      subst eo55
      go_wp2_with (first | (go_at_call 24; (with_reducible refine (lots_Total.calls k _ _ t662 t669 _ ?side1 ?side2 A33.out).mono ?_); (case side1 => repeat (first | exact (Kd.R_reads' HO666.out).2.2 | (with_reducible refine Kd.C_alloc ?_ _) | (with_reducible refine Kd.C_drewN ?_ _) | (with_reducible refine Kd.C_drew ?_))); (case side2 => exact (Kd.R_reads' HO666.out).2.1); rintro e w56 ⟨rfl, hb⟩; have n0_ := Aside0.mk (Kd.R_below (kr HO655.out) hb); have n1_ := Aside0.mk (Kd.R_below (kr HO658.out) hb); have n2_ := Aside0.mk (Kd.R_below (kr HO666.out) hb); have n3_ := Aside0.mk (Kd.R_below (kr HO668.out) hb); have n4_ := Aside0.mk (below_step (bw) hb); clear HO655; clear HO658; clear HO666; clear HO668; clear HB; have HO655 := n0_; have HO658 := n1_; have HO666 := n2_; have HO668 := n3_; have HB := n4_; clear n0_ n1_ n2_ n3_ n4_; (try clear hb); (try clear hb2); (try clear hk); (try clear hi); obtain ⟨Ao57, co57, eo57⟩ := Kd.R_slice HO668.out; subst eo57) | (go_at_call 24; (with_reducible refine (lots_Total.calls k _ _ t663 t670 _ ?side1 ?side2 A35.out).mono ?_); (case side1 => repeat (first | exact (Kd.R_reads' HO668.out).2.2 | (with_reducible refine Kd.C_alloc ?_ _) | (with_reducible refine Kd.C_drewN ?_ _) | (with_reducible refine Kd.C_drew ?_))); (case side2 => exact (Kd.R_reads' HO668.out).2.1); rintro e w58 ⟨rfl, hb⟩; have n0_ := Aside0.mk (Kd.R_below (kr HO655.out) hb); have n1_ := Aside0.mk (Kd.R_below (kr HO658.out) hb); have n2_ := Aside0.mk (Kd.R_below (kr HO666.out) hb); have n3_ := Aside0.mk (Kd.R_below (kr HO668.out) hb); have n4_ := Aside0.mk (below_step (bw) hb); clear HO655; clear HO658; clear HO666; clear HO668; clear HB; have HO655 := n0_; have HO658 := n1_; have HO666 := n2_; have HO668 := n3_; have HB := n4_; clear n0_ n1_ n2_ n3_ n4_; (try clear hb); (try clear hb2); (try clear hk); (try clear hi)))
      go_meet
      case rel => exact ⟨_, (true), eqs, H', ⟨by first | omega | exact Nat.le_refl _⟩, ⟨by (with_reducible repeat (first | apply Kd.R_alloc | apply Kd.R_drewN | apply Kd.R_drew)); exact Kd.R_mono HO658.out (fun _ hk => trivial)⟩, ⟨bw⟩⟩
    ·rw [if_neg c34] at H
     have c34b0 : (t669 == t661) = false := beq_eq_false_iff_ne.mpr c34
     have c34b1 : (t669 != t661) = true := bne_iff_ne.mpr c34
     have H' := Aside0.mk H
     clear H
     obtain ⟨Ao59, co59, eo59⟩ := Kd.R_slice HO666.out
     subst eo59
     go_wp2_with (first | (go_at_call 24; (with_reducible refine (lots_Total.calls k _ _ t662 t669 _ ?side1 ?side2 A33.out).mono ?_); (case side1 => repeat (first | exact (Kd.R_reads' HO666.out).2.2 | (with_reducible refine Kd.C_alloc ?_ _) | (with_reducible refine Kd.C_drewN ?_ _) | (with_reducible refine Kd.C_drew ?_))); (case side2 => exact (Kd.R_reads' HO666.out).2.1); rintro e w60 ⟨rfl, hb⟩; have n0_ := Aside0.mk (Kd.R_below (kr HO655.out) hb); have n1_ := Aside0.mk (Kd.R_below (kr HO658.out) hb); have n2_ := Aside0.mk (Kd.R_below (kr HO666.out) hb); have n3_ := Aside0.mk (Kd.R_below (kr HO668.out) hb); have n4_ := Aside0.mk (below_step (bw) hb); clear HO655; clear HO658; clear HO666; clear HO668; clear HB; have HO655 := n0_; have HO658 := n1_; have HO666 := n2_; have HO668 := n3_; have HB := n4_; clear n0_ n1_ n2_ n3_ n4_; (try clear hb); (try clear hb2); (try clear hk); (try clear hi)))
     go_meet
     case rel => exact ⟨_, (true), eqs, H', ⟨by first | omega | exact Nat.le_refl _⟩, ⟨by (with_reducible repeat (first | apply Kd.R_alloc | apply Kd.R_drewN | apply Kd.R_drew)); exact Kd.R_mono HO658.out (fun _ hk => trivial)⟩, ⟨bw⟩⟩
   ·rw [if_neg c32] at H
    have c32b0 : (t664 == 0) = false := beq_eq_false_iff_ne.mpr c32
    have c32b1 : (t664 != 0) = true := bne_iff_ne.mpr c32
    (first | rw [c32b0] | (simp only [i64_w, i32_w]; rw [c32b0]) | skip)
    have H' := Aside0.mk H
    clear H
    go_wp2
    go_meet
    case rel => exact ⟨_, (true), eqs, H', ⟨by first | omega | exact Nat.le_refl _⟩, ⟨by (with_reducible repeat (first | apply Kd.R_alloc | apply Kd.R_drewN | apply Kd.R_drew)); exact Kd.R_mono HO658.out (fun _ hk => trivial)⟩, ⟨bw⟩⟩
  case rest =>
   clear HC25
   try clear c8
   try clear c8b0
   try clear c8b1
   try clear c9
   try clear c9b0
   try clear c9b1
   try clear c9b2
   try clear c32
   try clear c32b0
   try clear c32b1
   try clear c34
   try clear c34b0
   try clear c34b1
   try clear c36
   try clear c36b0
   try clear c36b1
   try clear c38
   try clear c38b0
   try clear c38b1
   try clear c38b2
   obtain ⟨kq, x83_24, rfl, HA, HJ24, HO_9, HB⟩ := hcut
   cases kq with
   | zero => exact absurd HA.out (by simp [worldmintlaw14_LotsParts.j0])
   | succ kj24 =>
    have H := HA.out
    clear HA
    simp only [worldmintlaw14_LotsParts.j0] at H
    by_cases c61 : x83_24 = true
    ·subst c61
     have H1 : (some false) = some r := by rw [if_pos rfl] at H; exact H
     clear H
     have H := H1
     clear H1
     obtain rfl := Option.some.inj H
     go_wp2
     go_ret
     exact ⟨by first | rfl | (simp [errW_none, errW_some] <;> rfl) | (simp only [← hji22]; first | rfl | (simp [errW_none, errW_some] <;> rfl)) | (simp [*, errW_none, errW_some] <;> rfl), bw⟩
    ·replace c61 := Bool.eq_false_iff.mpr c61
     subst c61
     have H1 : ((worldmintref03_Around.f a2 (wrap64 (t661 + 1))).bind fun t678 => ((lots_Take.f kj24 t656 t678 false).bind fun bt679 => ((lots_Take.f kj24 bt679.2.1 (wrap64 (t661 - t678)) false).bind fun bt686 => ((lots_Take.f kj24 t656 t661 false).bind fun bt693 => (if bt679.2.2 = 0 then (if bt686.2.2 = 0 then (worldmintlaw14_LotsParts.j1 kj24 bt679.1 bt686.1 bt686.2.1 bt693.1 bt693.2.1 (bt693.2.2 != 0)) else (worldmintlaw14_LotsParts.j1 kj24 bt679.1 bt686.1 bt686.2.1 bt693.1 bt693.2.1 true)) else (worldmintlaw14_LotsParts.j1 kj24 bt679.1 bt686.1 bt686.2.1 bt693.1 bt693.2.1 true)))))) = some r := by rw [if_neg (show ¬ (false = true) by decide)] at H; exact H
     clear H
     have H := H1
     clear H1
     replace H := Option.bind_eq_some_iff.mp H
     obtain ⟨t678, A620, H⟩ := H
     replace H : ((lots_Take.f kj24 t656 t678 false).bind fun bt679 => ((lots_Take.f kj24 bt679.2.1 (wrap64 (t661 - t678)) false).bind fun bt686 => ((lots_Take.f kj24 t656 t661 false).bind fun bt693 => (if bt679.2.2 = 0 then (if bt686.2.2 = 0 then (worldmintlaw14_LotsParts.j1 kj24 bt679.1 bt686.1 bt686.2.1 bt693.1 bt693.2.1 (bt693.2.2 != 0)) else (worldmintlaw14_LotsParts.j1 kj24 bt679.1 bt686.1 bt686.2.1 bt693.1 bt693.2.1 true)) else (worldmintlaw14_LotsParts.j1 kj24 bt679.1 bt686.1 bt686.2.1 bt693.1 bt693.2.1 true))))) = some r := H
     have A62 := Aside0.mk A620
     clear A620
     replace H := Option.bind_eq_some_iff.mp H
     obtain ⟨⟨t679, t680, t681⟩, A630, H⟩ := H
     replace H : ((lots_Take.f kj24 t680 (wrap64 (t661 - t678)) false).bind fun bt686 => ((lots_Take.f kj24 t656 t661 false).bind fun bt693 => (if t681 = 0 then (if bt686.2.2 = 0 then (worldmintlaw14_LotsParts.j1 kj24 t679 bt686.1 bt686.2.1 bt693.1 bt693.2.1 (bt693.2.2 != 0)) else (worldmintlaw14_LotsParts.j1 kj24 t679 bt686.1 bt686.2.1 bt693.1 bt693.2.1 true)) else (worldmintlaw14_LotsParts.j1 kj24 t679 bt686.1 bt686.2.1 bt693.1 bt693.2.1 true)))) = some r := H
     have A63 := Aside0.mk A630
     clear A630
     replace H := Option.bind_eq_some_iff.mp H
     obtain ⟨⟨t686, t687, t688⟩, A640, H⟩ := H
     replace H : ((lots_Take.f kj24 t656 t661 false).bind fun bt693 => (if t681 = 0 then (if t688 = 0 then (worldmintlaw14_LotsParts.j1 kj24 t679 t686 t687 bt693.1 bt693.2.1 (bt693.2.2 != 0)) else (worldmintlaw14_LotsParts.j1 kj24 t679 t686 t687 bt693.1 bt693.2.1 true)) else (worldmintlaw14_LotsParts.j1 kj24 t679 t686 t687 bt693.1 bt693.2.1 true))) = some r := H
     have A64 := Aside0.mk A640
     clear A640
     replace H := Option.bind_eq_some_iff.mp H
     obtain ⟨⟨t693, t694, t695⟩, A650, H⟩ := H
     replace H : (if t681 = 0 then (if t688 = 0 then (worldmintlaw14_LotsParts.j1 kj24 t679 t686 t687 t693 t694 (t695 != 0)) else (worldmintlaw14_LotsParts.j1 kj24 t679 t686 t687 t693 t694 true)) else (worldmintlaw14_LotsParts.j1 kj24 t679 t686 t687 t693 t694 true)) = some r := H
     have A65 := Aside0.mk A650
     clear A650
     have HC66 := Aside0.mk H
     clear H
     go_upto_region 13 with (first | ((with_reducible refine gate_callee (f := 14) rfl ?_); refine goesL_ (some 87) rfl rfl Try.func14 (by kernel_rfl) rfl #[.int .i64 a2, .int .i64 (wrap64 (t661 + 1))] rfl (by (try simp only [List.map_toArray, List.map_cons, List.map_nil]); first | done | rfl | (simp only [List.length_drop, List.length_take]; rfl)) ?_; (with_reducible refine (worldmintref03_Around.calls a2 (wrap64 (t661 + 1)) t678 _ A62.out).mono ?_); rintro e w' ⟨rfl, ⟨nd, rfl⟩⟩; refine ⟨_, rfl, ?_⟩) | ((with_reducible refine gate_callee (f := 16) rfl ?_); refine goesL_ (some 91) rfl rfl Try.func16 (by kernel_rfl) rfl #[.slice Ao29 t656.length co29, .int .i64 t678, .bool false] rfl (by (try simp only [List.map_toArray, List.map_cons, List.map_nil]); first | done | rfl | (simp only [List.length_drop, List.length_take]; rfl)) ?_; (with_reducible refine (lots_Take.calls kj24 _ _ t656 t678 false t679 t680 t681 _ ?side1 ?side2 A63.out).mono ?_); (case side1 => repeat (first | exact (Kd.R_reads' HO_9.out).2.2 | (with_reducible refine Kd.C_alloc ?_ _) | (with_reducible refine Kd.C_drewN ?_ _) | (with_reducible refine Kd.C_drew ?_))); (case side2 => exact (Kd.R_reads' HO_9.out).2.1); rintro e w67 ⟨v682, v684, rfl, ho0, ho1, hb⟩; refine ⟨_, rfl, ?_⟩; have n0_ := Aside0.mk (Kd.R_mono (Kd.R_told (Kd.R_told (Kd.R_old (kr HO_9.out) hb) (Kd.R_base ho0)) (Kd.R_base ho1)) (fun _ h_ => h_.1)); have n1_ := Aside0.mk (Kd.R_lower (Kd.R_new' ho0 (Kd.R_lt (kr HO_9.out))) (below_size (bw))); have n2_ := Aside0.mk (Kd.R_lower (Kd.R_new' ho1 (Kd.R_lt (kr HO_9.out))) (below_size (bw))); have n3_ := Aside0.mk (below_step (bw) hb); clear HO_9; clear HB; have HO_9 := n0_; have HO683 := n1_; have HO685 := n2_; have HB := n3_; clear n0_ n1_ n2_ n3_; (try clear hb); (try clear hb2); (try clear hk); (try clear hi); (try clear ho0); (try clear ho1); obtain ⟨Ao68, co68, eo68⟩ := Kd.R_slice HO685.out; subst eo68) | ((with_reducible refine gate_callee (f := 16) rfl ?_); refine goesL_ (some 100) rfl rfl Try.func16 (by kernel_rfl) rfl #[.slice Ao68 t680.length co68, .int .i64 (wrap64 (t661 - t678)), .bool false] rfl (by (try simp only [List.map_toArray, List.map_cons, List.map_nil]); first | done | rfl | (simp only [List.length_drop, List.length_take]; rfl)) ?_; (with_reducible refine (lots_Take.calls kj24 _ _ t680 (wrap64 (t661 - t678)) false t686 t687 t688 _ ?side1 ?side2 A64.out).mono ?_); (case side1 => repeat (first | exact (Kd.R_reads' HO685.out).2.2 | (with_reducible refine Kd.C_alloc ?_ _) | (with_reducible refine Kd.C_drewN ?_ _) | (with_reducible refine Kd.C_drew ?_))); (case side2 => exact (Kd.R_reads' HO685.out).2.1); rintro e w69 ⟨v689, v691, rfl, ho0, ho1, hb⟩; refine ⟨_, rfl, ?_⟩; have n0_ := Aside0.mk (Kd.R_mono (Kd.R_told (Kd.R_told (Kd.R_old (kr HO_9.out) hb) (Kd.R_base ho0)) (Kd.R_base ho1)) (fun _ h_ => h_.1)); have n1_ := Aside0.mk (Kd.R_mono (Kd.R_told (Kd.R_told (Kd.R_old (kr HO683.out) hb) (Kd.R_base ho0)) (Kd.R_base ho1)) (fun _ h_ => h_.1)); have n2_ := Aside0.mk (Kd.R_mono (Kd.R_told (Kd.R_told (Kd.R_old (kr HO685.out) hb) (Kd.R_base ho0)) (Kd.R_base ho1)) (fun _ h_ => h_.1)); have n3_ := Aside0.mk (Kd.R_lower (Kd.R_new' (Kd.R_new' (Kd.R_new' ho0 (Kd.R_lt (kr HO_9.out))) (Kd.R_lt (kr HO683.out))) (Kd.R_lt (kr HO685.out))) (below_size (bw))); have n4_ := Aside0.mk (Kd.R_lower (Kd.R_new' (Kd.R_new' (Kd.R_new' ho1 (Kd.R_lt (kr HO_9.out))) (Kd.R_lt (kr HO683.out))) (Kd.R_lt (kr HO685.out))) (below_size (bw))); have n5_ := Aside0.mk (below_step (bw) hb); clear HO_9; clear HO683; clear HO685; clear HB; have HO_9 := n0_; have HO683 := n1_; have HO685 := n2_; have HO690 := n3_; have HO692 := n4_; have HB := n5_; clear n0_ n1_ n2_ n3_ n4_ n5_; (try clear hb); (try clear hb2); (try clear hk); (try clear hi); (try clear ho0); (try clear ho1)) | ((with_reducible refine gate_callee (f := 16) rfl ?_); refine goesL_ (some 107) rfl rfl Try.func16 (by kernel_rfl) rfl #[.slice Ao29 t656.length co29, .int .i64 t661, .bool false] rfl (by (try simp only [List.map_toArray, List.map_cons, List.map_nil]); first | done | rfl | (simp only [List.length_drop, List.length_take]; rfl)) ?_; (with_reducible refine (lots_Take.calls kj24 _ _ t656 t661 false t693 t694 t695 _ ?side1 ?side2 A65.out).mono ?_); (case side1 => repeat (first | exact (Kd.R_reads' HO_9.out).2.2 | (with_reducible refine Kd.C_alloc ?_ _) | (with_reducible refine Kd.C_drewN ?_ _) | (with_reducible refine Kd.C_drew ?_))); (case side2 => exact (Kd.R_reads' HO_9.out).2.1); rintro e w70 ⟨v696, v698, rfl, ho0, ho1, hb⟩; refine ⟨_, rfl, ?_⟩; have n0_ := Aside0.mk (Kd.R_mono (Kd.R_told (Kd.R_told (Kd.R_old (kr HO_9.out) hb) (Kd.R_base ho0)) (Kd.R_base ho1)) (fun _ h_ => h_.1)); have n1_ := Aside0.mk (Kd.R_mono (Kd.R_told (Kd.R_told (Kd.R_old (kr HO683.out) hb) (Kd.R_base ho0)) (Kd.R_base ho1)) (fun _ h_ => h_.1)); have n2_ := Aside0.mk (Kd.R_mono (Kd.R_told (Kd.R_told (Kd.R_old (kr HO685.out) hb) (Kd.R_base ho0)) (Kd.R_base ho1)) (fun _ h_ => h_.1)); have n3_ := Aside0.mk (Kd.R_mono (Kd.R_told (Kd.R_told (Kd.R_old (kr HO690.out) hb) (Kd.R_base ho0)) (Kd.R_base ho1)) (fun _ h_ => h_.1)); have n4_ := Aside0.mk (Kd.R_mono (Kd.R_told (Kd.R_told (Kd.R_old (kr HO692.out) hb) (Kd.R_base ho0)) (Kd.R_base ho1)) (fun _ h_ => h_.1)); have n5_ := Aside0.mk (Kd.R_lower (Kd.R_new' (Kd.R_new' (Kd.R_new' (Kd.R_new' (Kd.R_new' ho0 (Kd.R_lt (kr HO_9.out))) (Kd.R_lt (kr HO683.out))) (Kd.R_lt (kr HO685.out))) (Kd.R_lt (kr HO690.out))) (Kd.R_lt (kr HO692.out))) (below_size (bw))); have n6_ := Aside0.mk (Kd.R_lower (Kd.R_new' (Kd.R_new' (Kd.R_new' (Kd.R_new' (Kd.R_new' ho1 (Kd.R_lt (kr HO_9.out))) (Kd.R_lt (kr HO683.out))) (Kd.R_lt (kr HO685.out))) (Kd.R_lt (kr HO690.out))) (Kd.R_lt (kr HO692.out))) (below_size (bw))); have n7_ := Aside0.mk (below_step (bw) hb); clear HO_9; clear HO683; clear HO685; clear HO690; clear HO692; clear HB; have HO_9 := n0_; have HO683 := n1_; have HO685 := n2_; have HO690 := n3_; have HO692 := n4_; have HO697 := n5_; have HO699 := n6_; have HB := n7_; clear n0_ n1_ n2_ n3_ n4_ n5_ n6_ n7_; (try clear hb); (try clear hb2); (try clear hk); (try clear hi); (try clear ho0); (try clear ho1)))
     (try simp only [Act.put, List.setIfInBounds_toArray, List.set_cons_zero, List.set_cons_succ])
     go_cut [120] (fun v120 wc => ∃ (kq : Nat) (x120_65 : Bool), v120 = .bool x120_65 ∧ Aside0 (worldmintlaw14_LotsParts.j1 kq t679 t686 t687 t693 t694 x120_65 = some r) ∧ Aside0 (kq ≤ kj24) ∧ Aside0 (Kd.R k39 39 wc w.heap.size (fun k_ => some k_ ≠ (v689 : Value).ownBlock ∧ some k_ ≠ (v691 : Value).ownBlock ∧ some k_ ≠ (v696 : Value).ownBlock ∧ some k_ ≠ (v698 : Value).ownBlock) v682 t679) ∧ Aside0 (Kd.R k39 39 wc w.heap.size (fun k_ => some k_ ≠ (v682 : Value).ownBlock ∧ some k_ ≠ (v691 : Value).ownBlock ∧ some k_ ≠ (v696 : Value).ownBlock ∧ some k_ ≠ (v698 : Value).ownBlock) v689 t686) ∧ Aside0 (Kd.R k39 39 wc w.heap.size (fun k_ => some k_ ≠ (v682 : Value).ownBlock ∧ some k_ ≠ (v689 : Value).ownBlock ∧ some k_ ≠ (v696 : Value).ownBlock ∧ some k_ ≠ (v698 : Value).ownBlock) v691 t687) ∧ Aside0 (Kd.R k39 39 wc w.heap.size (fun k_ => some k_ ≠ (v682 : Value).ownBlock ∧ some k_ ≠ (v689 : Value).ownBlock ∧ some k_ ≠ (v691 : Value).ownBlock ∧ some k_ ≠ (v698 : Value).ownBlock) v696 t693) ∧ Aside0 (Kd.R k39 39 wc w.heap.size (fun k_ => some k_ ≠ (v682 : Value).ownBlock ∧ some k_ ≠ (v689 : Value).ownBlock ∧ some k_ ≠ (v691 : Value).ownBlock ∧ some k_ ≠ (v696 : Value).ownBlock) v698 t694) ∧ Aside0 (Below w.heap.size w wc))
     case first =>
      have H := HC66.out
      clear HC66
      by_cases c71 : t681 = 0
      ·rw [if_pos c71] at H
       have c71b0 : (t681 == 0) = true := beq_iff_eq.mpr c71
       have c71b1 : (t681 != 0) = false := bne_eq_false_iff_eq.mpr c71
       clear c71
       (first | rw [c71b0] | (simp only [i64_w, i32_w]; rw [c71b0]) | skip)
       by_cases c72 : t688 = 0
       ·rw [if_pos c72] at H
        have c72b0 : (t688 == 0) = true := beq_iff_eq.mpr c72
        have c72b1 : (t688 != 0) = false := bne_eq_false_iff_eq.mpr c72
        clear c72
        have H' := Aside0.mk H
        clear H
        go_wp2
        go_meet
        case rel => exact ⟨_, ((t695 != 0)), eqs, H', ⟨by have := HJ24.out; first | omega | exact Nat.le_refl _⟩, ⟨by (with_reducible repeat (first | apply Kd.R_alloc | apply Kd.R_drewN | apply Kd.R_drew)); exact Kd.R_mono HO683.out (fun _ hk => ⟨hk.1.1.1.2, ⟨hk.1.1.2, ⟨hk.1.2, hk.2⟩⟩⟩)⟩, ⟨by (with_reducible repeat (first | apply Kd.R_alloc | apply Kd.R_drewN | apply Kd.R_drew)); exact Kd.R_mono HO690.out (fun _ hk => ⟨hk.1.1.1.2, ⟨hk.1.1.1.1.1, ⟨hk.1.2, hk.2⟩⟩⟩)⟩, ⟨by (with_reducible repeat (first | apply Kd.R_alloc | apply Kd.R_drewN | apply Kd.R_drew)); exact Kd.R_mono HO692.out (fun _ hk => ⟨hk.1.1.1.2, ⟨hk.1.1.1.1.1, ⟨hk.1.2, hk.2⟩⟩⟩)⟩, ⟨by (with_reducible repeat (first | apply Kd.R_alloc | apply Kd.R_drewN | apply Kd.R_drew)); exact Kd.R_mono HO697.out (fun _ hk => ⟨hk.1.1.1.2, ⟨hk.1.2, ⟨hk.2, hk.1.1.1.1.1⟩⟩⟩)⟩, ⟨by (with_reducible repeat (first | apply Kd.R_alloc | apply Kd.R_drewN | apply Kd.R_drew)); exact Kd.R_mono HO699.out (fun _ hk => ⟨hk.1.1.1.2, ⟨hk.1.2, ⟨hk.2, hk.1.1.1.1.1⟩⟩⟩)⟩, ⟨bw⟩⟩
       ·rw [if_neg c72] at H
        have c72b0 : (t688 == 0) = false := beq_eq_false_iff_ne.mpr c72
        have c72b1 : (t688 != 0) = true := bne_iff_ne.mpr c72
        have H' := Aside0.mk H
        clear H
        go_wp2
        go_meet
        case rel => exact ⟨_, (true), eqs, H', ⟨by have := HJ24.out; first | omega | exact Nat.le_refl _⟩, ⟨by (with_reducible repeat (first | apply Kd.R_alloc | apply Kd.R_drewN | apply Kd.R_drew)); exact Kd.R_mono HO683.out (fun _ hk => ⟨hk.1.1.1.2, ⟨hk.1.1.2, ⟨hk.1.2, hk.2⟩⟩⟩)⟩, ⟨by (with_reducible repeat (first | apply Kd.R_alloc | apply Kd.R_drewN | apply Kd.R_drew)); exact Kd.R_mono HO690.out (fun _ hk => ⟨hk.1.1.1.2, ⟨hk.1.1.1.1.1, ⟨hk.1.2, hk.2⟩⟩⟩)⟩, ⟨by (with_reducible repeat (first | apply Kd.R_alloc | apply Kd.R_drewN | apply Kd.R_drew)); exact Kd.R_mono HO692.out (fun _ hk => ⟨hk.1.1.1.2, ⟨hk.1.1.1.1.1, ⟨hk.1.2, hk.2⟩⟩⟩)⟩, ⟨by (with_reducible repeat (first | apply Kd.R_alloc | apply Kd.R_drewN | apply Kd.R_drew)); exact Kd.R_mono HO697.out (fun _ hk => ⟨hk.1.1.1.2, ⟨hk.1.2, ⟨hk.2, hk.1.1.1.1.1⟩⟩⟩)⟩, ⟨by (with_reducible repeat (first | apply Kd.R_alloc | apply Kd.R_drewN | apply Kd.R_drew)); exact Kd.R_mono HO699.out (fun _ hk => ⟨hk.1.1.1.2, ⟨hk.1.2, ⟨hk.2, hk.1.1.1.1.1⟩⟩⟩)⟩, ⟨bw⟩⟩
      ·rw [if_neg c71] at H
       have c71b0 : (t681 == 0) = false := beq_eq_false_iff_ne.mpr c71
       have c71b1 : (t681 != 0) = true := bne_iff_ne.mpr c71
       (first | rw [c71b0] | (simp only [i64_w, i32_w]; rw [c71b0]) | skip)
       have H' := Aside0.mk H
       clear H
       go_wp2
       go_meet
       case rel => exact ⟨_, (true), eqs, H', ⟨by have := HJ24.out; first | omega | exact Nat.le_refl _⟩, ⟨by (with_reducible repeat (first | apply Kd.R_alloc | apply Kd.R_drewN | apply Kd.R_drew)); exact Kd.R_mono HO683.out (fun _ hk => ⟨hk.1.1.1.2, ⟨hk.1.1.2, ⟨hk.1.2, hk.2⟩⟩⟩)⟩, ⟨by (with_reducible repeat (first | apply Kd.R_alloc | apply Kd.R_drewN | apply Kd.R_drew)); exact Kd.R_mono HO690.out (fun _ hk => ⟨hk.1.1.1.2, ⟨hk.1.1.1.1.1, ⟨hk.1.2, hk.2⟩⟩⟩)⟩, ⟨by (with_reducible repeat (first | apply Kd.R_alloc | apply Kd.R_drewN | apply Kd.R_drew)); exact Kd.R_mono HO692.out (fun _ hk => ⟨hk.1.1.1.2, ⟨hk.1.1.1.1.1, ⟨hk.1.2, hk.2⟩⟩⟩)⟩, ⟨by (with_reducible repeat (first | apply Kd.R_alloc | apply Kd.R_drewN | apply Kd.R_drew)); exact Kd.R_mono HO697.out (fun _ hk => ⟨hk.1.1.1.2, ⟨hk.1.2, ⟨hk.2, hk.1.1.1.1.1⟩⟩⟩)⟩, ⟨by (with_reducible repeat (first | apply Kd.R_alloc | apply Kd.R_drewN | apply Kd.R_drew)); exact Kd.R_mono HO699.out (fun _ hk => ⟨hk.1.1.1.2, ⟨hk.1.2, ⟨hk.2, hk.1.1.1.1.1⟩⟩⟩)⟩, ⟨bw⟩⟩
     case rest =>
      clear HC66
      try clear c8
      try clear c8b0
      try clear c8b1
      try clear c9
      try clear c9b0
      try clear c9b1
      try clear c9b2
      try clear c32
      try clear c32b0
      try clear c32b1
      try clear c34
      try clear c34b0
      try clear c34b1
      try clear c36
      try clear c36b0
      try clear c36b1
      try clear c38
      try clear c38b0
      try clear c38b1
      try clear c38b2
      try clear c61
      try clear c71
      try clear c71b0
      try clear c71b1
      try clear c72
      try clear c72b0
      try clear c72b1
      obtain ⟨kq, x120_65, rfl, HA, HJ65, HO_16, HO_19, HO_20, HO_22, HO_23, HB⟩ := hcut
      cases kq with
      | zero => exact absurd HA.out (by simp [worldmintlaw14_LotsParts.j1])
      | succ kj65 =>
       have H := HA.out
       clear HA
       simp only [worldmintlaw14_LotsParts.j1] at H
       by_cases c73 : x120_65 = true
       ·subst c73
        have H1 : (some false) = some r := by rw [if_pos rfl] at H; exact H
        clear H
        have H := H1
        clear H1
        obtain rfl := Option.some.inj H
        go_wp2
        go_ret
        exact ⟨by first | rfl | (simp [errW_none, errW_some] <;> rfl) | (simp only [← hji22]; first | rfl | (simp [errW_none, errW_some] <;> rfl)) | (simp [*, errW_none, errW_some] <;> rfl), bw⟩
       ·replace c73 := Bool.eq_false_iff.mpr c73
        subst c73
        have H1 : (worldmintlaw14_LotsParts.l0 kj65 t686 t687 t693 t694 t679 0) = some r := by rw [if_neg (show ¬ (false = true) by decide)] at H; exact H
        clear H
        have H := H1
        clear H1
        have H' := Aside0.mk H
        clear H
        go_wp2
        go_loopg [25, 26] kj65 (fun kq v25 v26 w' => ∃ (x25_3 : List (S39)) (x26_3 : Int), v26 = .int .i64 x26_3 ∧ Aside0 (worldmintlaw14_LotsParts.l0 kq t686 t687 t693 t694 x25_3 x26_3 = some r) ∧ Aside0 (kq ≤ kj65) ∧ Aside0 (Kd.R k39 39 w' w.heap.size (fun k_ => some k_ ≠ (v691 : Value).ownBlock ∧ some k_ ≠ (v696 : Value).ownBlock ∧ some k_ ≠ (v698 : Value).ownBlock ∧ some k_ ≠ (v25 : Value).ownBlock) v689 t686) ∧ Aside0 (Kd.R k39 39 w' w.heap.size (fun k_ => some k_ ≠ (v689 : Value).ownBlock ∧ some k_ ≠ (v696 : Value).ownBlock ∧ some k_ ≠ (v698 : Value).ownBlock ∧ some k_ ≠ (v25 : Value).ownBlock) v691 t687) ∧ Aside0 (Kd.R k39 39 w' w.heap.size (fun k_ => some k_ ≠ (v689 : Value).ownBlock ∧ some k_ ≠ (v691 : Value).ownBlock ∧ some k_ ≠ (v698 : Value).ownBlock ∧ some k_ ≠ (v25 : Value).ownBlock) v696 t693) ∧ Aside0 (Kd.R k39 39 w' w.heap.size (fun k_ => some k_ ≠ (v689 : Value).ownBlock ∧ some k_ ≠ (v691 : Value).ownBlock ∧ some k_ ≠ (v696 : Value).ownBlock ∧ some k_ ≠ (v25 : Value).ownBlock) v698 t694) ∧ Aside0 (Kd.R k39 39 w' w.heap.size (fun k_ => some k_ ≠ (v689 : Value).ownBlock ∧ some k_ ≠ (v691 : Value).ownBlock ∧ some k_ ≠ (v696 : Value).ownBlock ∧ some k_ ≠ (v698 : Value).ownBlock) v25 x25_3) ∧ Aside0 (Below w.heap.size w w'))
        case atStart => exact ⟨(t679), (0), eqs, H', ⟨Nat.le_refl _⟩, ⟨by (with_reducible repeat (first | apply Kd.R_alloc | apply Kd.R_drewN | apply Kd.R_drew)); exact Kd.R_mono HO_19.out (fun _ hk => ⟨hk.2.1, ⟨hk.2.2.1, ⟨hk.2.2.2, hk.1⟩⟩⟩)⟩, ⟨by (with_reducible repeat (first | apply Kd.R_alloc | apply Kd.R_drewN | apply Kd.R_drew)); exact Kd.R_mono HO_20.out (fun _ hk => ⟨hk.2.1, ⟨hk.2.2.1, ⟨hk.2.2.2, hk.1⟩⟩⟩)⟩, ⟨by (with_reducible repeat (first | apply Kd.R_alloc | apply Kd.R_drewN | apply Kd.R_drew)); exact Kd.R_mono HO_22.out (fun _ hk => ⟨hk.2.1, ⟨hk.2.2.1, ⟨hk.2.2.2, hk.1⟩⟩⟩)⟩, ⟨by (with_reducible repeat (first | apply Kd.R_alloc | apply Kd.R_drewN | apply Kd.R_drew)); exact Kd.R_mono HO_23.out (fun _ hk => ⟨hk.2.1, ⟨hk.2.2.1, ⟨hk.2.2.2, hk.1⟩⟩⟩)⟩, ⟨kr HO_16.out⟩, ⟨bw⟩⟩
        case round =>
         clear H'
         try clear c8
         try clear c8b0
         try clear c8b1
         try clear c9
         try clear c9b0
         try clear c9b1
         try clear c9b2
         try clear c32
         try clear c32b0
         try clear c32b1
         try clear c34
         try clear c34b0
         try clear c34b1
         try clear c36
         try clear c36b0
         try clear c36b1
         try clear c38
         try clear c38b0
         try clear c38b1
         try clear c38b2
         try clear c61
         try clear c71
         try clear c71b0
         try clear c71b1
         try clear c72
         try clear c72b0
         try clear c72b1
         try clear c73
         obtain ⟨x25_3, x26_3, rfl, HA, HK3, HO_19, HO_20, HO_22, HO_23, HO_25, HB⟩ := hrel
         cases gk with
         | zero => exact absurd HA.out (by simp [worldmintlaw14_LotsParts.l0])
         | succ k3 =>
          have H := HA.out
          clear HA
          simp only [worldmintlaw14_LotsParts.l0] at H
          by_cases c74 : x26_3 < (t686.length : Int)
          ·rw [if_pos c74] at H
           have c74b0 : decide (x26_3 < (t686.length : Int)) = true := decide_eq_true c74
           clear c74
           by_cases c75 : 0 ≤ x26_3
           ·rw [if_pos c75] at H
            have c75b0 : decide (0 ≤ x26_3) = true := decide_eq_true c75
            clear c75
            replace H := Option.bind_eq_some_iff.mp H
            obtain ⟨t701, A760, H⟩ := H
            replace H : (worldmintlaw14_LotsParts.l0 k3 t686 t687 t693 t694 t701 (wrap64 (x26_3 + 1))) = some r := H
            have A76 := Aside0.mk A760
            clear A760
            have H' := Aside0.mk H
            clear H
            obtain ⟨Ao77, co77, eo77⟩ := Kd.R_slice HO_19.out
            subst eo77
            have p700 : 0 ≤ (x26_3 : Int) := oda
            have q700 : x26_3 < (t686.length : Int) := oda
            obtain ⟨ad700, e700, hx700_0, hx700_1, hx700_2⟩ := at_T39 (Kd.R_reads' HO_19.out).2.2 x26_3 p700 q700
            cases e700
            replace p700 := eq_true p700
            replace q700 := eq_true q700
            obtain ⟨Ao78, co78, eo78⟩ := Kd.R_slice HO_25.out
            subst eo78
            go_wp2_with (first | ((with_reducible refine gate_callee (f := 25) rfl ?_); refine goesL_ (some 133) rfl rfl Try.func25 (by kernel_rfl) rfl #[.slice Ao78 x25_3.length co78, .agg #[.int .i64 ((rd_T39 t686 x26_3).f0), .int .i64 ((rd_T39 t686 x26_3).f1), .int .i64 ((rd_T39 t686 x26_3).f2)]] rfl (by (try simp only [List.map_toArray, List.map_cons, List.map_nil]); first | done | rfl | (simp only [List.length_drop, List.length_take]; rfl)) ?_; (with_reducible refine (lots_Put.calls k3 _ _ x25_3 ((rd_T39 t686 x26_3).f0) ((rd_T39 t686 x26_3).f1) ((rd_T39 t686 x26_3).f2) t701 _ ?side1 ?side2 A76.out).mono ?_); (case side1 => repeat (first | exact (Kd.R_reads' HO_25.out).2.2 | (with_reducible refine Kd.C_alloc ?_ _) | (with_reducible refine Kd.C_drewN ?_ _) | (with_reducible refine Kd.C_drew ?_))); (case side2 => exact (Kd.R_reads' HO_25.out).2.1); rintro e w79 ⟨v702, rfl, ho0, hb⟩; refine ⟨_, rfl, ?_⟩; have n0_ := Aside0.mk (Kd.R_elder' (kr HO_19.out) (Kd.R_base ho0) hb); have n1_ := Aside0.mk (Kd.R_elder' (kr HO_20.out) (Kd.R_base ho0) hb); have n2_ := Aside0.mk (Kd.R_elder' (kr HO_22.out) (Kd.R_base ho0) hb); have n3_ := Aside0.mk (Kd.R_elder' (kr HO_23.out) (Kd.R_base ho0) hb); have n4_ := Aside0.mk (Kd.R_elder' (kr HO_25.out) (Kd.R_base ho0) hb); have n5_ := Aside0.mk (Kd.R_lower (Kd.R_new' (Kd.R_new' (Kd.R_new' (Kd.R_new' (Kd.R_new' ho0 (Kd.R_lt (kr HO_19.out))) (Kd.R_lt (kr HO_20.out))) (Kd.R_lt (kr HO_22.out))) (Kd.R_lt (kr HO_23.out))) (Kd.R_lt (kr HO_25.out))) (below_size (bw))); have n6_ := Aside0.mk (below_step (bw) hb); clear HO_19; clear HO_20; clear HO_22; clear HO_23; clear HO_25; clear HB; have HO_19 := n0_; have HO_20 := n1_; have HO_22 := n2_; have HO_23 := n3_; have HO_25 := n4_; have HO703 := n5_; have HB := n6_; clear n0_ n1_ n2_ n3_ n4_ n5_ n6_; (try clear hb); (try clear hb2); (try clear hk); (try clear hi); (try clear ho0)))
            go_roundg k3
            case measure => have := HJ24.out; have := HJ65.out; have := HK3.out; omega
            case rel => exact ⟨(t701), (wrap64 (x26_3 + 1)), eqs, H', ⟨by have := HJ24.out; have := HJ65.out; have := HK3.out; omega⟩, ⟨by (with_reducible repeat (first | apply Kd.R_alloc | apply Kd.R_drewN | apply Kd.R_drew)); exact Kd.R_mono HO_19.out (fun _ hk => ⟨hk.1.1, ⟨hk.1.2.1, ⟨hk.1.2.2.1, hk.2⟩⟩⟩)⟩, ⟨by (with_reducible repeat (first | apply Kd.R_alloc | apply Kd.R_drewN | apply Kd.R_drew)); exact Kd.R_mono HO_20.out (fun _ hk => ⟨hk.1.1, ⟨hk.1.2.1, ⟨hk.1.2.2.1, hk.2⟩⟩⟩)⟩, ⟨by (with_reducible repeat (first | apply Kd.R_alloc | apply Kd.R_drewN | apply Kd.R_drew)); exact Kd.R_mono HO_22.out (fun _ hk => ⟨hk.1.1, ⟨hk.1.2.1, ⟨hk.1.2.2.1, hk.2⟩⟩⟩)⟩, ⟨by (with_reducible repeat (first | apply Kd.R_alloc | apply Kd.R_drewN | apply Kd.R_drew)); exact Kd.R_mono HO_23.out (fun _ hk => ⟨hk.1.1, ⟨hk.1.2.1, ⟨hk.1.2.2.1, hk.2⟩⟩⟩)⟩, ⟨by (with_reducible repeat (first | apply Kd.R_alloc | apply Kd.R_drewN | apply Kd.R_drew)); exact Kd.R_mono HO703.out (fun _ hk => ⟨hk.1.1.1.1.2, ⟨hk.1.1.1.2, ⟨hk.1.1.2, hk.1.2⟩⟩⟩)⟩, ⟨bw⟩⟩
           ·rw [if_neg c75] at H
            exact absurd H (by simp)
          ·rw [if_neg c74] at H
           have c74b0 : decide (x26_3 < (t686.length : Int)) = false := decide_eq_false c74
           clear c74
           replace H := Option.bind_eq_some_iff.mp H
           obtain ⟨t704, A800, H⟩ := H
           replace H : (if t704 = true then ((worldmintref14_Same.f k3 t687 t694).bind fun t705 => (if t705 = true then ((worldmintlaw14_lives.f k3).bind fun t706 => (some t706)) else (some false))) else (some false)) = some r := H
           have A80 := Aside0.mk A800
           clear A800
           by_cases c81 : t704 = true
           ·subst c81
            have H1 : ((worldmintref14_Same.f k3 t687 t694).bind fun t705 => (if t705 = true then ((worldmintlaw14_lives.f k3).bind fun t706 => (some t706)) else (some false))) = some r := by rw [if_pos rfl] at H; exact H
            clear H
            have H := H1
            clear H1
            replace H := Option.bind_eq_some_iff.mp H
            obtain ⟨t705, A820, H⟩ := H
            replace H : (if t705 = true then ((worldmintlaw14_lives.f k3).bind fun t706 => (some t706)) else (some false)) = some r := H
            have A82 := Aside0.mk A820
            clear A820
            by_cases c83 : t705 = true
            ·subst c83
             have H1 : ((worldmintlaw14_lives.f k3).bind fun t706 => (some t706)) = some r := by rw [if_pos rfl] at H; exact H
             clear H
             have H := H1
             clear H1
             replace H := Option.bind_eq_some_iff.mp H
             obtain ⟨t706, A840, H⟩ := H
             replace H : (some t706) = some r := H
             have A84 := Aside0.mk A840
             clear A840
             obtain rfl := Option.some.inj H
             obtain ⟨Ao85, co85, eo85⟩ := Kd.R_slice HO_19.out
             subst eo85
             obtain ⟨Ao86, co86, eo86⟩ := Kd.R_slice HO_25.out
             subst eo86
             obtain ⟨Ao87, co87, eo87⟩ := Kd.R_slice HO_22.out
             subst eo87
             go_wp2_with (first | ((with_reducible refine gate_callee (f := 18) rfl ?_); refine goesL_ (some 136) rfl rfl Try.func18 (by kernel_rfl) rfl #[.slice Ao86 x25_3.length co86, .slice Ao87 t693.length co87] rfl (by (try simp only [List.map_toArray, List.map_cons, List.map_nil]); first | done | rfl | (simp only [List.length_drop, List.length_take]; rfl)) ?_; (with_reducible refine (worldmintref14_Same.calls k3 _ _ x25_3 _ _ t693 true _ ?side1 ?side2 ?side3 ?side4 A80.out).mono ?_); (case side1 => repeat (first | exact (Kd.R_reads' HO_25.out).2.2 | (with_reducible refine Kd.C_alloc ?_ _) | (with_reducible refine Kd.C_drewN ?_ _) | (with_reducible refine Kd.C_drew ?_))); (case side2 => exact (Kd.R_reads' HO_25.out).2.1); (case side3 => repeat (first | exact (Kd.R_reads' HO_22.out).2.2 | (with_reducible refine Kd.C_alloc ?_ _) | (with_reducible refine Kd.C_drewN ?_ _) | (with_reducible refine Kd.C_drew ?_))); (case side4 => exact (Kd.R_reads' HO_22.out).2.1); rintro e w' ⟨rfl, ⟨nd, rfl⟩⟩; refine ⟨_, rfl, ?_⟩; obtain ⟨Ao88, co88, eo88⟩ := Kd.R_slice HO_20.out; subst eo88; obtain ⟨Ao89, co89, eo89⟩ := Kd.R_slice HO_23.out; subst eo89) | (go_at_call 18; (with_reducible refine (worldmintref14_Same.calls k3 _ _ t687 _ _ t694 true _ ?side1 ?side2 ?side3 ?side4 A82.out).mono ?_); (case side1 => repeat (first | exact (Kd.R_reads' HO_20.out).2.2 | (with_reducible refine Kd.C_alloc ?_ _) | (with_reducible refine Kd.C_drewN ?_ _) | (with_reducible refine Kd.C_drew ?_))); (case side2 => exact (Kd.R_reads' HO_20.out).2.1); (case side3 => repeat (first | exact (Kd.R_reads' HO_23.out).2.2 | (with_reducible refine Kd.C_alloc ?_ _) | (with_reducible refine Kd.C_drewN ?_ _) | (with_reducible refine Kd.C_drew ?_))); (case side4 => exact (Kd.R_reads' HO_23.out).2.1); rintro e w' ⟨rfl, ⟨nd, rfl⟩⟩) | (go_at_call 19; (with_reducible refine (worldmintlaw14_lives.calls k3  t706 _ A84.out).mono ?_); rintro e w90 ⟨rfl, hb⟩; have n0_ := Aside0.mk (Kd.R_below (kr HO_19.out) hb); have n1_ := Aside0.mk (Kd.R_below (kr HO_20.out) hb); have n2_ := Aside0.mk (Kd.R_below (kr HO_22.out) hb); have n3_ := Aside0.mk (Kd.R_below (kr HO_23.out) hb); have n4_ := Aside0.mk (Kd.R_below (kr HO_25.out) hb); have n5_ := Aside0.mk (below_step (bw) hb); clear HO_19; clear HO_20; clear HO_22; clear HO_23; clear HO_25; clear HB; have HO_19 := n0_; have HO_20 := n1_; have HO_22 := n2_; have HO_23 := n3_; have HO_25 := n4_; have HB := n5_; clear n0_ n1_ n2_ n3_ n4_ n5_; (try clear hb); (try clear hb2); (try clear hk); (try clear hi)))
             go_ret
             exact ⟨by first | rfl | (simp [errW_none, errW_some] <;> rfl) | (simp only [← hji22]; first | rfl | (simp [errW_none, errW_some] <;> rfl)) | (simp [*, errW_none, errW_some] <;> rfl), bw⟩
            ·replace c83 := Bool.eq_false_iff.mpr c83
             subst c83
             have H1 : (some false) = some r := by rw [if_neg (show ¬ (false = true) by decide)] at H; exact H
             clear H
             have H := H1
             clear H1
             obtain rfl := Option.some.inj H
             obtain ⟨Ao91, co91, eo91⟩ := Kd.R_slice HO_19.out
             subst eo91
             obtain ⟨Ao92, co92, eo92⟩ := Kd.R_slice HO_25.out
             subst eo92
             obtain ⟨Ao93, co93, eo93⟩ := Kd.R_slice HO_22.out
             subst eo93
             go_wp2_with (first | ((with_reducible refine gate_callee (f := 18) rfl ?_); refine goesL_ (some 136) rfl rfl Try.func18 (by kernel_rfl) rfl #[.slice Ao92 x25_3.length co92, .slice Ao93 t693.length co93] rfl (by (try simp only [List.map_toArray, List.map_cons, List.map_nil]); first | done | rfl | (simp only [List.length_drop, List.length_take]; rfl)) ?_; (with_reducible refine (worldmintref14_Same.calls k3 _ _ x25_3 _ _ t693 true _ ?side1 ?side2 ?side3 ?side4 A80.out).mono ?_); (case side1 => repeat (first | exact (Kd.R_reads' HO_25.out).2.2 | (with_reducible refine Kd.C_alloc ?_ _) | (with_reducible refine Kd.C_drewN ?_ _) | (with_reducible refine Kd.C_drew ?_))); (case side2 => exact (Kd.R_reads' HO_25.out).2.1); (case side3 => repeat (first | exact (Kd.R_reads' HO_22.out).2.2 | (with_reducible refine Kd.C_alloc ?_ _) | (with_reducible refine Kd.C_drewN ?_ _) | (with_reducible refine Kd.C_drew ?_))); (case side4 => exact (Kd.R_reads' HO_22.out).2.1); rintro e w' ⟨rfl, ⟨nd, rfl⟩⟩; refine ⟨_, rfl, ?_⟩; obtain ⟨Ao94, co94, eo94⟩ := Kd.R_slice HO_20.out; subst eo94; obtain ⟨Ao95, co95, eo95⟩ := Kd.R_slice HO_23.out; subst eo95) | (go_at_call 18; (with_reducible refine (worldmintref14_Same.calls k3 _ _ t687 _ _ t694 false _ ?side1 ?side2 ?side3 ?side4 A82.out).mono ?_); (case side1 => repeat (first | exact (Kd.R_reads' HO_20.out).2.2 | (with_reducible refine Kd.C_alloc ?_ _) | (with_reducible refine Kd.C_drewN ?_ _) | (with_reducible refine Kd.C_drew ?_))); (case side2 => exact (Kd.R_reads' HO_20.out).2.1); (case side3 => repeat (first | exact (Kd.R_reads' HO_23.out).2.2 | (with_reducible refine Kd.C_alloc ?_ _) | (with_reducible refine Kd.C_drewN ?_ _) | (with_reducible refine Kd.C_drew ?_))); (case side4 => exact (Kd.R_reads' HO_23.out).2.1); rintro e w' ⟨rfl, ⟨nd, rfl⟩⟩))
             go_ret
             exact ⟨by first | rfl | (simp [errW_none, errW_some] <;> rfl) | (simp only [← hji22]; first | rfl | (simp [errW_none, errW_some] <;> rfl)) | (simp [*, errW_none, errW_some] <;> rfl), bw⟩
           ·replace c81 := Bool.eq_false_iff.mpr c81
            subst c81
            have H1 : (some false) = some r := by rw [if_neg (show ¬ (false = true) by decide)] at H; exact H
            clear H
            have H := H1
            clear H1
            obtain rfl := Option.some.inj H
            obtain ⟨Ao96, co96, eo96⟩ := Kd.R_slice HO_19.out
            subst eo96
            obtain ⟨Ao97, co97, eo97⟩ := Kd.R_slice HO_25.out
            subst eo97
            obtain ⟨Ao98, co98, eo98⟩ := Kd.R_slice HO_22.out
            subst eo98
            go_wp2_with (first | ((with_reducible refine gate_callee (f := 18) rfl ?_); refine goesL_ (some 136) rfl rfl Try.func18 (by kernel_rfl) rfl #[.slice Ao97 x25_3.length co97, .slice Ao98 t693.length co98] rfl (by (try simp only [List.map_toArray, List.map_cons, List.map_nil]); first | done | rfl | (simp only [List.length_drop, List.length_take]; rfl)) ?_; (with_reducible refine (worldmintref14_Same.calls k3 _ _ x25_3 _ _ t693 false _ ?side1 ?side2 ?side3 ?side4 A80.out).mono ?_); (case side1 => repeat (first | exact (Kd.R_reads' HO_25.out).2.2 | (with_reducible refine Kd.C_alloc ?_ _) | (with_reducible refine Kd.C_drewN ?_ _) | (with_reducible refine Kd.C_drew ?_))); (case side2 => exact (Kd.R_reads' HO_25.out).2.1); (case side3 => repeat (first | exact (Kd.R_reads' HO_22.out).2.2 | (with_reducible refine Kd.C_alloc ?_ _) | (with_reducible refine Kd.C_drewN ?_ _) | (with_reducible refine Kd.C_drew ?_))); (case side4 => exact (Kd.R_reads' HO_22.out).2.1); rintro e w' ⟨rfl, ⟨nd, rfl⟩⟩; refine ⟨_, rfl, ?_⟩))
            go_ret
            exact ⟨by first | rfl | (simp [errW_none, errW_some] <;> rfl) | (simp only [← hji22]; first | rfl | (simp [errW_none, errW_some] <;> rfl)) | (simp [*, errW_none, errW_some] <;> rfl), bw⟩
/-- THE ONE PURE STATEMENT of worldmintlaw14_LotsParts: yours. -/
theorem worldmintlaw14_LotsParts.walk (P : worldmintlaw14_LotsParts.Pure) (a0 : Option Addr) (len0 cap0 : Nat) (z0 : List Int) (a1 : Int) (a2 : Int) (a3 : Bool) (w : World) (w0 : (a0 = none ∧ len0 = 0 ∧ cap0 = 0 ∧ z0 = []) ∨ ∃ x, a0 = some x ∧ len0 ≤ cap0 ∧ cap0 ≤ maxLen ∧ z0.length = cap0 ∧ (∀ i, i < z0.length → w.cell? (x.add i) = some (.int .i64 (z0.getD i 0))) ∧ ∀ n ∈ z0, (Lit.int .i64 n).wf = true) (y0 : len0 * 8 ≤ 140737488351232) (w1 : (Lit.int .i64 a1).wf = true) (w2 : (Lit.int .i64 a2).wf = true) :
  Calls Try.prog 8 #[.slice a0 len0 cap0, .int .i64 a1, .int .i64 a2, .bool a3] w fun e w' => e = .returned (.bool true) ∧ Below w.heap.size w w' := by
 obtain ⟨l0, rfl, hr0, hm0, hw0, hc0⟩ := ReadsInt.ofRowC w0
 obtain ⟨k, h⟩ := P l0 a1 a2 a3 hm0 y0 hw0 w1 w2
 refine (worldmintlaw14_LotsParts.calls k _ _ l0 a1 a2 a3 true w (Kd.C_of_reads (d := (0 : Int)) (h1 := fun _ => rfl) hr0) hc0 h).mono ?_
 rintro e w' ⟨rfl, hd⟩
 exact ⟨rfl, hd⟩
end Go.Proofs.Ytcicjbgfahdejaa.P
