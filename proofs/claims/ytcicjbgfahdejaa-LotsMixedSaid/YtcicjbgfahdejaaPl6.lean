-- Written by a program of this session (wip/tools), out of the translation. Not trusted: Lean checks it.
import Derived.Test.YtcicjbgfahdejaaPx1
import Derived.Test.YtcicjbgfahdejaaPD
import Derived.Test.YtcicjbgfahdejaaPc1
import Derived.Test.YtcicjbgfahdejaaPc2
import Derived.Test.YtcicjbgfahdejaaPc5
import Derived.Test.YtcicjbgfahdejaaPm1
import Derived.Test.YtcicjbgfahdejaaPm2
namespace Go.Proofs.Ytcicjbgfahdejaa.P
open Go.RowKit Go.Proofs.YtcicjbgfahdejaaW.PrintWords Go.Proofs.YtcicjbgfahdejaaW.PrintLast Go.Proofs.YtcicjbgfahdejaaW.PrintMore
attribute [local go_sem] max2_int min2_int max_two min_two max_three min_three max_four min_four   -- for this text's walks alone
set_option linter.unusedVariables false
set_option linter.unusedSimpArgs false

/-! ### worldmintlaw14_LotsMixed -/
set_option maxHeartbeats 8000000 in
set_option maxRecDepth 100000 in
theorem worldmintlaw14_LotsMixed.calls (k : Nat) (A0 : Option Addr) (c0 : Nat) (l0 : List Int) (a1 : Int) (r : Bool) (w : World) (hr0 : Kd.C (Kd.int .i64) w A0 l0.length l0) (hc0 : l0.length ≤ c0) (h : worldmintlaw14_LotsMixed.f k l0 a1 = some r) :
  Calls Try.prog 6 #[.slice A0 l0.length c0, .int .i64 a1] w fun e w' => e = .returned (.bool r) ∧ Below w.heap.size w w' := by
 have hu39 := Try.underlying39
 have HR0 := Aside0.mk hr0
 have HC0 := Aside0.mk hc0
 clear hr0 hc0
 have HB := Aside0.mk (Below.refl w.heap.size w)
 have H : ((worldmintref14_Lots.f k l0 0).bind fun t512 => (worldmintlaw14_LotsMixed.l0 k a1 t512 ([] : List (S39)) 0)) = some r := h
 clear h
 replace H := Option.bind_eq_some_iff.mp H
 obtain ⟨t512, A30, H⟩ := H
 replace H : (worldmintlaw14_LotsMixed.l0 k a1 t512 ([] : List (S39)) 0) = some r := H
 have A3 := Aside0.mk A30
 clear A30
 have H' := Aside0.mk H
 clear H
 go_enter Try.func6, Try.ntmps6
 go_wp2_with (first | ((with_reducible refine gate_callee (f := 13) rfl ?_); refine goesL_ (some 21) rfl rfl Try.func13 (by kernel_rfl) rfl #[.slice A0 l0.length c0, .int .i64 0] rfl (by (try simp only [List.map_toArray, List.map_cons, List.map_nil]); first | done | rfl | (simp only [List.length_drop, List.length_take]; rfl)) ?_; (with_reducible refine (worldmintref14_Lots.calls k _ _ l0 0 t512 _ ?side1 ?side2 A3.out).mono ?_); (case side1 => repeat (first | exact HR0.out | (with_reducible refine Kd.C_alloc ?_ _) | (with_reducible refine Kd.C_drewN ?_ _) | (with_reducible refine Kd.C_drew ?_))); (case side2 => exact HC0.out); rintro e w4 ⟨v513, rfl, ho0, hb⟩; refine ⟨_, rfl, ?_⟩; have n0_ := Aside0.mk (Kd.R_lower ho0 (below_size (bw))); have n1_ := Aside0.mk (below_step (bw) hb); clear HB; have HO514 := n0_; have HB := n1_; clear n0_ n1_; (try clear hb); (try clear hb2); (try clear hk); (try clear hi); (try clear ho0)))
 go_loopg [6, 7] k (fun kq v6 v7 w' => ∃ (x6_1 : List (S39)) (x7_1 : Int), v7 = .int .i64 x7_1 ∧ Aside0 (worldmintlaw14_LotsMixed.l0 kq a1 t512 x6_1 x7_1 = some r) ∧ Aside0 (kq ≤ k) ∧ Aside0 (Kd.R k39 39 w' w.heap.size (fun k_ => some k_ ≠ (v6 : Value).ownBlock) v513 t512) ∧ Aside0 (Kd.R k39 39 w' w.heap.size (fun k_ => some k_ ≠ (v513 : Value).ownBlock) v6 x6_1) ∧ Aside0 (Below w.heap.size w w'))
 case atStart => exact ⟨(([] : List (S39))), (0), eqs, H', ⟨Nat.le_refl _⟩, ⟨by (with_reducible repeat (first | apply Kd.R_alloc | apply Kd.R_drewN | apply Kd.R_drew)); exact Kd.R_mono HO514.out (fun _ hk => (by simp [Value.ownBlock]))⟩, ⟨by first | exact Kd.R_nil _ _ _ _ _ | exact Kd.N_nil _ _ _ _ _ | exact Kd.V_nil _ _ _ _ _ | exact Kd.Q_nil _ _ _ _ _ | exact Kd.S_nil _ _ _ _ _⟩, ⟨bw⟩⟩
 case round =>
  clear H'
  obtain ⟨x6_1, x7_1, rfl, HA, HK1, HO_5, HO_6, HB⟩ := hrel
  cases gk with
  | zero => exact absurd HA.out (by simp [worldmintlaw14_LotsMixed.l0])
  | succ k1 =>
   have H := HA.out
   clear HA
   simp only [worldmintlaw14_LotsMixed.l0] at H
   by_cases c5 : x7_1 < (t512.length : Int)
   ·rw [if_pos c5] at H
    have c5b0 : decide (x7_1 < (t512.length : Int)) = true := decide_eq_true c5
    clear c5
    by_cases c6 : 0 ≤ x7_1
    ·rw [if_pos c6] at H
     have c6b0 : decide (0 ≤ x7_1) = true := decide_eq_true c6
     clear c6
     by_cases c7 : x6_1.length < 5864062014805
     ·rw [if_pos c7] at H
      have LMc7 := Aside0.mk c7
      clear c7
      obtain ⟨y517, hy517⟩ : ∃ y_ : List (S39), y_ = (x6_1 ++ [(⟨wrap64 (10 + x7_1), (rd_T39 t512 x7_1).f1, (rd_T39 t512 x7_1).f2⟩ : S39)]) := ⟨_, rfl⟩
      replace H : (worldmintlaw14_LotsMixed.l0 k1 a1 t512 y517 (wrap64 (x7_1 + 1))) = some r := by first | (rw [hy517]; with_reducible exact H) | (have H2_ := (Option.bind_some _ _).symm.trans H; rw [hy517]; with_reducible exact H2_) | (have H2_ := (Option.bind_some _ _).symm.trans H; with_reducible exact H2_) | with_reducible exact H | (rw [hy517]; exact H) | exact H
      have Ny517 := Aside0.mk hy517
      clear hy517
      have H' := Aside0.mk H
      clear H
      obtain ⟨Ao8, co8, eo8⟩ := Kd.R_slice HO_5.out
      subst eo8
      have p515 : 0 ≤ (x7_1 : Int) := oda
      have q515 : x7_1 < (t512.length : Int) := oda
      obtain ⟨ad515, e515, hx515_0, hx515_1, hx515_2⟩ := at_T39 (Kd.R_reads' HO_5.out).2.2 x7_1 p515 q515
      cases e515
      replace p515 := eq_true p515
      replace q515 := eq_true q515
      go_wp2_with (first | ((with_reducible refine gate_dst (N := 8) rfl ?_); refine box_event ?hg (N := 8) ?hd (cs := #[.int .i64 0, .int .i64 0, .int .i64 0]) (t := 39) ?hr ?_; (case hd => rfl); (case hg => rfl); (case hr => first | (go_simp; done) | (go_simp; rfl)); intro gb516 hg w9 hbox hb; have n0_ := Aside0.mk (Kd.R_below (Kd.R_elderB (kr HO_5.out) gb516 (Nat.le_of_eq hg.symm)) hb); have n1_ := Aside0.mk (Kd.R_below (Kd.R_elderB (kr HO_6.out) gb516 (Nat.le_of_eq hg.symm)) hb); have n2_ := Aside0.mk (below_step (bw) hb); have n3_ := Aside0.mk (hbox); have n4_ := Aside0.mk ((by rw [hg]; exact (below_size (bw)) : w.heap.size ≤ gb516)); have n5_ := Aside0.mk ((by rw [hg]; exact (below_size (bw)) : w.heap.size ≤ gb516)); clear HO_5; clear HO_6; clear HB; have HO_5 := n0_; have HO_6 := n1_; have HB := n2_; have BK516 := n3_; have GW516 := n4_; have GE516 := n5_; clear n0_ n1_ n2_ n3_ n4_ n5_; clear hb hbox hg; have hcz10_0 : w9.cell? ⟨gb516, 0, none⟩ = some (.int .i64 0) := (blk_cell BK516.out 0).trans rfl; have hcz10_1 : w9.cell? ⟨gb516, 1, none⟩ = some (.int .i64 0) := (blk_cell BK516.out 1).trans rfl; have hcz10_2 : w9.cell? ⟨gb516, 2, none⟩ = some (.int .i64 0) := (blk_cell BK516.out 2).trans rfl; have hfz10_0 := blk_frozen BK516.out 0; have hfz10_1 := blk_frozen BK516.out 1; have hfz10_2 := blk_frozen BK516.out 2) | ((with_reducible refine gate_builtin (b := .append) (xs := #[.tmp 35, .tmp 37]) rfl ?_); at_builtin; refine Kd.R_append k39 (w0 := w) w.heap.size rfl (.tmp 35) (.tmp 37) 22 39 (.agg #[(.int .i64 0), (.int .i64 0), (.int .i64 0)]) 24 rfl Try.underlying22 info39 rfl (by decide) (by omega) u6 x6_1 (⟨wrap64 (10 + x7_1), (rd_T39 t512 x7_1).f1, (rd_T39 t512 x7_1).f2⟩ : S39) [.int .i64 (wrap64 (10 + x7_1)), .int .i64 ((rd_T39 t512 x7_1).f1), .int .i64 ((rd_T39 t512 x7_1).f2)] (fun k_ => some k_ ≠ (.slice (some ad515) t512.length co8 : Value).ownBlock ∧ k_ ≠ gb516) (fun _ => False) rfl (by first | (go_simp; done) | (go_simp; rfl)) ?aP (fun _ hk => hk.elim) ?aF ?aO ?aB ?aS ?aL ?_; (case aP => exact k39_mkM _ _ _ (⟨wrap64 (10 + x7_1), (rd_T39 t512 x7_1).f1, (rd_T39 t512 x7_1).f2⟩ : S39)); (case aB => exact (by repeat (first | (with_reducible first | exact HB.out | apply below_alloc | apply pw_below_drewN | apply below_drew1 | refine below_set ?_ GE516.out) | exact HB.out))); (case aF => exact (fun k_ hk => ⟨Kd.fresh' (Kd.R_lt (by (with_reducible repeat (first | apply Kd.R_alloc | apply Kd.R_drewN | apply Kd.R_drew)); exact (Kd.R_mono (Kd.R_far (p := ⟨gb516, 0, none⟩) (Kd.R_far (p := ⟨gb516, 2, none⟩) (Kd.R_far (p := ⟨gb516, 1, none⟩) (Kd.R_far (p := ⟨gb516, 0, none⟩) (Kd.R_mono HO_5.out (fun k_ hk => (⟨hk, hk.2⟩ : _ ∧ k_ ≠ gb516))) (fun _ hk => hk.2) (.int .i64 ((rd_T39 t512 x7_1).f0))) (fun _ hk => hk.2) (.int .i64 ((rd_T39 t512 x7_1).f1))) (fun _ hk => hk.2) (.int .i64 ((rd_T39 t512 x7_1).f2))) (fun _ hk => hk.2) (.int .i64 (wrap64 (10 + x7_1)))) (fun _ h_ => h_.1)))) k_ hk, Kd.freshB (g := gb516) (o := .cells #[.int .i64 (wrap64 (10 + x7_1)), .int .i64 ((rd_T39 t512 x7_1).f1), .int .i64 ((rd_T39 t512 x7_1).f2)] 39 (0, 0)) (by (with_reducible repeat (first | refine blk_drewN ?_ _ | refine blk_drew ?_ | refine blk_alloc ?_ _)); refine blk_put (cs := #[.int .i64 ((rd_T39 t512 x7_1).f0), .int .i64 ((rd_T39 t512 x7_1).f1), .int .i64 ((rd_T39 t512 x7_1).f2)]) ?_ 0 _ rfl; (with_reducible repeat (first | refine blk_drewN ?_ _ | refine blk_drew ?_ | refine blk_alloc ?_ _)); refine blk_put (cs := #[.int .i64 ((rd_T39 t512 x7_1).f0), .int .i64 ((rd_T39 t512 x7_1).f1), .int .i64 0]) ?_ 2 _ rfl; (with_reducible repeat (first | refine blk_drewN ?_ _ | refine blk_drew ?_ | refine blk_alloc ?_ _)); refine blk_put (cs := #[.int .i64 ((rd_T39 t512 x7_1).f0), .int .i64 0, .int .i64 0]) ?_ 1 _ rfl; (with_reducible repeat (first | refine blk_drewN ?_ _ | refine blk_drew ?_ | refine blk_alloc ?_ _)); refine blk_put (cs := #[.int .i64 0, .int .i64 0, .int .i64 0]) ?_ 0 _ rfl; (with_reducible repeat (first | refine blk_drewN ?_ _ | refine blk_drew ?_ | refine blk_alloc ?_ _)); exact BK516.out) k_ hk⟩)); (case aO => exact (by (with_reducible repeat (first | apply Kd.R_alloc | apply Kd.R_drewN | apply Kd.R_drew)); exact Kd.R_mono (Kd.R_far (p := ⟨gb516, 0, none⟩) (Kd.R_far (p := ⟨gb516, 2, none⟩) (Kd.R_far (p := ⟨gb516, 1, none⟩) (Kd.R_far (p := ⟨gb516, 0, none⟩) (Kd.R_mono HO_6.out (fun k_ hk => (⟨hk, hk.2⟩ : _ ∧ k_ ≠ gb516))) (fun _ hk => hk.2) (.int .i64 ((rd_T39 t512 x7_1).f0))) (fun _ hk => hk.2) (.int .i64 ((rd_T39 t512 x7_1).f1))) (fun _ hk => hk.2) (.int .i64 ((rd_T39 t512 x7_1).f2))) (fun _ hk => hk.2) (.int .i64 (wrap64 (10 + x7_1)))) (fun _ hk => ⟨hk.1.1, hk.1.2⟩))); (case aS => exact (below_size (by repeat (first | (with_reducible first | exact HB.out | apply below_alloc | apply pw_below_drewN | apply below_drew1 | refine below_set ?_ GE516.out) | exact HB.out)))); (case aL => have := LMc7.out; omega); intro v518 w11 ho hb hg hat; rw [← Ny517.out] at ho; have n0_ := Aside0.mk (Kd.R_after (ok := (fun k_ => k_ ≠ gb516)) (by (with_reducible repeat (first | apply Kd.R_alloc | apply Kd.R_drewN | apply Kd.R_drew)); exact Kd.R_mono (Kd.R_far (p := ⟨gb516, 0, none⟩) (Kd.R_far (p := ⟨gb516, 2, none⟩) (Kd.R_far (p := ⟨gb516, 1, none⟩) (Kd.R_far (p := ⟨gb516, 0, none⟩) (Kd.R_mono HO_5.out (fun k_ hk => (⟨hk, hk.2⟩ : _ ∧ k_ ≠ gb516))) (fun _ hk => hk.2) (.int .i64 ((rd_T39 t512 x7_1).f0))) (fun _ hk => hk.2) (.int .i64 ((rd_T39 t512 x7_1).f1))) (fun _ hk => hk.2) (.int .i64 ((rd_T39 t512 x7_1).f2))) (fun _ hk => hk.2) (.int .i64 (wrap64 (10 + x7_1)))) (fun _ hk => ⟨hk.1.2, hk.1.1⟩)) hg hat); have n1_ := Aside0.mk (blk_grown (g := gb516) (o := .cells #[.int .i64 (wrap64 (10 + x7_1)), .int .i64 ((rd_T39 t512 x7_1).f1), .int .i64 ((rd_T39 t512 x7_1).f2)] 39 (0, 0)) (by (with_reducible repeat (first | refine blk_drewN ?_ _ | refine blk_drew ?_ | refine blk_alloc ?_ _)); refine blk_put (cs := #[.int .i64 ((rd_T39 t512 x7_1).f0), .int .i64 ((rd_T39 t512 x7_1).f1), .int .i64 ((rd_T39 t512 x7_1).f2)]) ?_ 0 _ rfl; (with_reducible repeat (first | refine blk_drewN ?_ _ | refine blk_drew ?_ | refine blk_alloc ?_ _)); refine blk_put (cs := #[.int .i64 ((rd_T39 t512 x7_1).f0), .int .i64 ((rd_T39 t512 x7_1).f1), .int .i64 0]) ?_ 2 _ rfl; (with_reducible repeat (first | refine blk_drewN ?_ _ | refine blk_drew ?_ | refine blk_alloc ?_ _)); refine blk_put (cs := #[.int .i64 ((rd_T39 t512 x7_1).f0), .int .i64 0, .int .i64 0]) ?_ 1 _ rfl; (with_reducible repeat (first | refine blk_drewN ?_ _ | refine blk_drew ?_ | refine blk_alloc ?_ _)); refine blk_put (cs := #[.int .i64 0, .int .i64 0, .int .i64 0]) ?_ 0 _ rfl; (with_reducible repeat (first | refine blk_drewN ?_ _ | refine blk_drew ?_ | refine blk_alloc ?_ _)); exact BK516.out) hg (Kd.R_away HO_6.out (fun _ hk => hk.2))); have n2_ := Aside0.mk (hb); have n3_ := Aside0.mk (ho); clear HO_5; clear BK516; clear HB; clear HO_6; have HO_5 := n0_; have BK516 := n1_; have HB := n2_; have HO519 := n3_; clear n0_ n1_ n2_ n3_; clear ho hb hg hat))
      go_roundg k1
      case measure => have := HK1.out; omega
      case rel => exact ⟨(y517), (wrap64 (x7_1 + 1)), eqs, H', ⟨by have := HK1.out; omega⟩, ⟨by (with_reducible repeat (first | apply Kd.R_alloc | apply Kd.R_drewN | apply Kd.R_drew)); exact Kd.R_mono HO_5.out (fun _ hk => hk.2)⟩, ⟨by (with_reducible repeat (first | apply Kd.R_alloc | apply Kd.R_drewN | apply Kd.R_drew)); exact Kd.R_mono HO519.out (fun _ hk => hk.1)⟩, ⟨by repeat (first | (with_reducible first | exact HB.out | apply below_alloc | apply pw_below_drewN | apply below_drew1 | refine below_set ?_ GE516.out) | exact HB.out)⟩⟩
     ·rw [if_neg c7] at H
      exact absurd H (by simp)
    ·rw [if_neg c6] at H
     exact absurd H (by simp)
   ·rw [if_neg c5] at H
    have c5b0 : decide (x7_1 < (t512.length : Int)) = false := decide_eq_false c5
    clear c5
    replace H := Option.bind_eq_some_iff.mp H
    obtain ⟨t520, A120, H⟩ := H
    replace H : (if t520 = 0 then (if (x6_1.length : Int) = 0 then ((worldmintlaw14_lives.f k1).bind fun t521 => (some t521)) else (some false)) else ((worldmintref03_Around.f a1 (wrap64 ((mn t520 1099511627776) + 1))).bind fun t522 => ((lots_Take.f k1 x6_1 t522 true).bind fun bt523 => (if bt523.2.2 = 0 then (worldmintlaw14_LotsMixed.l1 k1 x6_1 t520 t522 bt523.1 0) else (some false))))) = some r := H
    have A12 := Aside0.mk A120
    clear A120
    by_cases c13 : t520 = 0
    ·rw [if_pos c13] at H
     have c13b0 : (t520 == 0) = true := beq_iff_eq.mpr c13
     have c13b1 : (t520 != 0) = false := bne_eq_false_iff_eq.mpr c13
     clear c13
     by_cases c14 : (x6_1.length : Int) = 0
     ·rw [if_pos c14] at H
      have c14b0 : ((x6_1.length : Int) == 0) = true := beq_iff_eq.mpr c14
      have c14b1 : ((x6_1.length : Int) != 0) = false := bne_eq_false_iff_eq.mpr c14
      clear c14
      replace H := Option.bind_eq_some_iff.mp H
      obtain ⟨t521, A150, H⟩ := H
      replace H : (some t521) = some r := H
      have A15 := Aside0.mk A150
      clear A150
      obtain rfl := Option.some.inj H
      obtain ⟨Ao16, co16, eo16⟩ := Kd.R_slice HO_5.out
      subst eo16
      obtain ⟨Ao17, co17, eo17⟩ := Kd.R_slice HO_6.out
      subst eo17
      go_wp2_with (first | ((with_reducible refine gate_callee (f := 24) rfl ?_); refine goesL_ (some 40) rfl rfl Try.func24 (by kernel_rfl) rfl #[.slice Ao17 x6_1.length co17] rfl (by (try simp only [List.map_toArray, List.map_cons, List.map_nil]); first | done | rfl | (simp only [List.length_drop, List.length_take]; rfl)) ?_; (with_reducible refine (lots_Total.calls k1 _ _ x6_1 t520 _ ?side1 ?side2 A12.out).mono ?_); (case side1 => repeat (first | exact (Kd.R_reads' HO_6.out).2.2 | (with_reducible refine Kd.C_alloc ?_ _) | (with_reducible refine Kd.C_drewN ?_ _) | (with_reducible refine Kd.C_drew ?_))); (case side2 => exact (Kd.R_reads' HO_6.out).2.1); rintro e w18 ⟨rfl, hb⟩; refine ⟨_, rfl, ?_⟩; have n0_ := Aside0.mk (Kd.R_below (kr HO_5.out) hb); have n1_ := Aside0.mk (Kd.R_below (kr HO_6.out) hb); have n2_ := Aside0.mk (below_step (bw) hb); clear HO_5; clear HO_6; clear HB; have HO_5 := n0_; have HO_6 := n1_; have HB := n2_; clear n0_ n1_ n2_; (try clear hb); (try clear hb2); (try clear hk); (try clear hi)) | (go_at_call 19; (with_reducible refine (worldmintlaw14_lives.calls k1  t521 _ A15.out).mono ?_); rintro e w19 ⟨rfl, hb⟩; have n0_ := Aside0.mk (Kd.R_below (kr HO_5.out) hb); have n1_ := Aside0.mk (Kd.R_below (kr HO_6.out) hb); have n2_ := Aside0.mk (below_step (bw) hb); clear HO_5; clear HO_6; clear HB; have HO_5 := n0_; have HO_6 := n1_; have HB := n2_; clear n0_ n1_ n2_; (try clear hb); (try clear hb2); (try clear hk); (try clear hi)))
      go_ret
      exact ⟨by first | rfl | (simp [errW_none, errW_some] <;> rfl) | (simp [*, errW_none, errW_some] <;> rfl), bw⟩
     ·rw [if_neg c14] at H
      have c14b0 : ((x6_1.length : Int) == 0) = false := beq_eq_false_iff_ne.mpr c14
      have c14b1 : ((x6_1.length : Int) != 0) = true := bne_iff_ne.mpr c14
      have c14b2 : ¬ (x6_1 = []) := fun h_ => c14 (by rw [h_]; rfl)
      obtain rfl := Option.some.inj H
      obtain ⟨Ao20, co20, eo20⟩ := Kd.R_slice HO_5.out
      subst eo20
      obtain ⟨Ao21, co21, eo21⟩ := Kd.R_slice HO_6.out
      subst eo21
      go_wp2_with (first | ((with_reducible refine gate_callee (f := 24) rfl ?_); refine goesL_ (some 40) rfl rfl Try.func24 (by kernel_rfl) rfl #[.slice Ao21 x6_1.length co21] rfl (by (try simp only [List.map_toArray, List.map_cons, List.map_nil]); first | done | rfl | (simp only [List.length_drop, List.length_take]; rfl)) ?_; (with_reducible refine (lots_Total.calls k1 _ _ x6_1 t520 _ ?side1 ?side2 A12.out).mono ?_); (case side1 => repeat (first | exact (Kd.R_reads' HO_6.out).2.2 | (with_reducible refine Kd.C_alloc ?_ _) | (with_reducible refine Kd.C_drewN ?_ _) | (with_reducible refine Kd.C_drew ?_))); (case side2 => exact (Kd.R_reads' HO_6.out).2.1); rintro e w22 ⟨rfl, hb⟩; refine ⟨_, rfl, ?_⟩; have n0_ := Aside0.mk (Kd.R_below (kr HO_5.out) hb); have n1_ := Aside0.mk (Kd.R_below (kr HO_6.out) hb); have n2_ := Aside0.mk (below_step (bw) hb); clear HO_5; clear HO_6; clear HB; have HO_5 := n0_; have HO_6 := n1_; have HB := n2_; clear n0_ n1_ n2_; (try clear hb); (try clear hb2); (try clear hk); (try clear hi)))
      go_ret
      exact ⟨by first | rfl | (simp [errW_none, errW_some] <;> rfl) | (simp [*, errW_none, errW_some] <;> rfl), bw⟩
    ·rw [if_neg c13] at H
     have c13b0 : (t520 == 0) = false := beq_eq_false_iff_ne.mpr c13
     have c13b1 : (t520 != 0) = true := bne_iff_ne.mpr c13
     obtain ⟨ji23, hji23⟩ : ∃ j_ : Int, (mn t520 1099511627776) = j_ := ⟨_, rfl⟩
     replace H : ((worldmintref03_Around.f a1 (wrap64 ((ji23) + 1))).bind fun t522 => ((lots_Take.f k1 x6_1 t522 true).bind fun bt523 => (if bt523.2.2 = 0 then (worldmintlaw14_LotsMixed.l1 k1 x6_1 t520 t522 bt523.1 0) else (some false)))) = some r := by first | (rw [hji23] at H; exact H) | (simp only [hji23] at H ⊢; exact H)
     (try rw [hji23] at A12)
     (try (have hji23h : ji23 ≤ 1099511627776 := by (rw [← hji23]; unfold mn; (repeat' split) <;> omega)))
     (try (have hji23g : ji23 ≤ 64 := by omega))
     have hji23_ : (if 1099511627776 < t520 then 1099511627776 else t520) = ji23 := hji23
     replace H := Option.bind_eq_some_iff.mp H
     obtain ⟨t522, A240, H⟩ := H
     replace H : ((lots_Take.f k1 x6_1 t522 true).bind fun bt523 => (if bt523.2.2 = 0 then (worldmintlaw14_LotsMixed.l1 k1 x6_1 t520 t522 bt523.1 0) else (some false))) = some r := H
     have A24 := Aside0.mk A240
     clear A240
     replace H := Option.bind_eq_some_iff.mp H
     obtain ⟨⟨t523, t524, t525⟩, A250, H⟩ := H
     replace H : (if t525 = 0 then (worldmintlaw14_LotsMixed.l1 k1 x6_1 t520 t522 t523 0) else (some false)) = some r := H
     have A25 := Aside0.mk A250
     clear A250
     by_cases c26 : t525 = 0
     ·rw [if_pos c26] at H
      have c26b0 : (t525 == 0) = true := beq_iff_eq.mpr c26
      have c26b1 : (t525 != 0) = false := bne_eq_false_iff_eq.mpr c26
      clear c26
      have H' := Aside0.mk H
      clear H
      obtain ⟨Ao27, co27, eo27⟩ := Kd.R_slice HO_5.out
      subst eo27
      obtain ⟨Ao28, co28, eo28⟩ := Kd.R_slice HO_6.out
      subst eo28
      go_wp2_with (first | ((with_reducible refine gate_callee (f := 24) rfl ?_); refine goesL_ (some 40) rfl rfl Try.func24 (by kernel_rfl) rfl #[.slice Ao28 x6_1.length co28] rfl (by (try simp only [List.map_toArray, List.map_cons, List.map_nil]); first | done | rfl | (simp only [List.length_drop, List.length_take]; rfl)) ?_; (with_reducible refine (lots_Total.calls k1 _ _ x6_1 t520 _ ?side1 ?side2 A12.out).mono ?_); (case side1 => repeat (first | exact (Kd.R_reads' HO_6.out).2.2 | (with_reducible refine Kd.C_alloc ?_ _) | (with_reducible refine Kd.C_drewN ?_ _) | (with_reducible refine Kd.C_drew ?_))); (case side2 => exact (Kd.R_reads' HO_6.out).2.1); rintro e w29 ⟨rfl, hb⟩; refine ⟨_, rfl, ?_⟩; have n0_ := Aside0.mk (Kd.R_below (kr HO_5.out) hb); have n1_ := Aside0.mk (Kd.R_below (kr HO_6.out) hb); have n2_ := Aside0.mk (below_step (bw) hb); clear HO_5; clear HO_6; clear HB; have HO_5 := n0_; have HO_6 := n1_; have HB := n2_; clear n0_ n1_ n2_; (try clear hb); (try clear hb2); (try clear hk); (try clear hi)) | ((with_reducible refine gate_callee (f := 14) rfl ?_); refine goesL_ (some 53) rfl rfl Try.func14 (by kernel_rfl) rfl #[.int .i64 a1, .int .i64 (wrap64 ((ji23) + 1))] rfl (by (try simp only [List.map_toArray, List.map_cons, List.map_nil]); first | done | (simp only [hji23]; rfl) | rfl | (simp only [List.length_drop, List.length_take]; rfl)) ?_; (with_reducible refine (worldmintref03_Around.calls a1 (wrap64 ((ji23) + 1)) t522 _ A24.out).mono ?_); rintro e w' ⟨rfl, ⟨nd, rfl⟩⟩; refine ⟨_, rfl, ?_⟩) | ((with_reducible refine gate_callee (f := 16) rfl ?_); refine goesL_ (some 57) rfl rfl Try.func16 (by kernel_rfl) rfl #[.slice Ao28 x6_1.length co28, .int .i64 t522, .bool true] rfl (by (try simp only [List.map_toArray, List.map_cons, List.map_nil]); first | done | rfl | (simp only [List.length_drop, List.length_take]; rfl)) ?_; (with_reducible refine (lots_Take.calls k1 _ _ x6_1 t522 true t523 t524 t525 _ ?side1 ?side2 A25.out).mono ?_); (case side1 => repeat (first | exact (Kd.R_reads' HO_6.out).2.2 | (with_reducible refine Kd.C_alloc ?_ _) | (with_reducible refine Kd.C_drewN ?_ _) | (with_reducible refine Kd.C_drew ?_))); (case side2 => exact (Kd.R_reads' HO_6.out).2.1); rintro e w30 ⟨v526, v528, rfl, ho0, ho1, hb⟩; refine ⟨_, rfl, ?_⟩; have n0_ := Aside0.mk (Kd.R_mono (Kd.R_told (Kd.R_told (Kd.R_old (kr HO_5.out) hb) (Kd.R_base ho0)) (Kd.R_base ho1)) (fun _ h_ => h_.1)); have n1_ := Aside0.mk (Kd.R_mono (Kd.R_told (Kd.R_told (Kd.R_old (kr HO_6.out) hb) (Kd.R_base ho0)) (Kd.R_base ho1)) (fun _ h_ => h_.1)); have n2_ := Aside0.mk (Kd.R_lower (Kd.R_new' (Kd.R_new' ho0 (Kd.R_lt (kr HO_5.out))) (Kd.R_lt (kr HO_6.out))) (below_size (bw))); have n3_ := Aside0.mk (Kd.R_lower (Kd.R_new' (Kd.R_new' ho1 (Kd.R_lt (kr HO_5.out))) (Kd.R_lt (kr HO_6.out))) (below_size (bw))); have n4_ := Aside0.mk (below_step (bw) hb); clear HO_5; clear HO_6; clear HB; have HO_5 := n0_; have HO_6 := n1_; have HO527 := n2_; have HO529 := n3_; have HB := n4_; clear n0_ n1_ n2_ n3_ n4_; (try clear hb); (try clear hb2); (try clear hk); (try clear hi); (try clear ho0); (try clear ho1)))
      go_loopg [14] k1 (fun kq v14 w' => ∃ (x14_2 : Int), v14 = .int .i64 x14_2 ∧ Aside0 (worldmintlaw14_LotsMixed.l1 kq x6_1 t520 t522 t523 x14_2 = some r) ∧ Aside0 (kq ≤ k1) ∧ Aside0 (Kd.R k39 39 w' w.heap.size (fun k_ => some k_ ≠ (v526 : Value).ownBlock) (.slice Ao28 x6_1.length co28) x6_1) ∧ Aside0 (Kd.R k39 39 w' w.heap.size (fun k_ => some k_ ≠ ((.slice Ao28 x6_1.length co28) : Value).ownBlock) v526 t523) ∧ Aside0 (Below w.heap.size w w'))
      case atStart => exact ⟨(0), eqs, H', ⟨Nat.le_refl _⟩, ⟨by (with_reducible repeat (first | apply Kd.R_alloc | apply Kd.R_drewN | apply Kd.R_drew)); exact Kd.R_mono HO_6.out (fun _ hk => hk.1.2)⟩, ⟨by (with_reducible repeat (first | apply Kd.R_alloc | apply Kd.R_drewN | apply Kd.R_drew)); exact Kd.R_mono HO527.out (fun _ hk => hk.2)⟩, ⟨bw⟩⟩
      case round =>
       clear H'
       try clear c5
       try clear c5b0
       try clear c6
       try clear c6b0
       try clear c7
       try clear c13
       try clear c13b0
       try clear c13b1
       try clear c14
       try clear c14b0
       try clear c14b1
       try clear c14b2
       try clear c26
       try clear c26b0
       try clear c26b1
       try clear hcz10_0
       try clear hcz10_1
       try clear hcz10_2
       try clear hfz10_0
       try clear hfz10_1
       try clear hfz10_2
       try clear hx515_0
       try clear hx515_1
       try clear hx515_2
       try clear p515
       try clear q515
       obtain ⟨x14_2, rfl, HA, HK2, HO_6, HO_11, HB⟩ := hrel
       cases gk with
       | zero => exact absurd HA.out (by simp [worldmintlaw14_LotsMixed.l1])
       | succ k2 =>
        have H := HA.out
        clear HA
        simp only [worldmintlaw14_LotsMixed.l1] at H
        by_cases c31 : x14_2 < (x6_1.length : Int)
        ·rw [if_pos c31] at H
         have c31b0 : decide (x14_2 < (x6_1.length : Int)) = true := decide_eq_true c31
         clear c31
         by_cases c32 : 0 ≤ x14_2
         ·rw [if_pos c32] at H
          have c32b0 := eq_true c32
          have c32b1 : decide (0 ≤ x14_2) = true := decide_eq_true c32
          clear c32
          by_cases c33 : x14_2 ≤ (wrap64 (x14_2 + 1))
          ·rw [if_pos c33] at H
           have c33b0 := eq_true c33
           have c33b1 : decide (x14_2 ≤ (wrap64 (x14_2 + 1))) = true := decide_eq_true c33
           by_cases c34 : (wrap64 (x14_2 + 1)) ≤ (x6_1.length : Int)
           ·rw [if_pos c34] at H
            have c34b0 := eq_true c34
            have c34b1 : decide ((wrap64 (x14_2 + 1)) ≤ (x6_1.length : Int)) = true := decide_eq_true c34
            obtain ⟨y530, hy530⟩ : ∃ y_ : List (S39), y_ = ((x6_1.take ((wrap64 (x14_2 + 1)) : Int).toNat).drop (x14_2 : Int).toNat) := ⟨_, rfl⟩
            replace H : ((lots_Meet.f k2 t523 y530).bind fun t534 => ((lots_Total.f k2 t534).bind fun t537 => ((share_Part.f k2 t522 ((rd_T39 x6_1 x14_2).f2) t520).bind fun bt539 => ((share_Ceil.f k2 t522 ((rd_T39 x6_1 x14_2).f2) t520).bind fun bt542 => (if bt539.2 = 0 then (if bt542.2 = 0 then (if t537 < bt539.1 then (worldmintlaw14_LotsMixed.j2 k2 x6_1 t520 t522 t523 x14_2 true) else (worldmintlaw14_LotsMixed.j2 k2 x6_1 t520 t522 t523 x14_2 (decide (t537 > bt542.1)))) else (worldmintlaw14_LotsMixed.j2 k2 x6_1 t520 t522 t523 x14_2 true)) else (worldmintlaw14_LotsMixed.j2 k2 x6_1 t520 t522 t523 x14_2 true)))))) = some r := by first | (rw [hy530]; with_reducible exact H) | (have H2_ := (Option.bind_some _ _).symm.trans H; rw [hy530]; with_reducible exact H2_) | (have H2_ := (Option.bind_some _ _).symm.trans H; with_reducible exact H2_) | with_reducible exact H | (rw [hy530]; exact H) | exact H
            have Ny530 := Aside0.mk hy530
            clear hy530
            replace H := Option.bind_eq_some_iff.mp H
            obtain ⟨t534, A350, H⟩ := H
            replace H : ((lots_Total.f k2 t534).bind fun t537 => ((share_Part.f k2 t522 ((rd_T39 x6_1 x14_2).f2) t520).bind fun bt539 => ((share_Ceil.f k2 t522 ((rd_T39 x6_1 x14_2).f2) t520).bind fun bt542 => (if bt539.2 = 0 then (if bt542.2 = 0 then (if t537 < bt539.1 then (worldmintlaw14_LotsMixed.j2 k2 x6_1 t520 t522 t523 x14_2 true) else (worldmintlaw14_LotsMixed.j2 k2 x6_1 t520 t522 t523 x14_2 (decide (t537 > bt542.1)))) else (worldmintlaw14_LotsMixed.j2 k2 x6_1 t520 t522 t523 x14_2 true)) else (worldmintlaw14_LotsMixed.j2 k2 x6_1 t520 t522 t523 x14_2 true))))) = some r := H
            have A35 := Aside0.mk A350
            clear A350
            replace H := Option.bind_eq_some_iff.mp H
            obtain ⟨t537, A360, H⟩ := H
            replace H : ((share_Part.f k2 t522 ((rd_T39 x6_1 x14_2).f2) t520).bind fun bt539 => ((share_Ceil.f k2 t522 ((rd_T39 x6_1 x14_2).f2) t520).bind fun bt542 => (if bt539.2 = 0 then (if bt542.2 = 0 then (if t537 < bt539.1 then (worldmintlaw14_LotsMixed.j2 k2 x6_1 t520 t522 t523 x14_2 true) else (worldmintlaw14_LotsMixed.j2 k2 x6_1 t520 t522 t523 x14_2 (decide (t537 > bt542.1)))) else (worldmintlaw14_LotsMixed.j2 k2 x6_1 t520 t522 t523 x14_2 true)) else (worldmintlaw14_LotsMixed.j2 k2 x6_1 t520 t522 t523 x14_2 true)))) = some r := H
            have A36 := Aside0.mk A360
            clear A360
            replace H := Option.bind_eq_some_iff.mp H
            obtain ⟨⟨t539, t540⟩, A370, H⟩ := H
            replace H : ((share_Ceil.f k2 t522 ((rd_T39 x6_1 x14_2).f2) t520).bind fun bt542 => (if t540 = 0 then (if bt542.2 = 0 then (if t537 < t539 then (worldmintlaw14_LotsMixed.j2 k2 x6_1 t520 t522 t523 x14_2 true) else (worldmintlaw14_LotsMixed.j2 k2 x6_1 t520 t522 t523 x14_2 (decide (t537 > bt542.1)))) else (worldmintlaw14_LotsMixed.j2 k2 x6_1 t520 t522 t523 x14_2 true)) else (worldmintlaw14_LotsMixed.j2 k2 x6_1 t520 t522 t523 x14_2 true))) = some r := H
            have A37 := Aside0.mk A370
            clear A370
            replace H := Option.bind_eq_some_iff.mp H
            obtain ⟨⟨t542, t543⟩, A380, H⟩ := H
            replace H : (if t540 = 0 then (if t543 = 0 then (if t537 < t539 then (worldmintlaw14_LotsMixed.j2 k2 x6_1 t520 t522 t523 x14_2 true) else (worldmintlaw14_LotsMixed.j2 k2 x6_1 t520 t522 t523 x14_2 (decide (t537 > t542)))) else (worldmintlaw14_LotsMixed.j2 k2 x6_1 t520 t522 t523 x14_2 true)) else (worldmintlaw14_LotsMixed.j2 k2 x6_1 t520 t522 t523 x14_2 true)) = some r := H
            have A38 := Aside0.mk A380
            clear A380
            have HC39 := Aside0.mk H
            clear H
            have q40 : ((wrap64 (x14_2 + 1)) : Int) ≤ ((x6_1.length : Int) : Int) := oda
            obtain ⟨i040, hi040, _, hsz40, _⟩ := info_parts info39
            have hroom40 : x6_1.length ≤ co28 := (Kd.R_reads' HO_6.out).2.1
            have hC40 : Kd.C k39 _ Ao28 x6_1.length x6_1 := (Kd.R_reads' HO_6.out).2.2
            have ql40 : (x14_2 : Int) ≤ ((wrap64 (x14_2 + 1)) : Int) := oda
            have q040 : (0 : Int) ≤ (x14_2 : Int) := oda
            have hcut40 := cut_mid (P := Try.prog) 22 39 .i64 .i64 Try.underlying22 hi040 3 hsz40 Ao28 x6_1.length co28 x14_2 (wrap64 (x14_2 + 1)) q040 ql40 q40 hroom40
            have hr40 := Kd.C_mid (lo := (x14_2 : Int).toNat) (hi := ((wrap64 (x14_2 + 1)) : Int).toNat) (c := co28) hC40 (by omega) (by omega) hroom40
            obtain ⟨A40, hA40⟩ : ∃ A1, A1 = (if co28 = (x14_2 : Int).toNat then Ao28 else (Ao28 : Option Addr).map (·.add ((x14_2 : Int).toNat * 3))) := ⟨_, rfl⟩
            obtain ⟨c40, hc40⟩ : ∃ c1, c1 = co28 - (x14_2 : Int).toNat := ⟨_, rfl⟩
            have hy40 : y530.length = ((wrap64 (x14_2 + 1)) : Int).toNat - (x14_2 : Int).toNat := (by rw [Ny530.out, List.length_drop, List.length_take] <;> omega)
            rw [show ((x6_1).take ((wrap64 (x14_2 + 1)) : Int).toNat).drop (x14_2 : Int).toNat = y530 from Ny530.out.symm] at hr40
            replace hr40 : Kd.C k39 _ A40 y530.length y530 := (by rw [hA40]; exact hr40)
            rw [← hy40, ← hA40, ← hc40] at hcut40
            have HR533 := Aside0.mk hr40
            have HC533 := Aside0.mk (show y530.length ≤ c40 from by rw [hy40, hc40]; exact Nat.sub_le_sub_right (Nat.le_trans (by omega) hroom40) _)
            clear hr40 hC40 hroom40 hi040 hsz40 hc40
            have KY40 := Aside0.mk hy40
            have KA40 := Aside0.mk hA40
            clear hy40 hA40
            have KL40 := Aside0.mk (show ((wrap64 (x14_2 + 1)) : Int).toNat ≤ x6_1.length from by omega)
            have KM40 := Aside0.mk (show (x14_2 : Int).toNat ≤ ((wrap64 (x14_2 + 1)) : Int).toNat from by omega)
            replace q40 := eq_true q40
            obtain ⟨Ao41, co41, eo41⟩ := Kd.R_slice HO_11.out
            subst eo41
            go_upto_region 22 with (first | ((with_reducible refine gate_callee (f := 27) rfl ?_); refine goesL_ (some 75) rfl rfl Try.func27 (by kernel_rfl) rfl #[.slice Ao41 t523.length co41, .slice A40 y530.length c40] rfl (by (try simp only [List.map_toArray, List.map_cons, List.map_nil]); first | done | rfl | (simp only [List.length_drop, List.length_take]; rfl)) ?_; (with_reducible refine (lots_Meet.calls k2 _ _ t523 _ _ y530 t534 _ ?side1 ?side2 ?side3 ?side4 A35.out).mono ?_); (case side1 => repeat (first | exact (Kd.R_reads' HO_11.out).2.2 | (with_reducible refine Kd.C_alloc ?_ _) | (with_reducible refine Kd.C_drewN ?_ _) | (with_reducible refine Kd.C_drew ?_))); (case side2 => exact (Kd.R_reads' HO_11.out).2.1); (case side3 => repeat (first | exact (by repeat (first | (with_reducible exact HR533.out) | (with_reducible refine Kd.C_alloc ?_ _) | (with_reducible refine Kd.C_drewN ?_ _) | (with_reducible refine Kd.C_drew ?_) | exact HR533.out)) | (with_reducible refine Kd.C_alloc ?_ _) | (with_reducible refine Kd.C_drewN ?_ _) | (with_reducible refine Kd.C_drew ?_))); (case side4 => exact HC533.out); rintro e w42 ⟨v535, rfl, ho0, hb⟩; refine ⟨_, rfl, ?_⟩; have n0_ := Aside0.mk (Kd.R_elder' (kr HO_6.out) (Kd.R_base ho0) hb); have n1_ := Aside0.mk (Kd.R_elder' (kr HO_11.out) (Kd.R_base ho0) hb); have n2_ := Aside0.mk (Kd.R_lower (Kd.R_new' (Kd.R_new' ho0 (Kd.R_lt (kr HO_6.out))) (Kd.R_lt (kr HO_11.out))) (below_size (bw))); have n3_ := Aside0.mk (Kd.C_below (by repeat (first | (with_reducible exact HR533.out) | (with_reducible refine Kd.C_alloc ?_ _) | (with_reducible refine Kd.C_drewN ?_ _) | (with_reducible refine Kd.C_drew ?_) | exact HR533.out)) hb); have n4_ := Aside0.mk (below_step (bw) hb); clear HO_6; clear HO_11; clear HR533; clear HB; have HO_6 := n0_; have HO_11 := n1_; have HO536 := n2_; have HR533 := n3_; have HB := n4_; clear n0_ n1_ n2_ n3_ n4_; (try clear hb); (try clear hb2); (try clear hk); (try clear hi); (try clear ho0); obtain ⟨Ao43, co43, eo43⟩ := Kd.R_slice HO536.out; subst eo43) | ((with_reducible refine gate_callee (f := 24) rfl ?_); refine goesL_ (some 76) rfl rfl Try.func24 (by kernel_rfl) rfl #[.slice Ao43 t534.length co43] rfl (by (try simp only [List.map_toArray, List.map_cons, List.map_nil]); first | done | rfl | (simp only [List.length_drop, List.length_take]; rfl)) ?_; (with_reducible refine (lots_Total.calls k2 _ _ t534 t537 _ ?side1 ?side2 A36.out).mono ?_); (case side1 => repeat (first | exact (Kd.R_reads' HO536.out).2.2 | (with_reducible refine Kd.C_alloc ?_ _) | (with_reducible refine Kd.C_drewN ?_ _) | (with_reducible refine Kd.C_drew ?_))); (case side2 => exact (Kd.R_reads' HO536.out).2.1); rintro e w44 ⟨rfl, hb⟩; refine ⟨_, rfl, ?_⟩; have n0_ := Aside0.mk (Kd.R_below (kr HO_6.out) hb); have n1_ := Aside0.mk (Kd.R_below (kr HO_11.out) hb); have n2_ := Aside0.mk (Kd.R_below (kr HO536.out) hb); have n3_ := Aside0.mk (Kd.C_below (by repeat (first | (with_reducible exact HR533.out) | (with_reducible refine Kd.C_alloc ?_ _) | (with_reducible refine Kd.C_drewN ?_ _) | (with_reducible refine Kd.C_drew ?_) | exact HR533.out)) hb); have n4_ := Aside0.mk (below_step (bw) hb); clear HO_6; clear HO_11; clear HO536; clear HR533; clear HB; have HO_6 := n0_; have HO_11 := n1_; have HO536 := n2_; have HR533 := n3_; have HB := n4_; clear n0_ n1_ n2_ n3_ n4_; (try clear hb); (try clear hb2); (try clear hk); (try clear hi); have p538 : 0 ≤ (x14_2 : Int) := oda; have q538 : x14_2 < (x6_1.length : Int) := oda; obtain ⟨ad538, e538, hx538_0, hx538_1, hx538_2⟩ := at_T39 (Kd.R_reads' HO_6.out).2.2 x14_2 p538 q538; cases e538; replace p538 := eq_true p538; replace q538 := eq_true q538) | ((with_reducible refine gate_callee (f := 28) rfl ?_); refine goesL_ (some 85) rfl rfl Try.func28 (by kernel_rfl) rfl #[.int .i64 t522, .int .i64 ((rd_T39 x6_1 x14_2).f2), .int .i64 t520] rfl (by (try simp only [List.map_toArray, List.map_cons, List.map_nil]); first | done | rfl | (simp only [List.length_drop, List.length_take]; rfl)) ?_; (with_reducible refine (share_Part.calls k2 t522 ((rd_T39 x6_1 x14_2).f2) t520 t539 t540 _ A37.out).mono ?_); rintro e w' ⟨rfl, ⟨nd, rfl⟩⟩; refine ⟨_, rfl, ?_⟩; have p541 : 0 ≤ (x14_2 : Int) := oda; have q541 : x14_2 < (x6_1.length : Int) := oda; obtain ⟨ad541, e541, hx541_0, hx541_1, hx541_2⟩ := at_T39 (Kd.R_reads' HO_6.out).2.2 x14_2 p541 q541; obtain rfl : ad538 = ad541 := (by injection e541); replace p541 := eq_true p541; replace q541 := eq_true q541) | ((with_reducible refine gate_callee (f := 29) rfl ?_); refine goesL_ (some 96) rfl rfl Try.func29 (by kernel_rfl) rfl #[.int .i64 t522, .int .i64 ((rd_T39 x6_1 x14_2).f2), .int .i64 t520] rfl (by (try simp only [List.map_toArray, List.map_cons, List.map_nil]); first | done | rfl | (simp only [List.length_drop, List.length_take]; rfl)) ?_; (with_reducible refine (share_Ceil.calls k2 t522 ((rd_T39 x6_1 x14_2).f2) t520 t542 t543 _ A38.out).mono ?_); rintro e w' ⟨rfl, ⟨nd, rfl⟩⟩; refine ⟨_, rfl, ?_⟩))
            (try simp only [Act.put, List.setIfInBounds_toArray, List.set_cons_zero, List.set_cons_succ])
            go_cut [114] (fun v114 wc => ∃ (kq : Nat) (x114_38 : Bool), v114 = .bool x114_38 ∧ Aside0 (worldmintlaw14_LotsMixed.j2 kq x6_1 t520 t522 t523 x14_2 x114_38 = some r) ∧ Aside0 (kq ≤ k2) ∧ Aside0 (Kd.R k39 39 wc w.heap.size (fun k_ => some k_ ≠ ((.slice Ao41 t523.length co41) : Value).ownBlock) (.slice (some ad538) x6_1.length co28) x6_1) ∧ Aside0 (Kd.R k39 39 wc w.heap.size (fun k_ => some k_ ≠ ((.slice (some ad538) x6_1.length co28) : Value).ownBlock) (.slice Ao41 t523.length co41) t523) ∧ Aside0 (Kd.C k39 wc A40 y530.length y530) ∧ Aside0 (Below w.heap.size w wc))
            case first =>
             have H := HC39.out
             clear HC39
             by_cases c45 : t540 = 0
             ·rw [if_pos c45] at H
              have c45b0 : (t540 == 0) = true := beq_iff_eq.mpr c45
              have c45b1 : (t540 != 0) = false := bne_eq_false_iff_eq.mpr c45
              clear c45
              (first | rw [c45b0] | (simp only [i64_w, i32_w]; rw [c45b0]) | skip)
              by_cases c46 : t543 = 0
              ·rw [if_pos c46] at H
               have c46b0 : (t543 == 0) = true := beq_iff_eq.mpr c46
               have c46b1 : (t543 != 0) = false := bne_eq_false_iff_eq.mpr c46
               clear c46
               by_cases c47 : t537 < t539
               ·rw [if_pos c47] at H
                have c47b0 : decide (t537 < t539) = true := decide_eq_true c47
                clear c47
                have H' := Aside0.mk H
                clear H
                go_wp2
                go_meet
                case rel => exact ⟨_, (true), eqs, H', ⟨by have := HK1.out; have := HK2.out; first | omega | exact Nat.le_refl _⟩, ⟨by (with_reducible repeat (first | apply Kd.R_alloc | apply Kd.R_drewN | apply Kd.R_drew)); exact Kd.R_mono HO_6.out (fun _ hk => hk.1)⟩, ⟨by (with_reducible repeat (first | apply Kd.R_alloc | apply Kd.R_drewN | apply Kd.R_drew)); exact Kd.R_mono HO_11.out (fun _ hk => hk.1)⟩, ⟨by repeat (first | (with_reducible exact HR533.out) | (with_reducible refine Kd.C_alloc ?_ _) | (with_reducible refine Kd.C_drewN ?_ _) | (with_reducible refine Kd.C_drew ?_) | exact HR533.out)⟩, ⟨bw⟩⟩
               ·rw [if_neg c47] at H
                have c47b0 : decide (t537 < t539) = false := decide_eq_false c47
                clear c47
                have H' := Aside0.mk H
                clear H
                go_wp2
                go_meet
                case rel => exact ⟨_, (decide (t537 > t542)), eqs, H', ⟨by have := HK1.out; have := HK2.out; first | omega | exact Nat.le_refl _⟩, ⟨by (with_reducible repeat (first | apply Kd.R_alloc | apply Kd.R_drewN | apply Kd.R_drew)); exact Kd.R_mono HO_6.out (fun _ hk => hk.1)⟩, ⟨by (with_reducible repeat (first | apply Kd.R_alloc | apply Kd.R_drewN | apply Kd.R_drew)); exact Kd.R_mono HO_11.out (fun _ hk => hk.1)⟩, ⟨by repeat (first | (with_reducible exact HR533.out) | (with_reducible refine Kd.C_alloc ?_ _) | (with_reducible refine Kd.C_drewN ?_ _) | (with_reducible refine Kd.C_drew ?_) | exact HR533.out)⟩, ⟨bw⟩⟩
              ·rw [if_neg c46] at H
               have c46b0 : (t543 == 0) = false := beq_eq_false_iff_ne.mpr c46
               have c46b1 : (t543 != 0) = true := bne_iff_ne.mpr c46
               have H' := Aside0.mk H
               clear H
               go_wp2
               go_meet
               case rel => exact ⟨_, (true), eqs, H', ⟨by have := HK1.out; have := HK2.out; first | omega | exact Nat.le_refl _⟩, ⟨by (with_reducible repeat (first | apply Kd.R_alloc | apply Kd.R_drewN | apply Kd.R_drew)); exact Kd.R_mono HO_6.out (fun _ hk => hk.1)⟩, ⟨by (with_reducible repeat (first | apply Kd.R_alloc | apply Kd.R_drewN | apply Kd.R_drew)); exact Kd.R_mono HO_11.out (fun _ hk => hk.1)⟩, ⟨by repeat (first | (with_reducible exact HR533.out) | (with_reducible refine Kd.C_alloc ?_ _) | (with_reducible refine Kd.C_drewN ?_ _) | (with_reducible refine Kd.C_drew ?_) | exact HR533.out)⟩, ⟨bw⟩⟩
             ·rw [if_neg c45] at H
              have c45b0 : (t540 == 0) = false := beq_eq_false_iff_ne.mpr c45
              have c45b1 : (t540 != 0) = true := bne_iff_ne.mpr c45
              (first | rw [c45b0] | (simp only [i64_w, i32_w]; rw [c45b0]) | skip)
              have H' := Aside0.mk H
              clear H
              go_wp2
              go_meet
              case rel => exact ⟨_, (true), eqs, H', ⟨by have := HK1.out; have := HK2.out; first | omega | exact Nat.le_refl _⟩, ⟨by (with_reducible repeat (first | apply Kd.R_alloc | apply Kd.R_drewN | apply Kd.R_drew)); exact Kd.R_mono HO_6.out (fun _ hk => hk.1)⟩, ⟨by (with_reducible repeat (first | apply Kd.R_alloc | apply Kd.R_drewN | apply Kd.R_drew)); exact Kd.R_mono HO_11.out (fun _ hk => hk.1)⟩, ⟨by repeat (first | (with_reducible exact HR533.out) | (with_reducible refine Kd.C_alloc ?_ _) | (with_reducible refine Kd.C_drewN ?_ _) | (with_reducible refine Kd.C_drew ?_) | exact HR533.out)⟩, ⟨bw⟩⟩
            case rest =>
             clear HC39
             try clear c1
             try clear c5
             try clear c5b0
             try clear c6
             try clear c6b0
             try clear c7
             try clear c13
             try clear c13b0
             try clear c13b1
             try clear c14
             try clear c14b0
             try clear c14b1
             try clear c14b2
             try clear c26
             try clear c26b0
             try clear c26b1
             try clear c31
             try clear c31b0
             try clear c32
             try clear c32b0
             try clear c32b1
             try clear c33
             try clear c33b0
             try clear c33b1
             try clear c34
             try clear c34b0
             try clear c34b1
             try clear c40
             try clear q40
             try clear c45
             try clear c45b0
             try clear c45b1
             try clear c46
             try clear c46b0
             try clear c46b1
             try clear c47
             try clear c47b0
             try clear hcz10_0
             try clear hcz10_1
             try clear hcz10_2
             try clear hfz10_0
             try clear hfz10_1
             try clear hfz10_2
             try clear hx515_0
             try clear hx515_1
             try clear hx515_2
             try clear hx538_0
             try clear hx538_1
             try clear hx538_2
             try clear hx541_0
             try clear hx541_1
             try clear hx541_2
             try clear p515
             try clear p538
             try clear p541
             try clear q040
             try clear q40
             try clear q515
             try clear q538
             try clear q541
             obtain ⟨kq, x114_38, rfl, HA, HJ38, HO_6, HO_11, HR533, HB⟩ := hcut
             cases kq with
             | zero => exact absurd HA.out (by simp [worldmintlaw14_LotsMixed.j2])
             | succ kj38 =>
              have H := HA.out
              clear HA
              simp only [worldmintlaw14_LotsMixed.j2] at H
              by_cases c48 : x114_38 = true
              ·subst c48
               have H1 : (some false) = some r := by rw [if_pos rfl] at H; exact H
               clear H
               have H := H1
               clear H1
               obtain rfl := Option.some.inj H
               go_wp2
               go_ret
               exact ⟨by first | rfl | (simp [errW_none, errW_some] <;> rfl) | (simp only [← hji23]; first | rfl | (simp [errW_none, errW_some] <;> rfl)) | (simp [*, errW_none, errW_some] <;> rfl), bw⟩
              ·replace c48 := Bool.eq_false_iff.mpr c48
               subst c48
               have H1 : (worldmintlaw14_LotsMixed.l1 kj38 x6_1 t520 t522 t523 (wrap64 (x14_2 + 1))) = some r := by rw [if_neg (show ¬ (false = true) by decide)] at H; exact H
               clear H
               have H := H1
               clear H1
               have H' := Aside0.mk H
               clear H
               go_wp2
               go_roundg kj38
               case measure => have := HK1.out; have := HK2.out; have := HJ38.out; omega
               case rel => exact ⟨(wrap64 (x14_2 + 1)), eqs, H', ⟨by have := HK1.out; have := HK2.out; have := HJ38.out; omega⟩, ⟨kr HO_6.out⟩, ⟨kr HO_11.out⟩, ⟨bw⟩⟩
           ·rw [if_neg c34] at H
            exact absurd H (by simp)
          ·rw [if_neg c33] at H
           exact absurd H (by simp)
         ·rw [if_neg c32] at H
          exact absurd H (by simp)
        ·rw [if_neg c31] at H
         have c31b0 : decide (x14_2 < (x6_1.length : Int)) = false := decide_eq_false c31
         clear c31
         replace H := Option.bind_eq_some_iff.mp H
         obtain ⟨t544, A490, H⟩ := H
         replace H : (some t544) = some r := H
         have A49 := Aside0.mk A490
         clear A490
         obtain rfl := Option.some.inj H
         go_wp2_with (first | ((with_reducible refine gate_callee (f := 19) rfl ?_); refine goesL_ (some 115) rfl rfl Try.func19 (by kernel_rfl) rfl #[] rfl (by (try simp only [List.map_toArray, List.map_cons, List.map_nil]); first | done | rfl | (simp only [List.length_drop, List.length_take]; rfl)) ?_; (with_reducible refine (worldmintlaw14_lives.calls k2  t544 _ A49.out).mono ?_); rintro e w50 ⟨rfl, hb⟩; refine ⟨_, rfl, ?_⟩; have n0_ := Aside0.mk (Kd.R_below (kr HO_6.out) hb); have n1_ := Aside0.mk (Kd.R_below (kr HO_11.out) hb); have n2_ := Aside0.mk (below_step (bw) hb); clear HO_6; clear HO_11; clear HB; have HO_6 := n0_; have HO_11 := n1_; have HB := n2_; clear n0_ n1_ n2_; (try clear hb); (try clear hb2); (try clear hk); (try clear hi)))
         go_ret
         exact ⟨by first | rfl | (simp [errW_none, errW_some] <;> rfl) | (simp only [← hji23]; first | rfl | (simp [errW_none, errW_some] <;> rfl)) | (simp [*, errW_none, errW_some] <;> rfl), bw⟩
     ·rw [if_neg c26] at H
      have c26b0 : (t525 == 0) = false := beq_eq_false_iff_ne.mpr c26
      have c26b1 : (t525 != 0) = true := bne_iff_ne.mpr c26
      obtain rfl := Option.some.inj H
      obtain ⟨Ao51, co51, eo51⟩ := Kd.R_slice HO_5.out
      subst eo51
      obtain ⟨Ao52, co52, eo52⟩ := Kd.R_slice HO_6.out
      subst eo52
      go_wp2_with (first | ((with_reducible refine gate_callee (f := 24) rfl ?_); refine goesL_ (some 40) rfl rfl Try.func24 (by kernel_rfl) rfl #[.slice Ao52 x6_1.length co52] rfl (by (try simp only [List.map_toArray, List.map_cons, List.map_nil]); first | done | rfl | (simp only [List.length_drop, List.length_take]; rfl)) ?_; (with_reducible refine (lots_Total.calls k1 _ _ x6_1 t520 _ ?side1 ?side2 A12.out).mono ?_); (case side1 => repeat (first | exact (Kd.R_reads' HO_6.out).2.2 | (with_reducible refine Kd.C_alloc ?_ _) | (with_reducible refine Kd.C_drewN ?_ _) | (with_reducible refine Kd.C_drew ?_))); (case side2 => exact (Kd.R_reads' HO_6.out).2.1); rintro e w53 ⟨rfl, hb⟩; refine ⟨_, rfl, ?_⟩; have n0_ := Aside0.mk (Kd.R_below (kr HO_5.out) hb); have n1_ := Aside0.mk (Kd.R_below (kr HO_6.out) hb); have n2_ := Aside0.mk (below_step (bw) hb); clear HO_5; clear HO_6; clear HB; have HO_5 := n0_; have HO_6 := n1_; have HB := n2_; clear n0_ n1_ n2_; (try clear hb); (try clear hb2); (try clear hk); (try clear hi)) | ((with_reducible refine gate_callee (f := 14) rfl ?_); refine goesL_ (some 53) rfl rfl Try.func14 (by kernel_rfl) rfl #[.int .i64 a1, .int .i64 (wrap64 ((ji23) + 1))] rfl (by (try simp only [List.map_toArray, List.map_cons, List.map_nil]); first | done | (simp only [hji23]; rfl) | rfl | (simp only [List.length_drop, List.length_take]; rfl)) ?_; (with_reducible refine (worldmintref03_Around.calls a1 (wrap64 ((ji23) + 1)) t522 _ A24.out).mono ?_); rintro e w' ⟨rfl, ⟨nd, rfl⟩⟩; refine ⟨_, rfl, ?_⟩) | ((with_reducible refine gate_callee (f := 16) rfl ?_); refine goesL_ (some 57) rfl rfl Try.func16 (by kernel_rfl) rfl #[.slice Ao52 x6_1.length co52, .int .i64 t522, .bool true] rfl (by (try simp only [List.map_toArray, List.map_cons, List.map_nil]); first | done | rfl | (simp only [List.length_drop, List.length_take]; rfl)) ?_; (with_reducible refine (lots_Take.calls k1 _ _ x6_1 t522 true t523 t524 t525 _ ?side1 ?side2 A25.out).mono ?_); (case side1 => repeat (first | exact (Kd.R_reads' HO_6.out).2.2 | (with_reducible refine Kd.C_alloc ?_ _) | (with_reducible refine Kd.C_drewN ?_ _) | (with_reducible refine Kd.C_drew ?_))); (case side2 => exact (Kd.R_reads' HO_6.out).2.1); rintro e w54 ⟨v526, v528, rfl, ho0, ho1, hb⟩; refine ⟨_, rfl, ?_⟩; have n0_ := Aside0.mk (Kd.R_mono (Kd.R_told (Kd.R_told (Kd.R_old (kr HO_5.out) hb) (Kd.R_base ho0)) (Kd.R_base ho1)) (fun _ h_ => h_.1)); have n1_ := Aside0.mk (Kd.R_mono (Kd.R_told (Kd.R_told (Kd.R_old (kr HO_6.out) hb) (Kd.R_base ho0)) (Kd.R_base ho1)) (fun _ h_ => h_.1)); have n2_ := Aside0.mk (Kd.R_lower (Kd.R_new' (Kd.R_new' ho0 (Kd.R_lt (kr HO_5.out))) (Kd.R_lt (kr HO_6.out))) (below_size (bw))); have n3_ := Aside0.mk (Kd.R_lower (Kd.R_new' (Kd.R_new' ho1 (Kd.R_lt (kr HO_5.out))) (Kd.R_lt (kr HO_6.out))) (below_size (bw))); have n4_ := Aside0.mk (below_step (bw) hb); clear HO_5; clear HO_6; clear HB; have HO_5 := n0_; have HO_6 := n1_; have HO527 := n2_; have HO529 := n3_; have HB := n4_; clear n0_ n1_ n2_ n3_ n4_; (try clear hb); (try clear hb2); (try clear hk); (try clear hi); (try clear ho0); (try clear ho1)))
      go_ret
      exact ⟨by first | rfl | (simp [errW_none, errW_some] <;> rfl) | (simp only [← hji23]; first | rfl | (simp [errW_none, errW_some] <;> rfl)) | (simp [*, errW_none, errW_some] <;> rfl), bw⟩
/-- THE ONE PURE STATEMENT of worldmintlaw14_LotsMixed: yours. -/
theorem worldmintlaw14_LotsMixed.walk (P : worldmintlaw14_LotsMixed.Pure) (a0 : Option Addr) (len0 cap0 : Nat) (z0 : List Int) (a1 : Int) (w : World) (w0 : (a0 = none ∧ len0 = 0 ∧ cap0 = 0 ∧ z0 = []) ∨ ∃ x, a0 = some x ∧ len0 ≤ cap0 ∧ cap0 ≤ maxLen ∧ z0.length = cap0 ∧ (∀ i, i < z0.length → w.cell? (x.add i) = some (.int .i64 (z0.getD i 0))) ∧ ∀ n ∈ z0, (Lit.int .i64 n).wf = true) (y0 : len0 * 8 ≤ 140737488351232) (w1 : (Lit.int .i64 a1).wf = true) :
  Calls Try.prog 6 #[.slice a0 len0 cap0, .int .i64 a1] w fun e w' => e = .returned (.bool true) ∧ Below w.heap.size w w' := by
 obtain ⟨l0, rfl, hr0, hm0, hw0, hc0⟩ := ReadsInt.ofRowC w0
 obtain ⟨k, h⟩ := P l0 a1 hm0 y0 hw0 w1
 refine (worldmintlaw14_LotsMixed.calls k _ _ l0 a1 true w (Kd.C_of_reads (d := (0 : Int)) (h1 := fun _ => rfl) hr0) hc0 h).mono ?_
 rintro e w' ⟨rfl, hd⟩
 exact ⟨rfl, hd⟩
end Go.Proofs.Ytcicjbgfahdejaa.P
