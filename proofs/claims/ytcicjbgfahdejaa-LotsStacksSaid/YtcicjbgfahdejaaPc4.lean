-- Written by a program of this session (wip/tools), out of the translation. Not trusted: Lean checks it.
import Derived.Test.YtcicjbgfahdejaaPx1
import Derived.Test.YtcicjbgfahdejaaPD
namespace Go.Proofs.Ytcicjbgfahdejaa.P
open Go.RowKit Go.Proofs.YtcicjbgfahdejaaW.PrintWords Go.Proofs.YtcicjbgfahdejaaW.PrintLast Go.Proofs.YtcicjbgfahdejaaW.PrintMore
attribute [local go_sem] max2_int min2_int max_two min_two max_three min_three max_four min_four   -- for this text's walks alone
set_option linter.unusedVariables false
set_option linter.unusedSimpArgs false

/-! ### lots_set -/
def lots_set.T8 : Bool × List (List Nat × List Nat) := (true, [([], []), ([0], [0]), ([1], [1]), ([2], [2]), ([2], [2]), ([4, 2], [2, 4]), ([3, 5, 2], [2, 3, 5]), ([6, 2], [2, 6]), ([7, 2], [2, 7]), ([2], [2]), ([9, 2], [2, 9]), ([8, 10, 2], [2, 8, 10]), ([2, 11], [2, 11]), ([12, 2], [12]), ([13], [13]), ([14, 13], [13, 14]), ([13], [13]), ([13], [13]), ([17, 13], [13, 17]), ([16, 18, 13], [13, 16, 18]), ([19, 13], [13, 19]), ([20, 13, 13], [13, 20]), ([15, 21, 13], [13, 15, 21]), ([13, 22], [13, 22])])
def lots_set.B8 : List Nat := [0, 1, 3, 7, 7, 23, 63, 127, 255, 7, 519, 2047, 4095, 8191, 16383, 32767, 16383, 16383, 147455, 475135, 999423, 2047999, 4194303, 8388607]
theorem lots_set.tab8 : rtab .any (opsOf Try.f61 8) = lots_set.T8 := by kernel_rfl
theorem lots_set.bits8 : waitsOk lots_set.T8.2 lots_set.B8 = true := by kernel_rfl
def lots_set.T9 : Bool × List (List Nat × List Nat) := (true, [([], []), ([], []), ([1], [1]), ([], []), ([], []), ([4], [4]), ([3, 5], [3, 5]), ([6], [6]), ([7], [7]), ([], []), ([9, 8], [9]), ([8, 10], [8, 10]), ([], []), ([], []), ([13], [13]), ([12, 14], [12, 14]), ([15], [15]), ([16], [16]), ([11, 17], [11, 17]), ([0, 2, 0, 1, 2, 3, 4, 5, 6, 7, 8, 9, 10, 11, 12, 13, 14, 15, 16, 17, 18], [0, 2]), ([19, 0, 1, 2, 3, 4, 5, 6, 7, 8, 9, 10, 11, 12, 13, 14, 15, 16, 17, 18], [19]), ([20, 18, 10, 0, 1, 2, 3, 4, 5, 6, 7, 8, 9, 10, 11, 12, 13, 14, 15, 16, 17, 18], [18, 20])])
def lots_set.B9 : List Nat := [0, 0, 2, 0, 0, 16, 56, 120, 248, 0, 1016, 2040, 0, 0, 8192, 28672, 61440, 126976, 262136, 524287, 1048575, 2097151]
theorem lots_set.tab9 : rtab .any (opsOf Try.f61 9) = lots_set.T9 := by kernel_rfl
theorem lots_set.bits9 : waitsOk lots_set.T9.2 lots_set.B9 = true := by kernel_rfl
set_option maxHeartbeats 8000000 in
set_option maxRecDepth 100000 in
theorem lots_set.calls (k : Nat) (A0 : Option Addr) (c0 : Nat) (l0 : List (S39)) (r : List (S39)) (w : World) (hr0 : Kd.C k39 w A0 l0.length l0) (hc0 : l0.length ≤ c0) (h : lots_set.f k l0 = some r) :
  Calls Try.prog 61 #[.slice A0 l0.length c0] w fun e w' => ∃ v0_ : Value, e = .returned (v0_) ∧ Kd.R k39 39 w' w.heap.size (fun _ => True) v0_ r ∧ Below w.heap.size w w' := by
 have hu39 := Try.underlying39
 have HR0 := Aside0.mk hr0
 have HC0 := Aside0.mk hc0
 clear hr0 hc0
 have HB := Aside0.mk (Below.refl w.heap.size w)
 have H : ((api_Lot_59.f l0).bind fun t273 => ((api_Lot_80.f t273).bind fun t276 => (lots_set.l0 k ([] : List (S39)) t276 (t273.length : Int) 0))) = some r := h
 clear h
 replace H := Option.bind_eq_some_iff.mp H
 obtain ⟨t273, A20, H⟩ := H
 replace H : ((api_Lot_80.f t273).bind fun t276 => (lots_set.l0 k ([] : List (S39)) t276 (t273.length : Int) 0)) = some r := H
 have A2 := Aside0.mk A20
 clear A20
 replace H := Option.bind_eq_some_iff.mp H
 obtain ⟨t276, A30, H⟩ := H
 replace H : (lots_set.l0 k ([] : List (S39)) t276 (t273.length : Int) 0) = some r := H
 have A3 := Aside0.mk A30
 clear A30
 have H' := Aside0.mk H
 clear H
 go_enter Try.func61, Try.ntmps61
 go_wp2_with (first | ((with_reducible refine gate_callee (f := 59) rfl ?_); refine goesL_ (some 9) rfl rfl Try.func59 (by kernel_rfl) rfl #[.slice A0 l0.length c0] rfl (by (try simp only [List.map_toArray, List.map_cons, List.map_nil]); first | done | rfl | (simp only [List.length_drop, List.length_take]; rfl)) ?_; (with_reducible refine (api_Lot_59.calls _ _ l0 t273 _ ?side1 ?side2 A2.out).mono ?_); (case side1 => repeat (first | exact HR0.out | (with_reducible refine Kd.C_alloc ?_ _) | (with_reducible refine Kd.C_drewN ?_ _) | (with_reducible refine Kd.C_drew ?_))); (case side2 => exact HC0.out); rintro e w4 ⟨v274, rfl, ho0, hb⟩; refine ⟨_, rfl, ?_⟩; have n0_ := Aside0.mk (Kd.R_lower ho0 (below_size (bw))); have n1_ := Aside0.mk (below_step (bw) hb); clear HB; have HO275 := n0_; have HB := n1_; clear n0_ n1_; (try clear hb); (try clear hb2); (try clear hk); (try clear hi); (try clear ho0); obtain ⟨Ao5, co5, eo5⟩ := Kd.R_slice HO275.out; subst eo5) | ((with_reducible refine gate_callee (f := 80) rfl ?_); refine goesL_ (some 11) rfl rfl Try.func80 (by kernel_rfl) rfl #[.slice Ao5 t273.length co5, .func (.func 81) #[] #[]] rfl (by (try simp only [List.map_toArray, List.map_cons, List.map_nil]); first | done | rfl | (simp only [List.length_drop, List.length_take]; rfl)) ?_; (with_reducible refine (api_Lot_80.calls (fun k_ => some k_ = (.slice Ao5 t273.length co5 : Value).ownBlock) (.slice Ao5 t273.length co5) t273  t276 w _ ?side1 ?side2 A3.out).mono ?_); (case side1 => repeat (first | (with_reducible first | exact HB.out | apply below_alloc | apply pw_below_drewN | apply below_drew1) | exact HB.out)); (case side2 => exact Kd.R_tight rfl HO275.out); rintro e w6 ⟨rfl, hy0, hb, hkp⟩; refine ⟨_, rfl, ?_⟩; have n0_ := Aside0.mk (Kd.R_reok rfl hy0 (fun k_ e_ => HO275.out.1 k_ e_)); have n1_ := Aside0.mk (hb); clear HO275; clear HB; have HO275 := n0_; have HB := n1_; clear n0_ n1_; (try clear hb); (try clear hkp); (try clear hy0)))
 go_loopg [4, 14] k (fun kq v4 v14 w' => ∃ (x4_1 : List (S39)) (x12_1 : List (S39)) (x14_1 : Int), v14 = .int .i64 x14_1 ∧ Aside0 (lots_set.l0 kq x4_1 x12_1 (t273.length : Int) x14_1 = some r) ∧ Aside0 (kq ≤ k) ∧ Aside0 (Kd.R k39 39 w' w.heap.size (fun k_ => some k_ ≠ ((.slice Ao5 t273.length co5) : Value).ownBlock) v4 x4_1) ∧ Aside0 (Kd.R k39 39 w' w.heap.size (fun k_ => some k_ ≠ (v4 : Value).ownBlock) (.slice Ao5 t273.length co5) x12_1) ∧ Aside0 (Below w.heap.size w w'))
 case atStart => exact ⟨(([] : List (S39))), (t276), (0), eqs, H', ⟨Nat.le_refl _⟩, ⟨by first | exact Kd.R_nil _ _ _ _ _ | exact Kd.N_nil _ _ _ _ _ | exact Kd.V_nil _ _ _ _ _ | exact Kd.Q_nil _ _ _ _ _ | exact Kd.S_nil _ _ _ _ _⟩, ⟨by (with_reducible repeat (first | apply Kd.R_alloc | apply Kd.R_drewN | apply Kd.R_drew)); exact Kd.R_mono HO275.out (fun _ hk => (by simp [Value.ownBlock]))⟩, ⟨bw⟩⟩
 case round =>
  clear H'
  obtain ⟨x4_1, x12_1, x14_1, rfl, HA, HK1, HO_4, HO_12, HB⟩ := hrel
  have hl12_1 := (Kd.R_reads' HO_12.out).1
  rw [hl12_1] at HO_12
  (try simp only [hl12_1])
  (try simp only [hl12_1] at HO_4)
  cases gk with
  | zero => exact absurd HA.out (by simp [lots_set.l0])
  | succ k1 =>
   have H := HA.out
   clear HA
   simp only [lots_set.l0] at H
   by_cases c7 : x14_1 < (t273.length : Int)
   ·rw [if_pos c7] at H
    have c7b0 : decide (x14_1 < (t273.length : Int)) = true := decide_eq_true c7
    clear c7
    (try simp only [hl12_1] at c7b0)
    by_cases c8 : 0 ≤ x14_1
    ·rw [if_pos c8] at H
     have c8b0 : decide (0 ≤ x14_1) = true := decide_eq_true c8
     clear c8
     by_cases c9 : x14_1 < (x12_1.length : Int)
     ·rw [if_pos c9] at H
      have c9b0 : decide (x14_1 < (x12_1.length : Int)) = true := decide_eq_true c9
      clear c9
      (try simp only [hl12_1] at c9b0)
      have HC10 := Aside0.mk H
      clear H
      have p277 : 0 ≤ (x14_1 : Int) := oda
      have q277 : x14_1 < (x12_1.length : Int) := oda
      obtain ⟨ad277, e277, hx277_0, hx277_1, hx277_2⟩ := at_T39 (Kd.R_reads' HO_12.out).2.2 x14_1 p277 q277
      cases e277
      replace p277 := eq_true p277
      replace q277 := eq_true q277
      go_upto_region 8 with (first | ((with_reducible refine gate_dst (N := 6) rfl ?_); refine box_event ?hg (N := 6) ?hd (cs := #[.int .i64 0, .int .i64 0, .int .i64 0]) (t := 39) ?hr ?_; (case hd => rfl); (case hg => rfl); (case hr => first | (go_simp; done) | (go_simp; rfl)); intro gb278 hg w11 hbox hb; have n0_ := Aside0.mk (Kd.R_below (Kd.R_elderB (kr HO_4.out) gb278 (Nat.le_of_eq hg.symm)) hb); have n1_ := Aside0.mk (Kd.R_below (Kd.R_elderB (kr HO_12.out) gb278 (Nat.le_of_eq hg.symm)) hb); have n2_ := Aside0.mk (below_step (bw) hb); have n3_ := Aside0.mk (hbox); have n4_ := Aside0.mk ((by rw [hg]; exact (below_size (bw)) : w.heap.size ≤ gb278)); have n5_ := Aside0.mk ((by rw [hg]; exact (below_size (bw)) : w.heap.size ≤ gb278)); clear HO_4; clear HO_12; clear HB; have HO_4 := n0_; have HO_12 := n1_; have HB := n2_; have BK278 := n3_; have GW278 := n4_; have GE278 := n5_; clear n0_ n1_ n2_ n3_ n4_ n5_; clear hb hbox hg; have hcz12_0 : w11.cell? ⟨gb278, 0, none⟩ = some (.int .i64 0) := (blk_cell BK278.out 0).trans rfl; have hcz12_1 : w11.cell? ⟨gb278, 1, none⟩ = some (.int .i64 0) := (blk_cell BK278.out 1).trans rfl; have hcz12_2 : w11.cell? ⟨gb278, 2, none⟩ = some (.int .i64 0) := (blk_cell BK278.out 2).trans rfl; have hfz12_0 := blk_frozen BK278.out 0; have hfz12_1 := blk_frozen BK278.out 1; have hfz12_2 := blk_frozen BK278.out 2; obtain ⟨Ao13, co13, eo13⟩ := Kd.R_slice HO_4.out; subst eo13))
      (try simp only [Act.put, List.setIfInBounds_toArray, List.set_cons_zero, List.set_cons_succ])
      go_cut [43] (fun v43 wc => ∃ (kq : Nat) (x43_9 : Bool), v43 = .bool x43_9 ∧ Aside0 (lots_set.j1 kq x4_1 (x4_1.length : Int) x12_1 (t273.length : Int) x14_1 x43_9 ((rd_T39 x12_1 x14_1).f0) ((rd_T39 x12_1 x14_1).f1) ((rd_T39 x12_1 x14_1).f2) = some r) ∧ Aside0 (kq ≤ k1) ∧ Aside0 (Kd.R k39 39 wc w.heap.size (fun k_ => some k_ ≠ ((.slice (some ad277) x12_1.length co5) : Value).ownBlock ∧ k_ ≠ gb278) (.slice Ao13 x4_1.length co13) x4_1) ∧ Aside0 (Kd.R k39 39 wc w.heap.size (fun k_ => some k_ ≠ ((.slice Ao13 x4_1.length co13) : Value).ownBlock ∧ k_ ≠ gb278) (.slice (some ad277) x12_1.length co5) x12_1) ∧ Aside0 (wc.heap[gb278]? = some (.cells #[.int .i64 ((rd_T39 x12_1 x14_1).f0), .int .i64 ((rd_T39 x12_1 x14_1).f1), .int .i64 ((rd_T39 x12_1 x14_1).f2)] 39 (0, 0))) ∧ Aside0 (Below w.heap.size w wc))
      case first =>
       have H := HC10.out
       clear HC10
       by_cases c14 : (x4_1.length : Int) > 0
       ·rw [if_pos c14] at H
        have c14b0 : decide (0 < (x4_1.length : Int)) = true := decide_eq_true c14
        have c14b1 : decide (0 < x4_1.length) = true := decide_eq_true (by omega)
        clear c14
        (first | rw [c14b0] | (simp only [i64_w, i32_w]; rw [c14b0]) | skip)
        obtain ⟨ji15, hji15⟩ : ∃ j_ : Int, (wrap64 ((x4_1.length : Int) - 1)) = j_ := ⟨_, rfl⟩
        replace H : (if 0 ≤ (ji15) then (if (ji15) < (x4_1.length : Int) then (if ((rd_T39 x4_1 (ji15)).f0) = ((rd_T39 x12_1 x14_1).f0) then ((lots_end.f ((rd_T39 x4_1 (ji15)).f0) ((rd_T39 x4_1 (ji15)).f1) ((rd_T39 x4_1 (ji15)).f2)).bind fun t281 => (lots_set.j1 k1 x4_1 (x4_1.length : Int) x12_1 (t273.length : Int) x14_1 (decide (((rd_T39 x12_1 x14_1).f1) ≤ t281)) ((rd_T39 x12_1 x14_1).f0) ((rd_T39 x12_1 x14_1).f1) ((rd_T39 x12_1 x14_1).f2))) else (lots_set.j1 k1 x4_1 (x4_1.length : Int) x12_1 (t273.length : Int) x14_1 false ((rd_T39 x12_1 x14_1).f0) ((rd_T39 x12_1 x14_1).f1) ((rd_T39 x12_1 x14_1).f2))) else (none)) else (none)) = some r := by first | (rw [hji15] at H; exact H) | (simp only [hji15] at H ⊢; exact H)
        have hji15w : (IntKind.i64.wrap ((x4_1.length : Int) - 1)) = ji15 := (i64_w _).trans hji15
        by_cases c16 : 0 ≤ (ji15)
        ·rw [if_pos c16] at H
         have c16b0 : decide (0 ≤ (ji15)) = true := decide_eq_true c16
         clear c16
         by_cases c17 : (ji15) < (x4_1.length : Int)
         ·rw [if_pos c17] at H
          have c17b0 : decide ((ji15) < (x4_1.length : Int)) = true := decide_eq_true c17
          clear c17
          (try simp only [hl12_1] at c17b0)
          by_cases c18 : ((rd_T39 x4_1 (ji15)).f0) = ((rd_T39 x12_1 x14_1).f0)
          ·rw [if_pos c18] at H
           have c18b0 : (((rd_T39 x4_1 (ji15)).f0) == ((rd_T39 x12_1 x14_1).f0)) = true := beq_iff_eq.mpr c18
           have c18b1 : (((rd_T39 x4_1 (ji15)).f0) != ((rd_T39 x12_1 x14_1).f0)) = false := bne_eq_false_iff_eq.mpr c18
           clear c18
           replace H := Option.bind_eq_some_iff.mp H
           obtain ⟨t281, A190, H⟩ := H
           replace H : (lots_set.j1 k1 x4_1 (x4_1.length : Int) x12_1 (t273.length : Int) x14_1 (decide (((rd_T39 x12_1 x14_1).f1) ≤ t281)) ((rd_T39 x12_1 x14_1).f0) ((rd_T39 x12_1 x14_1).f1) ((rd_T39 x12_1 x14_1).f2)) = some r := H
           have A19 := Aside0.mk A190
           clear A190
           have H' := Aside0.mk H
           clear H
           try go_wp2
           have n0_ : Aside0 (Kd.R k39 39 (((w11.setCell ⟨gb278, 0, none⟩ (.int .i64 ((rd_T39 x12_1 x14_1).f0))).setCell ⟨gb278, 1, none⟩ (.int .i64 ((rd_T39 x12_1 x14_1).f1))).setCell ⟨gb278, 2, none⟩ (.int .i64 ((rd_T39 x12_1 x14_1).f2))) w.heap.size (fun k_ => some k_ ≠ (.slice (some ad277) x12_1.length co5 : Value).ownBlock ∧ k_ ≠ gb278) (.slice Ao13 x4_1.length co13) x4_1) := ⟨by (with_reducible repeat (first | apply Kd.R_alloc | apply Kd.R_drewN | apply Kd.R_drew)); exact Kd.R_mono (Kd.R_far (p := ⟨gb278, 2, none⟩) (Kd.R_far (p := ⟨gb278, 1, none⟩) (Kd.R_far (p := ⟨gb278, 0, none⟩) (Kd.R_mono HO_4.out (fun k_ hk => (⟨hk, hk.2⟩ : _ ∧ k_ ≠ gb278))) (fun _ hk => hk.2) (.int .i64 ((rd_T39 x12_1 x14_1).f0))) (fun _ hk => hk.2) (.int .i64 ((rd_T39 x12_1 x14_1).f1))) (fun _ hk => hk.2) (.int .i64 ((rd_T39 x12_1 x14_1).f2))) (fun _ hk => ⟨hk.1.1, hk.1.2⟩)⟩
           have n1_ : Aside0 (Kd.R k39 39 (((w11.setCell ⟨gb278, 0, none⟩ (.int .i64 ((rd_T39 x12_1 x14_1).f0))).setCell ⟨gb278, 1, none⟩ (.int .i64 ((rd_T39 x12_1 x14_1).f1))).setCell ⟨gb278, 2, none⟩ (.int .i64 ((rd_T39 x12_1 x14_1).f2))) w.heap.size (fun k_ => some k_ ≠ (.slice Ao13 x4_1.length co13 : Value).ownBlock ∧ k_ ≠ gb278) (.slice (some ad277) x12_1.length co5) x12_1) := ⟨by (with_reducible repeat (first | apply Kd.R_alloc | apply Kd.R_drewN | apply Kd.R_drew)); exact Kd.R_mono (Kd.R_far (p := ⟨gb278, 2, none⟩) (Kd.R_far (p := ⟨gb278, 1, none⟩) (Kd.R_far (p := ⟨gb278, 0, none⟩) (Kd.R_mono HO_12.out (fun k_ hk => (⟨hk, hk.2⟩ : _ ∧ k_ ≠ gb278))) (fun _ hk => hk.2) (.int .i64 ((rd_T39 x12_1 x14_1).f0))) (fun _ hk => hk.2) (.int .i64 ((rd_T39 x12_1 x14_1).f1))) (fun _ hk => hk.2) (.int .i64 ((rd_T39 x12_1 x14_1).f2))) (fun _ hk => ⟨hk.1.1, hk.1.2⟩)⟩
           have n2_ : Aside0 ((((w11.setCell ⟨gb278, 0, none⟩ (.int .i64 ((rd_T39 x12_1 x14_1).f0))).setCell ⟨gb278, 1, none⟩ (.int .i64 ((rd_T39 x12_1 x14_1).f1))).setCell ⟨gb278, 2, none⟩ (.int .i64 ((rd_T39 x12_1 x14_1).f2))).heap[gb278]? = some (.cells #[.int .i64 ((rd_T39 x12_1 x14_1).f0), .int .i64 ((rd_T39 x12_1 x14_1).f1), .int .i64 ((rd_T39 x12_1 x14_1).f2)] 39 (0, 0))) := ⟨by (with_reducible repeat (first | refine blk_drewN ?_ _ | refine blk_drew ?_ | refine blk_alloc ?_ _)); refine blk_put (cs := #[.int .i64 ((rd_T39 x12_1 x14_1).f0), .int .i64 ((rd_T39 x12_1 x14_1).f1), .int .i64 0]) ?_ 2 _ rfl; (with_reducible repeat (first | refine blk_drewN ?_ _ | refine blk_drew ?_ | refine blk_alloc ?_ _)); refine blk_put (cs := #[.int .i64 ((rd_T39 x12_1 x14_1).f0), .int .i64 0, .int .i64 0]) ?_ 1 _ rfl; (with_reducible repeat (first | refine blk_drewN ?_ _ | refine blk_drew ?_ | refine blk_alloc ?_ _)); refine blk_put (cs := #[.int .i64 0, .int .i64 0, .int .i64 0]) ?_ 0 _ rfl; (with_reducible repeat (first | refine blk_drewN ?_ _ | refine blk_drew ?_ | refine blk_alloc ?_ _)); exact BK278.out⟩
           have n3_ : Aside0 (Below w.heap.size w (((w11.setCell ⟨gb278, 0, none⟩ (.int .i64 ((rd_T39 x12_1 x14_1).f0))).setCell ⟨gb278, 1, none⟩ (.int .i64 ((rd_T39 x12_1 x14_1).f1))).setCell ⟨gb278, 2, none⟩ (.int .i64 ((rd_T39 x12_1 x14_1).f2)))) := ⟨by repeat (first | (with_reducible first | exact HB.out | apply below_alloc | apply pw_below_drewN | apply below_drew1 | refine below_set ?_ GE278.out) | exact HB.out)⟩
           (try clear HO_4)
           (try clear HO_12)
           (try clear BK278)
           (try clear HB)
           generalize (((w11.setCell ⟨gb278, 0, none⟩ (.int .i64 ((rd_T39 x12_1 x14_1).f0))).setCell ⟨gb278, 1, none⟩ (.int .i64 ((rd_T39 x12_1 x14_1).f1))).setCell ⟨gb278, 2, none⟩ (.int .i64 ((rd_T39 x12_1 x14_1).f2))) = w20 at n0_ n1_ n2_ n3_ ⊢
           have HO_4 := n0_
           have HO_12 := n1_
           have BK278 := n2_
           have HB := n3_
           clear n0_ n1_ n2_ n3_
           have n0_ := Aside0.mk (Kd.R_drew HO_4.out)
           have n1_ := Aside0.mk (Kd.R_drew HO_12.out)
           have n2_ := Aside0.mk (blk_drew BK278.out)
           have n3_ := Aside0.mk (below_drew1 HB.out)
           clear HO_4
           clear HO_12
           clear BK278
           clear HB
           have HO_4 := n0_
           have HO_12 := n1_
           have BK278 := n2_
           have HB := n3_
           clear n0_ n1_ n2_ n3_
           have p279 : 0 ≤ ((ji15) : Int) := oda
           have q279 : (ji15) < (x4_1.length : Int) := oda
           obtain ⟨ad279, e279, hx279_0, hx279_1, hx279_2⟩ := at_T39 (Kd.R_reads' HO_4.out).2.2 (ji15) p279 q279
           cases e279
           replace p279 := eq_true p279
           replace q279 := eq_true q279
           have p280 : 0 ≤ ((ji15) : Int) := oda
           have q280 : (ji15) < (x4_1.length : Int) := oda
           obtain ⟨ad280, e280, hx280_0, hx280_1, hx280_2⟩ := at_T39 (Kd.R_reads' HO_4.out).2.2 (ji15) p280 q280
           obtain rfl : ad279 = ad280 := (by injection e280)
           replace p280 := eq_true p280
           replace q280 := eq_true q280
           refine start_ (n := 24) (S := fun w' => w'.cell? ⟨gb278, 0, none⟩ = some (.int .i64 ((rd_T39 x12_1 x14_1).f0)) ∧ w'.cell? ⟨gb278, 1, none⟩ = some (.int .i64 ((rd_T39 x12_1 x14_1).f1)) ∧ w'.cell? ⟨gb278, 2, none⟩ = some (.int .i64 ((rd_T39 x12_1 x14_1).f2)) ∧ w'.cell? (ad279.add (((ji15)).toNat * 3)) = some (.int .i64 ((rd_T39 x4_1 (ji15)).f0)) ∧ w'.cell? ⟨(ad279.add (((ji15)).toNat * 3)).block, (ad279.add (((ji15)).toNat * 3)).off + 1, none⟩ = some (.int .i64 ((rd_T39 x4_1 (ji15)).f1)) ∧ w'.cell? ⟨(ad279.add (((ji15)).toNat * 3)).block, (ad279.add (((ji15)).toNat * 3)).off + 2, none⟩ = some (.int .i64 ((rd_T39 x4_1 (ji15)).f2)) ∧ w'.cell? (ad279.add (((ji15)).toNat * 3)) = some (.int .i64 ((rd_T39 x4_1 (ji15)).f0)) ∧ w'.cell? ⟨(ad279.add (((ji15)).toNat * 3)).block, (ad279.add (((ji15)).toNat * 3)).off + 1, none⟩ = some (.int .i64 ((rd_T39 x4_1 (ji15)).f1)) ∧ w'.cell? ⟨(ad279.add (((ji15)).toNat * 3)).block, (ad279.add (((ji15)).toNat * 3)).off + 2, none⟩ = some (.int .i64 ((rd_T39 x4_1 (ji15)).f2))) (ds := []) (bs 24 0) (by kernel_rfl) rfl rfl ⟨(blk_cell BK278.out 0).trans rfl, (blk_cell BK278.out 1).trans rfl, (blk_cell BK278.out 2).trans rfl, hx279_0, hx279_1, hx279_2, hx280_0, hx280_1, hx280_2⟩ (fun hHeld => ?_); refine with_tabW lots_set.tab8 lots_set.bits8 (fun HT_ HW_ => ?_)
           generalize w20.drew = w21 at HO_4 HO_12 BK278 HB hx279_0 hx279_1 hx279_2 hx280_0 hx280_1 hx280_2 hHeld ⊢
           refine pu 0 20 (bs 24 1) HT_ ?_
           refine pu 1 21 (bs 24 3) HT_ ?_
           refine pu 2 22 (bs 24 7) HT_ ?_
           refine pu 3 23 (bs 24 15) HT_ ?_
           refine pu 4 24 (bs 24 31) HT_ ?_
           refine pu 5 25 (bs 24 63) HT_ ?_
           refine pu 6 26 (bs 24 127) HT_ ?_
           refine pu 7 27 (bs 24 255) HT_ ?_
           refine pu 9 29 (bs 24 767) HT_ ?_
           refine take_ (i := 8) (N := some 28) (v := ?_) (a' := ?_) (bs 24 1023) rfl rfl (take_ofW HT_.out HW_.out (by kernel_rfl)) (fun _ _ _ h => h) (Or.inl ⟨by rfl, ?_⟩) hHeld ?_ ?_
           rotate_left
           ·rintro w' ⟨s0, s1, s2, s3, s4, s5, s6, s7, s8⟩
            go_simp
            with_reducible rfl
           rotate_left
           ·simp only [Act.put, List.setIfInBounds_toArray, List.set_cons_zero, List.set_cons_succ, i64_w, i32_w]
            rfl
           refine take_ (i := 10) (N := some 30) (v := ?_) (a' := ?_) (bs 24 2047) rfl rfl (take_ofW HT_.out HW_.out (by kernel_rfl)) (fun _ _ _ h => h) (Or.inl ⟨by rfl, ?_⟩) hHeld ?_ ?_
           rotate_left
           ·rintro w' ⟨s0, s1, s2, s3, s4, s5, s6, s7, s8⟩
            go_simp
            with_reducible rfl
           rotate_left
           ·simp only [Act.put, List.setIfInBounds_toArray, List.set_cons_zero, List.set_cons_succ, i64_w, i32_w]
            rfl
           refine pu 11 31 (bs 24 4095) HT_ ?_
           refine pu 12 32 (bs 24 8191) HT_ ?_
           refine pu 13 33 (bs 24 16383) HT_ ?_
           refine pu 14 34 (bs 24 32767) HT_ ?_
           refine pu 16 36 (bs 24 98303) HT_ ?_
           refine pu 17 37 (bs 24 229375) HT_ ?_
           refine pu 18 38 (bs 24 491519) HT_ ?_
           refine pu 19 39 (bs 24 1015807) HT_ ?_
           refine take_ (i := 15) (N := some 35) (v := ?_) (a' := ?_) (bs 24 1048575) rfl rfl (take_ofW HT_.out HW_.out (by kernel_rfl)) (fun _ _ _ h => h) (Or.inl ⟨by rfl, ?_⟩) hHeld ?_ ?_
           rotate_left
           ·rintro w' ⟨s0, s1, s2, s3, s4, s5, s6, s7, s8⟩
            go_simp
            with_reducible rfl
           rotate_left
           ·simp only [Act.put, List.setIfInBounds_toArray, List.set_cons_zero, List.set_cons_succ, i64_w, i32_w]
            rfl
           refine take_ (i := 20) (N := some 40) (v := ?_) (a' := ?_) (bs 24 2097151) rfl rfl (take_ofW HT_.out HW_.out (by kernel_rfl)) (fun _ _ _ h => h) (Or.inl ⟨by rfl, ?_⟩) hHeld ?_ ?_
           rotate_left
           ·rintro w' ⟨s0, s1, s2, s3, s4, s5, s6, s7, s8⟩
            go_simp
            with_reducible rfl
           rotate_left
           ·simp only [Act.put, List.setIfInBounds_toArray, List.set_cons_zero, List.set_cons_succ, i64_w, i32_w]
            rfl
           refine one_ (i := 21) (N := some 41) (bs 24 4194303) rfl rfl (one_of HT_.out (by kernel_rfl)) (by decide) (fun K hK => ?_)
           refine goes_ Try.func78 (by kernel_rfl) rfl #[.agg #[.int .i64 ((rd_T39 x4_1 (ji15)).f0), .int .i64 ((rd_T39 x4_1 (ji15)).f1), .int .i64 ((rd_T39 x4_1 (ji15)).f2)]] (by rfl) rfl rfl (by (try simp only [List.map_toArray, List.map_cons, List.map_nil]); first | done | (simp only [hji15]; rfl) | rfl | (simp only [List.length_drop, List.length_take]; rfl)) ?_
           with_reducible refine (lots_end.calls ((rd_T39 x4_1 (ji15)).f0) ((rd_T39 x4_1 (ji15)).f1) ((rd_T39 x4_1 (ji15)).f2) t281 _ A19.out).mono ?_
           rintro e w22 ⟨rfl, hb⟩
           have HS3_ := (hb.cell (World.block_lt_of_cell? _ _ (hHeld.2.2.2.1))).trans (hHeld.2.2.2.1)
           have HS4_ := (hb.cell (World.block_lt_of_cell? _ _ (hHeld.2.2.2.2.1))).trans (hHeld.2.2.2.2.1)
           have HS5_ := (hb.cell (World.block_lt_of_cell? _ _ (hHeld.2.2.2.2.2.1))).trans (hHeld.2.2.2.2.2.1)
           have HS6_ := (hb.cell (World.block_lt_of_cell? _ _ (hHeld.2.2.2.2.2.2.1))).trans (hHeld.2.2.2.2.2.2.1)
           have HS7_ := (hb.cell (World.block_lt_of_cell? _ _ (hHeld.2.2.2.2.2.2.2.1))).trans (hHeld.2.2.2.2.2.2.2.1)
           have HS8_ := (hb.cell (World.block_lt_of_cell? _ _ (hHeld.2.2.2.2.2.2.2.2))).trans (hHeld.2.2.2.2.2.2.2.2)
           refine ⟨_, rfl, ?_⟩
           have n0_ := Aside0.mk (Kd.R_below (kr HO_4.out) hb)
           have n1_ := Aside0.mk (Kd.R_below (kr HO_12.out) hb)
           have n2_ := Aside0.mk (blk_below (g := gb278) (o := .cells #[.int .i64 ((rd_T39 x12_1 x14_1).f0), .int .i64 ((rd_T39 x12_1 x14_1).f1), .int .i64 ((rd_T39 x12_1 x14_1).f2)] 39 (0, 0)) (kb BK278.out) hb)
           have n3_ := Aside0.mk (below_step (by repeat (first | (with_reducible first | exact HB.out | apply below_alloc | apply pw_below_drewN | apply below_drew1 | refine below_set ?_ GE278.out) | exact HB.out)) hb)
           clear HO_4
           clear HO_12
           clear BK278
           clear HB
           have HO_4 := n0_
           have HO_12 := n1_
           have BK278 := n2_
           have HB := n3_
           clear n0_ n1_ n2_ n3_
           (try clear hb)
           (try clear hb2)
           (try clear hk)
           (try clear hi)
           refine hK.out _ _ ⟨(blk_cell BK278.out 0).trans rfl, (blk_cell BK278.out 1).trans rfl, (blk_cell BK278.out 2).trans rfl, HS3_, HS4_, HS5_, HS6_, HS7_, HS8_⟩ (fun hHeld => ?_)
           clear hK K
           refine norm_ (a' := ?_) ?_ ?_
           rotate_left
           ·show Act.put _ (some 41) _ = _
            simp only [Act.put, List.setIfInBounds_toArray, List.set_cons_zero, List.set_cons_succ, i64_w, i32_w]
            rfl
           refine pu 22 42 (bs 24 8388607) HT_ ?_
           refine pu 23 43 (bs 24 16777215) HT_ ?_
           refine done_ (done_of HT_.out (by kernel_rfl)) ?_
           try go_wp2
           go_meet
           case rel => exact ⟨_, (decide (((rd_T39 x12_1 x14_1).f1) ≤ t281)), eqs, H', ⟨by have := HK1.out; first | omega | exact Nat.le_refl _⟩, ⟨by (try simp only [hl12_1]); (with_reducible repeat (first | apply Kd.R_alloc | apply Kd.R_drewN | apply Kd.R_drew)); exact HO_4.out⟩, ⟨by (try simp only [hl12_1]); (with_reducible repeat (first | apply Kd.R_alloc | apply Kd.R_drewN | apply Kd.R_drew)); exact HO_12.out⟩, ⟨by (try simp only [hl12_1]); (with_reducible repeat (first | refine blk_drewN ?_ _ | refine blk_drew ?_ | refine blk_alloc ?_ _)); exact BK278.out⟩, ⟨by repeat (first | (with_reducible first | exact HB.out | apply below_alloc | apply pw_below_drewN | apply below_drew1 | refine below_set ?_ GE278.out) | exact HB.out)⟩⟩
          ·rw [if_neg c18] at H
           have c18b0 : (((rd_T39 x4_1 (ji15)).f0) == ((rd_T39 x12_1 x14_1).f0)) = false := beq_eq_false_iff_ne.mpr c18
           have c18b1 : (((rd_T39 x4_1 (ji15)).f0) != ((rd_T39 x12_1 x14_1).f0)) = true := bne_iff_ne.mpr c18
           have H' := Aside0.mk H
           clear H
           try go_wp2
           have n0_ : Aside0 (Kd.R k39 39 (((w11.setCell ⟨gb278, 0, none⟩ (.int .i64 ((rd_T39 x12_1 x14_1).f0))).setCell ⟨gb278, 1, none⟩ (.int .i64 ((rd_T39 x12_1 x14_1).f1))).setCell ⟨gb278, 2, none⟩ (.int .i64 ((rd_T39 x12_1 x14_1).f2))) w.heap.size (fun k_ => some k_ ≠ (.slice (some ad277) x12_1.length co5 : Value).ownBlock ∧ k_ ≠ gb278) (.slice Ao13 x4_1.length co13) x4_1) := ⟨by (with_reducible repeat (first | apply Kd.R_alloc | apply Kd.R_drewN | apply Kd.R_drew)); exact Kd.R_mono (Kd.R_far (p := ⟨gb278, 2, none⟩) (Kd.R_far (p := ⟨gb278, 1, none⟩) (Kd.R_far (p := ⟨gb278, 0, none⟩) (Kd.R_mono HO_4.out (fun k_ hk => (⟨hk, hk.2⟩ : _ ∧ k_ ≠ gb278))) (fun _ hk => hk.2) (.int .i64 ((rd_T39 x12_1 x14_1).f0))) (fun _ hk => hk.2) (.int .i64 ((rd_T39 x12_1 x14_1).f1))) (fun _ hk => hk.2) (.int .i64 ((rd_T39 x12_1 x14_1).f2))) (fun _ hk => ⟨hk.1.1, hk.1.2⟩)⟩
           have n1_ : Aside0 (Kd.R k39 39 (((w11.setCell ⟨gb278, 0, none⟩ (.int .i64 ((rd_T39 x12_1 x14_1).f0))).setCell ⟨gb278, 1, none⟩ (.int .i64 ((rd_T39 x12_1 x14_1).f1))).setCell ⟨gb278, 2, none⟩ (.int .i64 ((rd_T39 x12_1 x14_1).f2))) w.heap.size (fun k_ => some k_ ≠ (.slice Ao13 x4_1.length co13 : Value).ownBlock ∧ k_ ≠ gb278) (.slice (some ad277) x12_1.length co5) x12_1) := ⟨by (with_reducible repeat (first | apply Kd.R_alloc | apply Kd.R_drewN | apply Kd.R_drew)); exact Kd.R_mono (Kd.R_far (p := ⟨gb278, 2, none⟩) (Kd.R_far (p := ⟨gb278, 1, none⟩) (Kd.R_far (p := ⟨gb278, 0, none⟩) (Kd.R_mono HO_12.out (fun k_ hk => (⟨hk, hk.2⟩ : _ ∧ k_ ≠ gb278))) (fun _ hk => hk.2) (.int .i64 ((rd_T39 x12_1 x14_1).f0))) (fun _ hk => hk.2) (.int .i64 ((rd_T39 x12_1 x14_1).f1))) (fun _ hk => hk.2) (.int .i64 ((rd_T39 x12_1 x14_1).f2))) (fun _ hk => ⟨hk.1.1, hk.1.2⟩)⟩
           have n2_ : Aside0 ((((w11.setCell ⟨gb278, 0, none⟩ (.int .i64 ((rd_T39 x12_1 x14_1).f0))).setCell ⟨gb278, 1, none⟩ (.int .i64 ((rd_T39 x12_1 x14_1).f1))).setCell ⟨gb278, 2, none⟩ (.int .i64 ((rd_T39 x12_1 x14_1).f2))).heap[gb278]? = some (.cells #[.int .i64 ((rd_T39 x12_1 x14_1).f0), .int .i64 ((rd_T39 x12_1 x14_1).f1), .int .i64 ((rd_T39 x12_1 x14_1).f2)] 39 (0, 0))) := ⟨by (with_reducible repeat (first | refine blk_drewN ?_ _ | refine blk_drew ?_ | refine blk_alloc ?_ _)); refine blk_put (cs := #[.int .i64 ((rd_T39 x12_1 x14_1).f0), .int .i64 ((rd_T39 x12_1 x14_1).f1), .int .i64 0]) ?_ 2 _ rfl; (with_reducible repeat (first | refine blk_drewN ?_ _ | refine blk_drew ?_ | refine blk_alloc ?_ _)); refine blk_put (cs := #[.int .i64 ((rd_T39 x12_1 x14_1).f0), .int .i64 0, .int .i64 0]) ?_ 1 _ rfl; (with_reducible repeat (first | refine blk_drewN ?_ _ | refine blk_drew ?_ | refine blk_alloc ?_ _)); refine blk_put (cs := #[.int .i64 0, .int .i64 0, .int .i64 0]) ?_ 0 _ rfl; (with_reducible repeat (first | refine blk_drewN ?_ _ | refine blk_drew ?_ | refine blk_alloc ?_ _)); exact BK278.out⟩
           have n3_ : Aside0 (Below w.heap.size w (((w11.setCell ⟨gb278, 0, none⟩ (.int .i64 ((rd_T39 x12_1 x14_1).f0))).setCell ⟨gb278, 1, none⟩ (.int .i64 ((rd_T39 x12_1 x14_1).f1))).setCell ⟨gb278, 2, none⟩ (.int .i64 ((rd_T39 x12_1 x14_1).f2)))) := ⟨by repeat (first | (with_reducible first | exact HB.out | apply below_alloc | apply pw_below_drewN | apply below_drew1 | refine below_set ?_ GE278.out) | exact HB.out)⟩
           (try clear HO_4)
           (try clear HO_12)
           (try clear BK278)
           (try clear HB)
           generalize (((w11.setCell ⟨gb278, 0, none⟩ (.int .i64 ((rd_T39 x12_1 x14_1).f0))).setCell ⟨gb278, 1, none⟩ (.int .i64 ((rd_T39 x12_1 x14_1).f1))).setCell ⟨gb278, 2, none⟩ (.int .i64 ((rd_T39 x12_1 x14_1).f2))) = w23 at n0_ n1_ n2_ n3_ ⊢
           have HO_4 := n0_
           have HO_12 := n1_
           have BK278 := n2_
           have HB := n3_
           clear n0_ n1_ n2_ n3_
           have n0_ := Aside0.mk (Kd.R_drew HO_4.out)
           have n1_ := Aside0.mk (Kd.R_drew HO_12.out)
           have n2_ := Aside0.mk (blk_drew BK278.out)
           have n3_ := Aside0.mk (below_drew1 HB.out)
           clear HO_4
           clear HO_12
           clear BK278
           clear HB
           have HO_4 := n0_
           have HO_12 := n1_
           have BK278 := n2_
           have HB := n3_
           clear n0_ n1_ n2_ n3_
           have p279 : 0 ≤ ((ji15) : Int) := oda
           have q279 : (ji15) < (x4_1.length : Int) := oda
           obtain ⟨ad279, e279, hx279_0, hx279_1, hx279_2⟩ := at_T39 (Kd.R_reads' HO_4.out).2.2 (ji15) p279 q279
           cases e279
           replace p279 := eq_true p279
           replace q279 := eq_true q279
           refine start_ (n := 24) (S := fun w' => w'.cell? ⟨gb278, 0, none⟩ = some (.int .i64 ((rd_T39 x12_1 x14_1).f0)) ∧ w'.cell? ⟨gb278, 1, none⟩ = some (.int .i64 ((rd_T39 x12_1 x14_1).f1)) ∧ w'.cell? ⟨gb278, 2, none⟩ = some (.int .i64 ((rd_T39 x12_1 x14_1).f2)) ∧ w'.cell? (ad279.add (((ji15)).toNat * 3)) = some (.int .i64 ((rd_T39 x4_1 (ji15)).f0)) ∧ w'.cell? ⟨(ad279.add (((ji15)).toNat * 3)).block, (ad279.add (((ji15)).toNat * 3)).off + 1, none⟩ = some (.int .i64 ((rd_T39 x4_1 (ji15)).f1)) ∧ w'.cell? ⟨(ad279.add (((ji15)).toNat * 3)).block, (ad279.add (((ji15)).toNat * 3)).off + 2, none⟩ = some (.int .i64 ((rd_T39 x4_1 (ji15)).f2))) (ds := []) (bs 24 0) (by kernel_rfl) rfl rfl ⟨(blk_cell BK278.out 0).trans rfl, (blk_cell BK278.out 1).trans rfl, (blk_cell BK278.out 2).trans rfl, hx279_0, hx279_1, hx279_2⟩ (fun hHeld => ?_); refine with_tabW lots_set.tab8 lots_set.bits8 (fun HT_ HW_ => ?_)
           generalize w23.drew = w24 at HO_4 HO_12 BK278 HB hx279_0 hx279_1 hx279_2 hHeld ⊢
           refine pu 0 20 (bs 24 1) HT_ ?_
           refine pu 1 21 (bs 24 3) HT_ ?_
           refine pu 2 22 (bs 24 7) HT_ ?_
           refine pu 3 23 (bs 24 15) HT_ ?_
           refine pu 4 24 (bs 24 31) HT_ ?_
           refine pu 5 25 (bs 24 63) HT_ ?_
           refine pu 6 26 (bs 24 127) HT_ ?_
           refine pu 7 27 (bs 24 255) HT_ ?_
           refine pu 9 29 (bs 24 767) HT_ ?_
           refine take_ (i := 8) (N := some 28) (v := ?_) (a' := ?_) (bs 24 1023) rfl rfl (take_ofW HT_.out HW_.out (by kernel_rfl)) (fun _ _ _ h => h) (Or.inl ⟨by rfl, ?_⟩) hHeld ?_ ?_
           rotate_left
           ·rintro w' ⟨s0, s1, s2, s3, s4, s5⟩
            go_simp
            with_reducible rfl
           rotate_left
           ·simp only [Act.put, List.setIfInBounds_toArray, List.set_cons_zero, List.set_cons_succ, i64_w, i32_w]
            rfl
           refine take_ (i := 10) (N := some 30) (v := ?_) (a' := ?_) (bs 24 2047) rfl rfl (take_ofW HT_.out HW_.out (by kernel_rfl)) (fun _ _ _ h => h) (Or.inl ⟨by rfl, ?_⟩) hHeld ?_ ?_
           rotate_left
           ·rintro w' ⟨s0, s1, s2, s3, s4, s5⟩
            go_simp
            with_reducible rfl
           rotate_left
           ·simp only [Act.put, List.setIfInBounds_toArray, List.set_cons_zero, List.set_cons_succ, i64_w, i32_w]
            rfl
           refine pu 11 31 (bs 24 4095) HT_ ?_
           refine pu 12 32 (bs 24 8191) HT_ ?_
           refine pu 13 33 (bs 24 16383) HT_ ?_
           refine pure_ (i := 14) (N := some 34) (v := undef) (a' := ?_) (bs 24 32767) rfl rfl (any_of HT_.out (by kernel_rfl)) (fun _ _ _ h => h) (Or.inr ⟨by rfl, rfl⟩) ?_ ?_
           rotate_left
           ·simp only [Act.put, List.setIfInBounds_toArray, List.set_cons_zero, List.set_cons_succ, i64_w, i32_w]
            rfl
           refine pure_ (i := 15) (N := some 35) (v := undef) (a' := ?_) (bs 24 65535) rfl rfl (any_of HT_.out (by kernel_rfl)) (fun _ _ _ h => h) (Or.inr ⟨by rfl, rfl⟩) ?_ ?_
           rotate_left
           ·simp only [Act.put, List.setIfInBounds_toArray, List.set_cons_zero, List.set_cons_succ, i64_w, i32_w]
            rfl
           refine pure_ (i := 16) (N := some 36) (v := undef) (a' := ?_) (bs 24 131071) rfl rfl (any_of HT_.out (by kernel_rfl)) (fun _ _ _ h => h) (Or.inr ⟨by rfl, rfl⟩) ?_ ?_
           rotate_left
           ·simp only [Act.put, List.setIfInBounds_toArray, List.set_cons_zero, List.set_cons_succ, i64_w, i32_w]
            rfl
           refine pure_ (i := 17) (N := some 37) (v := undef) (a' := ?_) (bs 24 262143) rfl rfl (any_of HT_.out (by kernel_rfl)) (fun _ _ _ h => h) (Or.inr ⟨by rfl, rfl⟩) ?_ ?_
           rotate_left
           ·simp only [Act.put, List.setIfInBounds_toArray, List.set_cons_zero, List.set_cons_succ, i64_w, i32_w]
            rfl
           refine pure_ (i := 18) (N := some 38) (v := undef) (a' := ?_) (bs 24 524287) rfl rfl (any_of HT_.out (by kernel_rfl)) (fun _ _ _ h => h) (Or.inr ⟨by rfl, rfl⟩) ?_ ?_
           rotate_left
           ·simp only [Act.put, List.setIfInBounds_toArray, List.set_cons_zero, List.set_cons_succ, i64_w, i32_w]
            rfl
           refine pure_ (i := 19) (N := some 39) (v := undef) (a' := ?_) (bs 24 1048575) rfl rfl (any_of HT_.out (by kernel_rfl)) (fun _ _ _ h => h) (Or.inr ⟨by rfl, rfl⟩) ?_ ?_
           rotate_left
           ·simp only [Act.put, List.setIfInBounds_toArray, List.set_cons_zero, List.set_cons_succ, i64_w, i32_w]
            rfl
           refine pure_ (i := 20) (N := some 40) (v := undef) (a' := ?_) (bs 24 2097151) rfl rfl (any_of HT_.out (by kernel_rfl)) (fun _ _ _ h => h) (Or.inr ⟨by rfl, rfl⟩) ?_ ?_
           rotate_left
           ·simp only [Act.put, List.setIfInBounds_toArray, List.set_cons_zero, List.set_cons_succ, i64_w, i32_w]
            rfl
           refine pure_ (i := 21) (N := some 41) (v := undef) (a' := ?_) (bs 24 4194303) rfl rfl (any_of HT_.out (by kernel_rfl)) (fun _ _ _ h => h) (Or.inr ⟨by rfl, rfl⟩) ?_ ?_
           rotate_left
           ·simp only [Act.put, List.setIfInBounds_toArray, List.set_cons_zero, List.set_cons_succ, i64_w, i32_w]
            rfl
           refine pure_ (i := 22) (N := some 42) (v := undef) (a' := ?_) (bs 24 8388607) rfl rfl (any_of HT_.out (by kernel_rfl)) (fun _ _ _ h => h) (Or.inr ⟨by rfl, rfl⟩) ?_ ?_
           rotate_left
           ·simp only [Act.put, List.setIfInBounds_toArray, List.set_cons_zero, List.set_cons_succ, i64_w, i32_w]
            rfl
           refine pu 23 43 (bs 24 16777215) HT_ ?_
           refine done_ (done_of HT_.out (by kernel_rfl)) ?_
           try go_wp2
           go_meet
           case rel => exact ⟨_, (false), eqs, H', ⟨by have := HK1.out; first | omega | exact Nat.le_refl _⟩, ⟨by (try simp only [hl12_1]); (with_reducible repeat (first | apply Kd.R_alloc | apply Kd.R_drewN | apply Kd.R_drew)); exact HO_4.out⟩, ⟨by (try simp only [hl12_1]); (with_reducible repeat (first | apply Kd.R_alloc | apply Kd.R_drewN | apply Kd.R_drew)); exact HO_12.out⟩, ⟨by (try simp only [hl12_1]); (with_reducible repeat (first | refine blk_drewN ?_ _ | refine blk_drew ?_ | refine blk_alloc ?_ _)); exact BK278.out⟩, ⟨by repeat (first | (with_reducible first | exact HB.out | apply below_alloc | apply pw_below_drewN | apply below_drew1 | refine below_set ?_ GE278.out) | exact HB.out)⟩⟩
         ·rw [if_neg c17] at H
          exact absurd H (by simp)
        ·rw [if_neg c16] at H
         exact absurd H (by simp)
       ·rw [if_neg c14] at H
        have c14b0 : decide (0 < (x4_1.length : Int)) = false := decide_eq_false c14
        have c14b1 : decide (0 < x4_1.length) = false := decide_eq_false (by omega)
        clear c14
        (first | rw [c14b0] | (simp only [i64_w, i32_w]; rw [c14b0]) | skip)
        have H' := Aside0.mk H
        clear H
        try go_wp2
        have n0_ : Aside0 (Kd.R k39 39 (((w11.setCell ⟨gb278, 0, none⟩ (.int .i64 ((rd_T39 x12_1 x14_1).f0))).setCell ⟨gb278, 1, none⟩ (.int .i64 ((rd_T39 x12_1 x14_1).f1))).setCell ⟨gb278, 2, none⟩ (.int .i64 ((rd_T39 x12_1 x14_1).f2))) w.heap.size (fun k_ => some k_ ≠ (.slice (some ad277) x12_1.length co5 : Value).ownBlock ∧ k_ ≠ gb278) (.slice Ao13 x4_1.length co13) x4_1) := ⟨by (with_reducible repeat (first | apply Kd.R_alloc | apply Kd.R_drewN | apply Kd.R_drew)); exact Kd.R_mono (Kd.R_far (p := ⟨gb278, 2, none⟩) (Kd.R_far (p := ⟨gb278, 1, none⟩) (Kd.R_far (p := ⟨gb278, 0, none⟩) (Kd.R_mono HO_4.out (fun k_ hk => (⟨hk, hk.2⟩ : _ ∧ k_ ≠ gb278))) (fun _ hk => hk.2) (.int .i64 ((rd_T39 x12_1 x14_1).f0))) (fun _ hk => hk.2) (.int .i64 ((rd_T39 x12_1 x14_1).f1))) (fun _ hk => hk.2) (.int .i64 ((rd_T39 x12_1 x14_1).f2))) (fun _ hk => ⟨hk.1.1, hk.1.2⟩)⟩
        have n1_ : Aside0 (Kd.R k39 39 (((w11.setCell ⟨gb278, 0, none⟩ (.int .i64 ((rd_T39 x12_1 x14_1).f0))).setCell ⟨gb278, 1, none⟩ (.int .i64 ((rd_T39 x12_1 x14_1).f1))).setCell ⟨gb278, 2, none⟩ (.int .i64 ((rd_T39 x12_1 x14_1).f2))) w.heap.size (fun k_ => some k_ ≠ (.slice Ao13 x4_1.length co13 : Value).ownBlock ∧ k_ ≠ gb278) (.slice (some ad277) x12_1.length co5) x12_1) := ⟨by (with_reducible repeat (first | apply Kd.R_alloc | apply Kd.R_drewN | apply Kd.R_drew)); exact Kd.R_mono (Kd.R_far (p := ⟨gb278, 2, none⟩) (Kd.R_far (p := ⟨gb278, 1, none⟩) (Kd.R_far (p := ⟨gb278, 0, none⟩) (Kd.R_mono HO_12.out (fun k_ hk => (⟨hk, hk.2⟩ : _ ∧ k_ ≠ gb278))) (fun _ hk => hk.2) (.int .i64 ((rd_T39 x12_1 x14_1).f0))) (fun _ hk => hk.2) (.int .i64 ((rd_T39 x12_1 x14_1).f1))) (fun _ hk => hk.2) (.int .i64 ((rd_T39 x12_1 x14_1).f2))) (fun _ hk => ⟨hk.1.1, hk.1.2⟩)⟩
        have n2_ : Aside0 ((((w11.setCell ⟨gb278, 0, none⟩ (.int .i64 ((rd_T39 x12_1 x14_1).f0))).setCell ⟨gb278, 1, none⟩ (.int .i64 ((rd_T39 x12_1 x14_1).f1))).setCell ⟨gb278, 2, none⟩ (.int .i64 ((rd_T39 x12_1 x14_1).f2))).heap[gb278]? = some (.cells #[.int .i64 ((rd_T39 x12_1 x14_1).f0), .int .i64 ((rd_T39 x12_1 x14_1).f1), .int .i64 ((rd_T39 x12_1 x14_1).f2)] 39 (0, 0))) := ⟨by (with_reducible repeat (first | refine blk_drewN ?_ _ | refine blk_drew ?_ | refine blk_alloc ?_ _)); refine blk_put (cs := #[.int .i64 ((rd_T39 x12_1 x14_1).f0), .int .i64 ((rd_T39 x12_1 x14_1).f1), .int .i64 0]) ?_ 2 _ rfl; (with_reducible repeat (first | refine blk_drewN ?_ _ | refine blk_drew ?_ | refine blk_alloc ?_ _)); refine blk_put (cs := #[.int .i64 ((rd_T39 x12_1 x14_1).f0), .int .i64 0, .int .i64 0]) ?_ 1 _ rfl; (with_reducible repeat (first | refine blk_drewN ?_ _ | refine blk_drew ?_ | refine blk_alloc ?_ _)); refine blk_put (cs := #[.int .i64 0, .int .i64 0, .int .i64 0]) ?_ 0 _ rfl; (with_reducible repeat (first | refine blk_drewN ?_ _ | refine blk_drew ?_ | refine blk_alloc ?_ _)); exact BK278.out⟩
        have n3_ : Aside0 (Below w.heap.size w (((w11.setCell ⟨gb278, 0, none⟩ (.int .i64 ((rd_T39 x12_1 x14_1).f0))).setCell ⟨gb278, 1, none⟩ (.int .i64 ((rd_T39 x12_1 x14_1).f1))).setCell ⟨gb278, 2, none⟩ (.int .i64 ((rd_T39 x12_1 x14_1).f2)))) := ⟨by repeat (first | (with_reducible first | exact HB.out | apply below_alloc | apply pw_below_drewN | apply below_drew1 | refine below_set ?_ GE278.out) | exact HB.out)⟩
        (try clear HO_4)
        (try clear HO_12)
        (try clear BK278)
        (try clear HB)
        generalize (((w11.setCell ⟨gb278, 0, none⟩ (.int .i64 ((rd_T39 x12_1 x14_1).f0))).setCell ⟨gb278, 1, none⟩ (.int .i64 ((rd_T39 x12_1 x14_1).f1))).setCell ⟨gb278, 2, none⟩ (.int .i64 ((rd_T39 x12_1 x14_1).f2))) = w25 at n0_ n1_ n2_ n3_ ⊢
        have HO_4 := n0_
        have HO_12 := n1_
        have BK278 := n2_
        have HB := n3_
        clear n0_ n1_ n2_ n3_
        have n0_ := Aside0.mk (Kd.R_drew HO_4.out)
        have n1_ := Aside0.mk (Kd.R_drew HO_12.out)
        have n2_ := Aside0.mk (blk_drew BK278.out)
        have n3_ := Aside0.mk (below_drew1 HB.out)
        clear HO_4
        clear HO_12
        clear BK278
        clear HB
        have HO_4 := n0_
        have HO_12 := n1_
        have BK278 := n2_
        have HB := n3_
        clear n0_ n1_ n2_ n3_
        refine start_ (n := 24) (S := fun w' => True) (ds := []) (bs 24 0) (by kernel_rfl) rfl rfl trivial (fun hHeld => ?_); refine with_tabW lots_set.tab8 lots_set.bits8 (fun HT_ HW_ => ?_)
        generalize w25.drew = w26 at HO_4 HO_12 BK278 HB hHeld ⊢
        refine pu 0 20 (bs 24 1) HT_ ?_
        refine pu 1 21 (bs 24 3) HT_ ?_
        refine pu 2 22 (bs 24 7) HT_ ?_
        refine pure_ (i := 3) (N := some 23) (v := undef) (a' := ?_) (bs 24 15) rfl rfl (any_of HT_.out (by kernel_rfl)) (fun _ _ _ h => h) (Or.inr ⟨by rfl, rfl⟩) ?_ ?_
        rotate_left
        ·simp only [Act.put, List.setIfInBounds_toArray, List.set_cons_zero, List.set_cons_succ, i64_w, i32_w]
         rfl
        refine pure_ (i := 4) (N := some 24) (v := undef) (a' := ?_) (bs 24 31) rfl rfl (any_of HT_.out (by kernel_rfl)) (fun _ _ _ h => h) (Or.inr ⟨by rfl, rfl⟩) ?_ ?_
        rotate_left
        ·simp only [Act.put, List.setIfInBounds_toArray, List.set_cons_zero, List.set_cons_succ, i64_w, i32_w]
         rfl
        refine pure_ (i := 5) (N := some 25) (v := undef) (a' := ?_) (bs 24 63) rfl rfl (any_of HT_.out (by kernel_rfl)) (fun _ _ _ h => h) (Or.inr ⟨by rfl, rfl⟩) ?_ ?_
        rotate_left
        ·simp only [Act.put, List.setIfInBounds_toArray, List.set_cons_zero, List.set_cons_succ, i64_w, i32_w]
         rfl
        refine pure_ (i := 6) (N := some 26) (v := undef) (a' := ?_) (bs 24 127) rfl rfl (any_of HT_.out (by kernel_rfl)) (fun _ _ _ h => h) (Or.inr ⟨by rfl, rfl⟩) ?_ ?_
        rotate_left
        ·simp only [Act.put, List.setIfInBounds_toArray, List.set_cons_zero, List.set_cons_succ, i64_w, i32_w]
         rfl
        refine pure_ (i := 7) (N := some 27) (v := undef) (a' := ?_) (bs 24 255) rfl rfl (any_of HT_.out (by kernel_rfl)) (fun _ _ _ h => h) (Or.inr ⟨by rfl, rfl⟩) ?_ ?_
        rotate_left
        ·simp only [Act.put, List.setIfInBounds_toArray, List.set_cons_zero, List.set_cons_succ, i64_w, i32_w]
         rfl
        refine pure_ (i := 8) (N := some 28) (v := undef) (a' := ?_) (bs 24 511) rfl rfl (any_of HT_.out (by kernel_rfl)) (fun _ _ _ h => h) (Or.inr ⟨by rfl, rfl⟩) ?_ ?_
        rotate_left
        ·simp only [Act.put, List.setIfInBounds_toArray, List.set_cons_zero, List.set_cons_succ, i64_w, i32_w]
         rfl
        refine pure_ (i := 9) (N := some 29) (v := undef) (a' := ?_) (bs 24 1023) rfl rfl (any_of HT_.out (by kernel_rfl)) (fun _ _ _ h => h) (Or.inr ⟨by rfl, rfl⟩) ?_ ?_
        rotate_left
        ·simp only [Act.put, List.setIfInBounds_toArray, List.set_cons_zero, List.set_cons_succ, i64_w, i32_w]
         rfl
        refine pure_ (i := 10) (N := some 30) (v := undef) (a' := ?_) (bs 24 2047) rfl rfl (any_of HT_.out (by kernel_rfl)) (fun _ _ _ h => h) (Or.inr ⟨by rfl, rfl⟩) ?_ ?_
        rotate_left
        ·simp only [Act.put, List.setIfInBounds_toArray, List.set_cons_zero, List.set_cons_succ, i64_w, i32_w]
         rfl
        refine pure_ (i := 11) (N := some 31) (v := undef) (a' := ?_) (bs 24 4095) rfl rfl (any_of HT_.out (by kernel_rfl)) (fun _ _ _ h => h) (Or.inr ⟨by rfl, rfl⟩) ?_ ?_
        rotate_left
        ·simp only [Act.put, List.setIfInBounds_toArray, List.set_cons_zero, List.set_cons_succ, i64_w, i32_w]
         rfl
        refine pu 12 32 (bs 24 8191) HT_ ?_
        refine pu 13 33 (bs 24 16383) HT_ ?_
        refine pure_ (i := 14) (N := some 34) (v := undef) (a' := ?_) (bs 24 32767) rfl rfl (any_of HT_.out (by kernel_rfl)) (fun _ _ _ h => h) (Or.inr ⟨by rfl, rfl⟩) ?_ ?_
        rotate_left
        ·simp only [Act.put, List.setIfInBounds_toArray, List.set_cons_zero, List.set_cons_succ, i64_w, i32_w]
         rfl
        refine pure_ (i := 15) (N := some 35) (v := undef) (a' := ?_) (bs 24 65535) rfl rfl (any_of HT_.out (by kernel_rfl)) (fun _ _ _ h => h) (Or.inr ⟨by rfl, rfl⟩) ?_ ?_
        rotate_left
        ·simp only [Act.put, List.setIfInBounds_toArray, List.set_cons_zero, List.set_cons_succ, i64_w, i32_w]
         rfl
        refine pure_ (i := 16) (N := some 36) (v := undef) (a' := ?_) (bs 24 131071) rfl rfl (any_of HT_.out (by kernel_rfl)) (fun _ _ _ h => h) (Or.inr ⟨by rfl, rfl⟩) ?_ ?_
        rotate_left
        ·simp only [Act.put, List.setIfInBounds_toArray, List.set_cons_zero, List.set_cons_succ, i64_w, i32_w]
         rfl
        refine pure_ (i := 17) (N := some 37) (v := undef) (a' := ?_) (bs 24 262143) rfl rfl (any_of HT_.out (by kernel_rfl)) (fun _ _ _ h => h) (Or.inr ⟨by rfl, rfl⟩) ?_ ?_
        rotate_left
        ·simp only [Act.put, List.setIfInBounds_toArray, List.set_cons_zero, List.set_cons_succ, i64_w, i32_w]
         rfl
        refine pure_ (i := 18) (N := some 38) (v := undef) (a' := ?_) (bs 24 524287) rfl rfl (any_of HT_.out (by kernel_rfl)) (fun _ _ _ h => h) (Or.inr ⟨by rfl, rfl⟩) ?_ ?_
        rotate_left
        ·simp only [Act.put, List.setIfInBounds_toArray, List.set_cons_zero, List.set_cons_succ, i64_w, i32_w]
         rfl
        refine pure_ (i := 19) (N := some 39) (v := undef) (a' := ?_) (bs 24 1048575) rfl rfl (any_of HT_.out (by kernel_rfl)) (fun _ _ _ h => h) (Or.inr ⟨by rfl, rfl⟩) ?_ ?_
        rotate_left
        ·simp only [Act.put, List.setIfInBounds_toArray, List.set_cons_zero, List.set_cons_succ, i64_w, i32_w]
         rfl
        refine pure_ (i := 20) (N := some 40) (v := undef) (a' := ?_) (bs 24 2097151) rfl rfl (any_of HT_.out (by kernel_rfl)) (fun _ _ _ h => h) (Or.inr ⟨by rfl, rfl⟩) ?_ ?_
        rotate_left
        ·simp only [Act.put, List.setIfInBounds_toArray, List.set_cons_zero, List.set_cons_succ, i64_w, i32_w]
         rfl
        refine pure_ (i := 21) (N := some 41) (v := undef) (a' := ?_) (bs 24 4194303) rfl rfl (any_of HT_.out (by kernel_rfl)) (fun _ _ _ h => h) (Or.inr ⟨by rfl, rfl⟩) ?_ ?_
        rotate_left
        ·simp only [Act.put, List.setIfInBounds_toArray, List.set_cons_zero, List.set_cons_succ, i64_w, i32_w]
         rfl
        refine pure_ (i := 22) (N := some 42) (v := undef) (a' := ?_) (bs 24 8388607) rfl rfl (any_of HT_.out (by kernel_rfl)) (fun _ _ _ h => h) (Or.inr ⟨by rfl, rfl⟩) ?_ ?_
        rotate_left
        ·simp only [Act.put, List.setIfInBounds_toArray, List.set_cons_zero, List.set_cons_succ, i64_w, i32_w]
         rfl
        refine pu 23 43 (bs 24 16777215) HT_ ?_
        refine done_ (done_of HT_.out (by kernel_rfl)) ?_
        try go_wp2
        go_meet
        case rel => exact ⟨_, (false), eqs, H', ⟨by have := HK1.out; first | omega | exact Nat.le_refl _⟩, ⟨by (try simp only [hl12_1]); (with_reducible repeat (first | apply Kd.R_alloc | apply Kd.R_drewN | apply Kd.R_drew)); exact HO_4.out⟩, ⟨by (try simp only [hl12_1]); (with_reducible repeat (first | apply Kd.R_alloc | apply Kd.R_drewN | apply Kd.R_drew)); exact HO_12.out⟩, ⟨by (try simp only [hl12_1]); (with_reducible repeat (first | refine blk_drewN ?_ _ | refine blk_drew ?_ | refine blk_alloc ?_ _)); exact BK278.out⟩, ⟨by repeat (first | (with_reducible first | exact HB.out | apply below_alloc | apply pw_below_drewN | apply below_drew1 | refine below_set ?_ GE278.out) | exact HB.out)⟩⟩
      case rest =>
       clear HC10
       try clear c7
       try clear c14
       try clear c14b0
       try clear c14b1
       try clear c16
       try clear c17
       try clear c18
       try clear c18b0
       try clear c18b1
       try clear hx279_0
       try clear hx279_1
       try clear hx279_2
       try clear hx280_0
       try clear hx280_1
       try clear hx280_2
       try clear p279
       try clear p280
       try clear q279
       try clear q280
       obtain ⟨kq, x43_9, rfl, HA, HJ9, HO_4, HO_12, BK278, HB⟩ := hcut
       cases kq with
       | zero => exact absurd HA.out (by simp [lots_set.j1])
       | succ kj9 =>
        have H := HA.out
        clear HA
        simp only [lots_set.j1] at H
        by_cases c27 : x43_9 = true
        ·subst c27
         have H1 : (if 0 ≤ (wrap64 ((x4_1.length : Int) - 1)) then (if (wrap64 ((x4_1.length : Int) - 1)) < (x4_1.length : Int) then ((lots_end.f ((rd_T39 x4_1 (wrap64 ((x4_1.length : Int) - 1))).f0) ((rd_T39 x4_1 (wrap64 ((x4_1.length : Int) - 1))).f1) ((rd_T39 x4_1 (wrap64 ((x4_1.length : Int) - 1))).f2)).bind fun t283 => ((lots_end.f ((rd_T39 x12_1 x14_1).f0) ((rd_T39 x12_1 x14_1).f1) ((rd_T39 x12_1 x14_1).f2)).bind fun t284 => (lots_set.l0 kj9 (x4_1.set ((wrap64 ((x4_1.length : Int) - 1)) : Int).toNat (⟨(rd_T39 x4_1 (wrap64 ((x4_1.length : Int) - 1))).f0, (rd_T39 x4_1 (wrap64 ((x4_1.length : Int) - 1))).f1, wrap64 ((mx t283 t284) - ((rd_T39 x4_1 (wrap64 ((x4_1.length : Int) - 1))).f1))⟩ : S39)) x12_1 (t273.length : Int) (wrap64 (x14_1 + 1))))) else (none)) else (none)) = some r := by rw [if_pos rfl] at H; exact H
         clear H
         have H := H1
         clear H1
         obtain ⟨ji28, hji28⟩ : ∃ j_ : Int, (wrap64 ((x4_1.length : Int) - 1)) = j_ := ⟨_, rfl⟩
         replace H : (if 0 ≤ (ji28) then (if (ji28) < (x4_1.length : Int) then ((lots_end.f ((rd_T39 x4_1 (ji28)).f0) ((rd_T39 x4_1 (ji28)).f1) ((rd_T39 x4_1 (ji28)).f2)).bind fun t283 => ((lots_end.f ((rd_T39 x12_1 x14_1).f0) ((rd_T39 x12_1 x14_1).f1) ((rd_T39 x12_1 x14_1).f2)).bind fun t284 => (lots_set.l0 kj9 (x4_1.set ((ji28) : Int).toNat (⟨(rd_T39 x4_1 (ji28)).f0, (rd_T39 x4_1 (ji28)).f1, wrap64 ((mx t283 t284) - ((rd_T39 x4_1 (ji28)).f1))⟩ : S39)) x12_1 (t273.length : Int) (wrap64 (x14_1 + 1))))) else (none)) else (none)) = some r := by first | (rw [hji28] at H; exact H) | (simp only [hji28] at H ⊢; exact H)
         have hji28w : (IntKind.i64.wrap ((x4_1.length : Int) - 1)) = ji28 := (i64_w _).trans hji28
         by_cases c29 : 0 ≤ (ji28)
         ·rw [if_pos c29] at H
          have c29b0 : decide (0 ≤ (ji28)) = true := decide_eq_true c29
          clear c29
          by_cases c30 : (ji28) < (x4_1.length : Int)
          ·rw [if_pos c30] at H
           have c30b0 : decide ((ji28) < (x4_1.length : Int)) = true := decide_eq_true c30
           clear c30
           (try simp only [hl12_1] at c30b0)
           replace H := Option.bind_eq_some_iff.mp H
           obtain ⟨t283, A310, H⟩ := H
           replace H : ((lots_end.f ((rd_T39 x12_1 x14_1).f0) ((rd_T39 x12_1 x14_1).f1) ((rd_T39 x12_1 x14_1).f2)).bind fun t284 => (lots_set.l0 kj9 (x4_1.set ((ji28) : Int).toNat (⟨(rd_T39 x4_1 (ji28)).f0, (rd_T39 x4_1 (ji28)).f1, wrap64 ((mx t283 t284) - ((rd_T39 x4_1 (ji28)).f1))⟩ : S39)) x12_1 (t273.length : Int) (wrap64 (x14_1 + 1)))) = some r := H
           have A31 := Aside0.mk A310
           clear A310
           replace H := Option.bind_eq_some_iff.mp H
           obtain ⟨t284, A320, H⟩ := H
           replace H : (lots_set.l0 kj9 (x4_1.set ((ji28) : Int).toNat (⟨(rd_T39 x4_1 (ji28)).f0, (rd_T39 x4_1 (ji28)).f1, wrap64 ((mx t283 t284) - ((rd_T39 x4_1 (ji28)).f1))⟩ : S39)) x12_1 (t273.length : Int) (wrap64 (x14_1 + 1))) = some r := H
           have A32 := Aside0.mk A320
           clear A320
           obtain ⟨ji33, hji33⟩ : ∃ j_ : Int, (mx t283 t284) = j_ := ⟨_, rfl⟩
           replace H : (lots_set.l0 kj9 (x4_1.set ((ji28) : Int).toNat (⟨(rd_T39 x4_1 (ji28)).f0, (rd_T39 x4_1 (ji28)).f1, wrap64 ((ji33) - ((rd_T39 x4_1 (ji28)).f1))⟩ : S39)) x12_1 (t273.length : Int) (wrap64 (x14_1 + 1))) = some r := by first | (rw [hji33] at H; exact H) | (simp only [hji33] at H ⊢; exact H)
           (try rw [hji33] at A31)
           (try rw [hji33] at A32)
           have hji33_ : (if t283 < t284 then t284 else t283) = ji33 := hji33
           obtain ⟨y286, hy286⟩ : ∃ y_ : List (S39), y_ = (x4_1.set ((ji28) : Int).toNat (⟨(rd_T39 x4_1 (ji28)).f0, (rd_T39 x4_1 (ji28)).f1, wrap64 ((ji33) - ((rd_T39 x4_1 (ji28)).f1))⟩ : S39)) := ⟨_, rfl⟩
           replace H : (lots_set.l0 kj9 y286 x12_1 (t273.length : Int) (wrap64 (x14_1 + 1))) = some r := by first | (rw [hy286]; with_reducible exact H) | (have H2_ := (Option.bind_some _ _).symm.trans H; rw [hy286]; with_reducible exact H2_) | (have H2_ := (Option.bind_some _ _).symm.trans H; with_reducible exact H2_) | with_reducible exact H | (rw [hy286]; exact H) | exact H
           have Ny286 := Aside0.mk hy286
           clear hy286
           have H' := Aside0.mk H
           clear H
           try go_wp2
           have n0_ := Aside0.mk (Kd.R_drew HO_4.out)
           have n1_ := Aside0.mk (Kd.R_drew HO_12.out)
           have n2_ := Aside0.mk (blk_drew BK278.out)
           have n3_ := Aside0.mk (below_drew1 HB.out)
           clear HO_4
           clear HO_12
           clear BK278
           clear HB
           have HO_4 := n0_
           have HO_12 := n1_
           have BK278 := n2_
           have HB := n3_
           clear n0_ n1_ n2_ n3_
           have p282 : 0 ≤ ((ji28) : Int) := oda
           have q282 : (ji28) < (x4_1.length : Int) := oda
           obtain ⟨ad282, e282, hx282_0, hx282_1, hx282_2⟩ := at_T39 (Kd.R_reads' HO_4.out).2.2 (ji28) p282 q282
           cases e282
           replace p282 := eq_true p282
           replace q282 := eq_true q282
           have p285 : 0 ≤ ((ji28) : Int) := oda
           have q285 : (ji28) < (x4_1.length : Int) := oda
           obtain ⟨ad285, e285, hx285_0, hx285_1, hx285_2⟩ := at_T39 (Kd.R_reads' HO_4.out).2.2 (ji28) p285 q285
           obtain rfl : ad282 = ad285 := (by injection e285)
           replace p285 := eq_true p285
           replace q285 := eq_true q285
           refine start_ (n := 22) (S := fun w' => w'.cell? ⟨gb278, 0, none⟩ = some (.int .i64 ((rd_T39 x12_1 x14_1).f0)) ∧ w'.cell? ⟨gb278, 1, none⟩ = some (.int .i64 ((rd_T39 x12_1 x14_1).f1)) ∧ w'.cell? ⟨gb278, 2, none⟩ = some (.int .i64 ((rd_T39 x12_1 x14_1).f2)) ∧ w'.cell? (ad282.add (((ji28)).toNat * 3)) = some (.int .i64 ((rd_T39 x4_1 (ji28)).f0)) ∧ w'.cell? ⟨(ad282.add (((ji28)).toNat * 3)).block, (ad282.add (((ji28)).toNat * 3)).off + 1, none⟩ = some (.int .i64 ((rd_T39 x4_1 (ji28)).f1)) ∧ w'.cell? ⟨(ad282.add (((ji28)).toNat * 3)).block, (ad282.add (((ji28)).toNat * 3)).off + 2, none⟩ = some (.int .i64 ((rd_T39 x4_1 (ji28)).f2)) ∧ w'.cell? (ad282.add (((ji28)).toNat * 3)) = some (.int .i64 ((rd_T39 x4_1 (ji28)).f0)) ∧ w'.cell? ⟨(ad282.add (((ji28)).toNat * 3)).block, (ad282.add (((ji28)).toNat * 3)).off + 1, none⟩ = some (.int .i64 ((rd_T39 x4_1 (ji28)).f1)) ∧ w'.cell? ⟨(ad282.add (((ji28)).toNat * 3)).block, (ad282.add (((ji28)).toNat * 3)).off + 2, none⟩ = some (.int .i64 ((rd_T39 x4_1 (ji28)).f2))) (ds := [21]) (bs 22 0) (by kernel_rfl) rfl rfl ⟨(blk_cell BK278.out 0).trans rfl, (blk_cell BK278.out 1).trans rfl, (blk_cell BK278.out 2).trans rfl, hx282_0, hx282_1, hx282_2, hx285_0, hx285_1, hx285_2⟩ (fun hHeld => ?_); refine with_tabW lots_set.tab9 lots_set.bits9 (fun HT_ HW_ => ?_)
           generalize wc.drew = w35 at HO_4 HO_12 BK278 HB hx282_0 hx282_1 hx282_2 hx285_0 hx285_1 hx285_2 hHeld ⊢
           refine pu 0 44 (bs 22 1) HT_ ?_
           refine pu 1 45 (bs 22 3) HT_ ?_
           refine pu 2 46 (bs 22 7) HT_ ?_
           refine pu 3 47 (bs 22 15) HT_ ?_
           refine pu 4 48 (bs 22 31) HT_ ?_
           refine pu 5 49 (bs 22 63) HT_ ?_
           refine pu 6 50 (bs 22 127) HT_ ?_
           refine pu 12 56 (bs 22 4223) HT_ ?_
           refine pu 13 57 (bs 22 12415) HT_ ?_
           refine pu 14 58 (bs 22 28799) HT_ ?_
           refine pu 15 59 (bs 22 61567) HT_ ?_
           refine pu 16 60 (bs 22 127103) HT_ ?_
           refine take_ (i := 7) (N := some 51) (v := ?_) (a' := ?_) (bs 22 127231) rfl rfl (take_ofW HT_.out HW_.out (by kernel_rfl)) (fun _ _ _ h => h) (Or.inl ⟨by rfl, ?_⟩) hHeld ?_ ?_
           rotate_left
           ·rintro w' ⟨s0, s1, s2, s3, s4, s5, s6, s7, s8⟩
            go_simp
            with_reducible rfl
           rotate_left
           ·simp only [Act.put, List.setIfInBounds_toArray, List.set_cons_zero, List.set_cons_succ, i64_w, i32_w]
            rfl
           refine take_ (i := 9) (N := some 53) (v := ?_) (a' := ?_) (bs 22 127743) rfl rfl (take_ofW HT_.out HW_.out (by kernel_rfl)) (fun _ _ _ h => h) (Or.inl ⟨by rfl, ?_⟩) hHeld ?_ ?_
           rotate_left
           ·rintro w' ⟨s0, s1, s2, s3, s4, s5, s6, s7, s8⟩
            go_simp
            with_reducible rfl
           rotate_left
           ·simp only [Act.put, List.setIfInBounds_toArray, List.set_cons_zero, List.set_cons_succ, i64_w, i32_w]
            rfl
           refine take_ (i := 17) (N := some 61) (v := ?_) (a' := ?_) (bs 22 258815) rfl rfl (take_ofW HT_.out HW_.out (by kernel_rfl)) (fun _ _ _ h => h) (Or.inl ⟨by rfl, ?_⟩) hHeld ?_ ?_
           rotate_left
           ·rintro w' ⟨s0, s1, s2, s3, s4, s5, s6, s7, s8⟩
            go_simp
            with_reducible rfl
           rotate_left
           ·simp only [Act.put, List.setIfInBounds_toArray, List.set_cons_zero, List.set_cons_succ, i64_w, i32_w]
            rfl
           refine one_ (i := 8) (N := some 52) (bs 22 259071) rfl rfl (one_of HT_.out (by kernel_rfl)) (by decide) (fun K hK => ?_)
           refine goes_ Try.func78 (by kernel_rfl) rfl #[.agg #[.int .i64 ((rd_T39 x4_1 (ji28)).f0), .int .i64 ((rd_T39 x4_1 (ji28)).f1), .int .i64 ((rd_T39 x4_1 (ji28)).f2)]] (by rfl) rfl rfl (by (try simp only [List.map_toArray, List.map_cons, List.map_nil]); first | done | (simp only [hji28]; rfl) | rfl | (simp only [List.length_drop, List.length_take]; rfl)) ?_
           with_reducible refine (lots_end.calls ((rd_T39 x4_1 (ji28)).f0) ((rd_T39 x4_1 (ji28)).f1) ((rd_T39 x4_1 (ji28)).f2) t283 _ A31.out).mono ?_
           rintro e w36 ⟨rfl, hb⟩
           have HS3_ := (hb.cell (World.block_lt_of_cell? _ _ (hHeld.2.2.2.1))).trans (hHeld.2.2.2.1)
           have HS4_ := (hb.cell (World.block_lt_of_cell? _ _ (hHeld.2.2.2.2.1))).trans (hHeld.2.2.2.2.1)
           have HS5_ := (hb.cell (World.block_lt_of_cell? _ _ (hHeld.2.2.2.2.2.1))).trans (hHeld.2.2.2.2.2.1)
           have HS6_ := (hb.cell (World.block_lt_of_cell? _ _ (hHeld.2.2.2.2.2.2.1))).trans (hHeld.2.2.2.2.2.2.1)
           have HS7_ := (hb.cell (World.block_lt_of_cell? _ _ (hHeld.2.2.2.2.2.2.2.1))).trans (hHeld.2.2.2.2.2.2.2.1)
           have HS8_ := (hb.cell (World.block_lt_of_cell? _ _ (hHeld.2.2.2.2.2.2.2.2))).trans (hHeld.2.2.2.2.2.2.2.2)
           refine ⟨_, rfl, ?_⟩
           have n0_ := Aside0.mk (Kd.R_below (kr HO_4.out) hb)
           have n1_ := Aside0.mk (Kd.R_below (kr HO_12.out) hb)
           have n2_ := Aside0.mk (blk_below (g := gb278) (o := .cells #[.int .i64 ((rd_T39 x12_1 x14_1).f0), .int .i64 ((rd_T39 x12_1 x14_1).f1), .int .i64 ((rd_T39 x12_1 x14_1).f2)] 39 (0, 0)) (kb BK278.out) hb)
           have n3_ := Aside0.mk (below_step (by repeat (first | (with_reducible first | exact HB.out | apply below_alloc | apply pw_below_drewN | apply below_drew1 | refine below_set ?_ GE278.out) | exact HB.out)) hb)
           clear HO_4
           clear HO_12
           clear BK278
           clear HB
           have HO_4 := n0_
           have HO_12 := n1_
           have BK278 := n2_
           have HB := n3_
           clear n0_ n1_ n2_ n3_
           (try clear hb)
           (try clear hb2)
           (try clear hk)
           (try clear hi)
           refine hK.out _ _ ⟨(blk_cell BK278.out 0).trans rfl, (blk_cell BK278.out 1).trans rfl, (blk_cell BK278.out 2).trans rfl, HS3_, HS4_, HS5_, HS6_, HS7_, HS8_⟩ (fun hHeld => ?_)
           clear hK K
           refine norm_ (a' := ?_) ?_ ?_
           rotate_left
           ·show Act.put _ (some 52) _ = _
            simp only [Act.put, List.setIfInBounds_toArray, List.set_cons_zero, List.set_cons_succ, i64_w, i32_w]
            rfl
           refine one_ (i := 10) (N := some 54) (bs 22 260095) rfl rfl (one_of HT_.out (by kernel_rfl)) (by decide) (fun K hK => ?_)
           refine goes_ Try.func78 (by kernel_rfl) rfl #[.agg #[.int .i64 ((rd_T39 x12_1 x14_1).f0), .int .i64 ((rd_T39 x12_1 x14_1).f1), .int .i64 ((rd_T39 x12_1 x14_1).f2)]] (by rfl) rfl rfl (by (try simp only [List.map_toArray, List.map_cons, List.map_nil]); first | done | rfl | (simp only [List.length_drop, List.length_take]; rfl)) ?_
           with_reducible refine (lots_end.calls ((rd_T39 x12_1 x14_1).f0) ((rd_T39 x12_1 x14_1).f1) ((rd_T39 x12_1 x14_1).f2) t284 _ A32.out).mono ?_
           rintro e w37 ⟨rfl, hb⟩
           have HS3_ := (hb.cell (World.block_lt_of_cell? _ _ (hHeld.2.2.2.1))).trans (hHeld.2.2.2.1)
           have HS4_ := (hb.cell (World.block_lt_of_cell? _ _ (hHeld.2.2.2.2.1))).trans (hHeld.2.2.2.2.1)
           have HS5_ := (hb.cell (World.block_lt_of_cell? _ _ (hHeld.2.2.2.2.2.1))).trans (hHeld.2.2.2.2.2.1)
           have HS6_ := (hb.cell (World.block_lt_of_cell? _ _ (hHeld.2.2.2.2.2.2.1))).trans (hHeld.2.2.2.2.2.2.1)
           have HS7_ := (hb.cell (World.block_lt_of_cell? _ _ (hHeld.2.2.2.2.2.2.2.1))).trans (hHeld.2.2.2.2.2.2.2.1)
           have HS8_ := (hb.cell (World.block_lt_of_cell? _ _ (hHeld.2.2.2.2.2.2.2.2))).trans (hHeld.2.2.2.2.2.2.2.2)
           refine ⟨_, rfl, ?_⟩
           have n0_ := Aside0.mk (Kd.R_below (kr HO_4.out) hb)
           have n1_ := Aside0.mk (Kd.R_below (kr HO_12.out) hb)
           have n2_ := Aside0.mk (blk_below (g := gb278) (o := .cells #[.int .i64 ((rd_T39 x12_1 x14_1).f0), .int .i64 ((rd_T39 x12_1 x14_1).f1), .int .i64 ((rd_T39 x12_1 x14_1).f2)] 39 (0, 0)) (kb BK278.out) hb)
           have n3_ := Aside0.mk (below_step (by repeat (first | (with_reducible first | exact HB.out | apply below_alloc | apply pw_below_drewN | apply below_drew1 | refine below_set ?_ GE278.out) | exact HB.out)) hb)
           clear HO_4
           clear HO_12
           clear BK278
           clear HB
           have HO_4 := n0_
           have HO_12 := n1_
           have BK278 := n2_
           have HB := n3_
           clear n0_ n1_ n2_ n3_
           (try clear hb)
           (try clear hb2)
           (try clear hk)
           (try clear hi)
           have p34 : 0 ≤ ((ji28) : Int) := oda
           have q34 : ((ji28) : Int) < ((x4_1.length : Int) : Int) := oda
           obtain ⟨go34, co34, eo34, gb34, gl34, cl34, HG34⟩ := Kd.R_form HO_4.out (by omega)
           (first | cases eo34 | (injection eo34 with ea_ en_ ec_; (first | subst ea_ | (injection ea_ with ea_; subst ea_)); subst ec_; clear en_))
           have GB34 := Aside0.mk gb34
           have GG34 := Aside0.mk HG34
           clear gb34 gl34 HG34
           (first | simp only [add_plain] at hx282_0 | skip)
           (first | simp only [add_plain] at hx282_1 | skip)
           (first | simp only [add_plain] at hx282_2 | skip)
           (first | simp only [add_plain] at hx285_0 | skip)
           (first | simp only [add_plain] at hx285_1 | skip)
           (first | simp only [add_plain] at hx285_2 | skip)
           obtain ⟨ce34, hcl34, hM34, hcc34, hfr34⟩ := Kd.R_elem HO_4.out z39 ((ji28) : Int) p34 q34
           obtain rfl := k39_openM hM34
           have hx34_0 : World.cell? _ ⟨go34, ((ji28) : Int).toNat * 3, none⟩ = some (.int .i64 ((rd_T39 x4_1 (ji28)).f0)) := hcc34 0 _ rfl
           have hx34_1 : World.cell? _ ⟨go34, ((ji28) : Int).toNat * 3 + 1, none⟩ = some (.int .i64 ((rd_T39 x4_1 (ji28)).f1)) := hcc34 1 _ rfl
           have hx34_2 : World.cell? _ ⟨go34, ((ji28) : Int).toNat * 3 + 2, none⟩ = some (.int .i64 ((rd_T39 x4_1 (ji28)).f2)) := hcc34 2 _ rfl
           have hf34_0 : World.frozen? _ ⟨go34, ((ji28) : Int).toNat * 3, none⟩ = false := hfr34 0
           have hf34_1 : World.frozen? _ ⟨go34, ((ji28) : Int).toNat * 3 + 1, none⟩ = false := hfr34 1
           have hf34_2 : World.frozen? _ ⟨go34, ((ji28) : Int).toNat * 3 + 2, none⟩ = false := hfr34 2
           clear hcl34 hcc34 hfr34 hM34
           replace p34 := eq_true p34
           replace q34 := eq_true q34
           obtain ⟨ce38, hcl38, hM38, hcc38, hfr38⟩ := Kd.R_elem HO_4.out z39 ((ji28) : Int) (oda) (by have h_ : ((ji28) : Int) < ((x4_1.length : Int) : Int) := oda; first | exact h_ | (have e_ := (Kd.R_reads' HO_4.out).1; omega) | simpa using h_)
           obtain rfl := k39_openM hM38
           have HP38 := (Kd.R_seg HO_4.out ((ji28) : Int) (oda) (by have h_ : ((ji28) : Int) < ((x4_1.length : Int) : Int) := oda; first | exact h_ | (have e_ := (Kd.R_reads' HO_4.out).1; omega) | simpa using h_) (seg := [.int .i64 (wrap64 ((ji33) - ((rd_T39 x4_1 (ji28)).f1)))]) (j := 2) hcl38 hcc38 (show 3 ≤ 3 from by decide) (x' := (⟨(rd_T39 x4_1 (ji28)).f0, (rd_T39 x4_1 (ji28)).f1, wrap64 ((ji33) - ((rd_T39 x4_1 (ji28)).f1))⟩ : S39)) (k39_mkM _ _ _ (⟨(rd_T39 x4_1 (ji28)).f0, (rd_T39 x4_1 (ji28)).f1, wrap64 ((ji33) - ((rd_T39 x4_1 (ji28)).f1))⟩ : S39) ) (fun _ hk => hk)).1
           rw [← Ny286.out] at HP38
           have HQ38 := Aside0.mk HP38
           clear hcl38 hcc38 hfr38 hM38 HP38
           refine hK.out _ _ ⟨(blk_cell BK278.out 0).trans rfl, (blk_cell BK278.out 1).trans rfl, (blk_cell BK278.out 2).trans rfl, HS3_, HS4_, HS5_, HS6_, HS7_, HS8_⟩ (fun hHeld => ?_)
           clear hK K
           refine norm_ (a' := ?_) ?_ ?_
           rotate_left
           ·show Act.put _ (some 54) _ = _
            simp only [Act.put, List.setIfInBounds_toArray, List.set_cons_zero, List.set_cons_succ, i64_w, i32_w]
            rfl
           refine pu 11 55 (bs 22 262143) HT_ ?_
           refine pu 18 62 (bs 22 524287) HT_ ?_
           refine pu 19 63 (bs 22 1048575) HT_ ?_
           refine pu 20 64 (bs 22 2097151) HT_ ?_
           refine last_ (i := 21) (N := none) (bs 22 4194303) rfl rfl (one_of HT_.out (by kernel_rfl)) (by decide) (fun K hK => ?_)
           refine skip_ (w1 := ?_) (by rfl) rfl ?_ ?_
           rotate_left
           ·go_simp
            rfl
           refine hK.out _ _ ?_
           clear hK K
           refine done_ (done_of HT_.out (by kernel_rfl)) ?_
           try go_wp2
           (try simp only [← hl12_1])
           go_roundg kj9
           case measure => have := HK1.out; have := HJ9.out; omega
           case rel => exact ⟨(y286), (x12_1), (wrap64 (x14_1 + 1)), eqs, H', ⟨by have := HK1.out; have := HJ9.out; omega⟩, ⟨by (try simp only [hl12_1]); (with_reducible repeat (first | apply Kd.R_alloc | apply Kd.R_drewN | apply Kd.R_drew)); exact Kd.R_mono HQ38.out (fun _ hk => hk.1)⟩, ⟨by (try simp only [hl12_1]); (with_reducible repeat (first | apply Kd.R_alloc | apply Kd.R_drewN | apply Kd.R_drew)); exact Kd.R_mono (Kd.R_far (p := ⟨go34, ((ji28) : Int).toNat * 3 + 2, none⟩) (Kd.R_mono HO_12.out (fun k_ hk => (⟨hk, fun e_ => hk.1 (by rw [e_]; rfl)⟩ : _ ∧ k_ ≠ go34))) (fun _ hk => hk.2) (.int .i64 (wrap64 ((ji33) - ((rd_T39 x4_1 (ji28)).f1))))) (fun _ hk => hk.1.1)⟩, ⟨by repeat (first | (with_reducible first | exact HB.out | apply below_alloc | apply pw_below_drewN | apply below_drew1 | refine below_set ?_ GB34.out | refine below_set ?_ GE278.out) | exact HB.out)⟩⟩
          ·rw [if_neg c30] at H
           exact absurd H (by simp)
         ·rw [if_neg c29] at H
          exact absurd H (by simp)
        ·replace c27 := Bool.eq_false_iff.mpr c27
         subst c27
         have H1 : (if x4_1.length < 5864062014805 then (lots_set.l0 kj9 (x4_1 ++ [(⟨((rd_T39 x12_1 x14_1).f0), ((rd_T39 x12_1 x14_1).f1), ((rd_T39 x12_1 x14_1).f2)⟩ : S39)]) x12_1 (t273.length : Int) (wrap64 (x14_1 + 1))) else (none)) = some r := by rw [if_neg (show ¬ (false = true) by decide)] at H; exact H
         clear H
         have H := H1
         clear H1
         by_cases c39 : x4_1.length < 5864062014805
         ·rw [if_pos c39] at H
          have LMc39 := Aside0.mk c39
          clear c39
          obtain ⟨y287, hy287⟩ : ∃ y_ : List (S39), y_ = (x4_1 ++ [(⟨((rd_T39 x12_1 x14_1).f0), ((rd_T39 x12_1 x14_1).f1), ((rd_T39 x12_1 x14_1).f2)⟩ : S39)]) := ⟨_, rfl⟩
          replace H : (lots_set.l0 kj9 y287 x12_1 (t273.length : Int) (wrap64 (x14_1 + 1))) = some r := by first | (rw [hy287]; with_reducible exact H) | (have H2_ := (Option.bind_some _ _).symm.trans H; rw [hy287]; with_reducible exact H2_) | (have H2_ := (Option.bind_some _ _).symm.trans H; with_reducible exact H2_) | with_reducible exact H | (rw [hy287]; exact H) | exact H
          have Ny287 := Aside0.mk hy287
          clear hy287
          have H' := Aside0.mk H
          clear H
          have hcz40_0 : wc.cell? ⟨gb278, 0, none⟩ = some (.int .i64 ((rd_T39 x12_1 x14_1).f0)) := (blk_cell BK278.out 0).trans rfl
          have hcz40_1 : wc.cell? ⟨gb278, 1, none⟩ = some (.int .i64 ((rd_T39 x12_1 x14_1).f1)) := (blk_cell BK278.out 1).trans rfl
          have hcz40_2 : wc.cell? ⟨gb278, 2, none⟩ = some (.int .i64 ((rd_T39 x12_1 x14_1).f2)) := (blk_cell BK278.out 2).trans rfl
          have hfz40_0 := blk_frozen BK278.out 0
          have hfz40_1 := blk_frozen BK278.out 1
          have hfz40_2 := blk_frozen BK278.out 2
          go_wp2_with (first | ((with_reducible refine gate_builtin (b := .append) (xs := #[.tmp 65, .tmp 67]) rfl ?_); at_builtin; refine Kd.R_append k39 (w0 := w) w.heap.size rfl (.tmp 65) (.tmp 67) 22 39 (.agg #[(.int .i64 0), (.int .i64 0), (.int .i64 0)]) 24 rfl Try.underlying22 info39 rfl (by decide) (by omega) (.slice Ao13 x4_1.length co13) x4_1 (⟨((rd_T39 x12_1 x14_1).f0), ((rd_T39 x12_1 x14_1).f1), ((rd_T39 x12_1 x14_1).f2)⟩ : S39) [.int .i64 ((rd_T39 x12_1 x14_1).f0), .int .i64 ((rd_T39 x12_1 x14_1).f1), .int .i64 ((rd_T39 x12_1 x14_1).f2)] (fun k_ => some k_ ≠ (.slice (some ad277) x12_1.length co5 : Value).ownBlock ∧ k_ ≠ gb278) (fun _ => False) rfl rfl ?aP (fun _ hk => hk.elim) ?aF ?aO ?aB ?aS ?aL ?_; (case aP => exact k39_mkM _ _ _ (⟨((rd_T39 x12_1 x14_1).f0), ((rd_T39 x12_1 x14_1).f1), ((rd_T39 x12_1 x14_1).f2)⟩ : S39)); (case aB => exact (by repeat (first | (with_reducible first | exact HB.out | apply below_alloc | apply pw_below_drewN | apply below_drew1 | refine below_set ?_ GE278.out) | exact HB.out))); (case aF => exact (fun k_ hk => ⟨Kd.fresh' (Kd.R_lt (kr HO_12.out)) k_ hk, Kd.freshB (g := gb278) (o := .cells #[.int .i64 ((rd_T39 x12_1 x14_1).f0), .int .i64 ((rd_T39 x12_1 x14_1).f1), .int .i64 ((rd_T39 x12_1 x14_1).f2)] 39 (0, 0)) (kb BK278.out) k_ hk⟩)); (case aO => exact (kr HO_4.out)); (case aS => exact (below_size (by repeat (first | (with_reducible first | exact HB.out | apply below_alloc | apply pw_below_drewN | apply below_drew1 | refine below_set ?_ GE278.out) | exact HB.out)))); (case aL => have := LMc39.out; omega); intro v288 w41 ho hb hg hat; rw [← Ny287.out] at ho; have n0_ := Aside0.mk (Kd.R_after (ok := (fun k_ => k_ ≠ gb278)) (by (with_reducible repeat (first | apply Kd.R_alloc | apply Kd.R_drewN | apply Kd.R_drew)); exact Kd.R_mono HO_12.out (fun _ hk => ⟨hk.2, hk.1⟩)) hg hat); have n1_ := Aside0.mk (blk_grown (g := gb278) (o := .cells #[.int .i64 ((rd_T39 x12_1 x14_1).f0), .int .i64 ((rd_T39 x12_1 x14_1).f1), .int .i64 ((rd_T39 x12_1 x14_1).f2)] 39 (0, 0)) (kb BK278.out) hg (Kd.R_away HO_4.out (fun _ hk => hk.2))); have n2_ := Aside0.mk (hb); have n3_ := Aside0.mk (ho); clear HO_12; clear BK278; clear HB; clear HO_4; have HO_12 := n0_; have BK278 := n1_; have HB := n2_; have HO289 := n3_; clear n0_ n1_ n2_ n3_; clear ho hb hg hat))
          (try simp only [← hl12_1])
          go_roundg kj9
          case measure => have := HK1.out; have := HJ9.out; omega
          case rel => exact ⟨(y287), (x12_1), (wrap64 (x14_1 + 1)), eqs, H', ⟨by have := HK1.out; have := HJ9.out; omega⟩, ⟨by (try simp only [hl12_1]); (with_reducible repeat (first | apply Kd.R_alloc | apply Kd.R_drewN | apply Kd.R_drew)); exact Kd.R_mono HO289.out (fun _ hk => hk.1)⟩, ⟨by (try simp only [hl12_1]); (with_reducible repeat (first | apply Kd.R_alloc | apply Kd.R_drewN | apply Kd.R_drew)); exact Kd.R_mono HO_12.out (fun _ hk => hk.2)⟩, ⟨by repeat (first | (with_reducible first | exact HB.out | apply below_alloc | apply pw_below_drewN | apply below_drew1 | refine below_set ?_ GE278.out) | exact HB.out)⟩⟩
         ·rw [if_neg c39] at H
          exact absurd H (by simp)
     ·rw [if_neg c9] at H
      exact absurd H (by simp)
    ·rw [if_neg c8] at H
     exact absurd H (by simp)
   ·rw [if_neg c7] at H
    have c7b0 : decide (x14_1 < (t273.length : Int)) = false := decide_eq_false c7
    clear c7
    (try simp only [hl12_1] at c7b0)
    obtain rfl := Option.some.inj H
    go_wp2
    go_ret
    exact ⟨_, by first | rfl | (simp [errW_none, errW_some] <;> rfl) | (simp [*, errW_none, errW_some] <;> rfl), by (with_reducible repeat (first | apply Kd.R_alloc | apply Kd.R_drewN | apply Kd.R_drew)); exact Kd.R_mono HO_4.out (fun _ hk => trivial), bw⟩
/-! ### lots_Minus -/
set_option maxHeartbeats 8000000 in
set_option maxRecDepth 100000 in
theorem lots_Minus.calls (k : Nat) (A0 : Option Addr) (c0 : Nat) (l0 : List (S39)) (A1 : Option Addr) (c1 : Nat) (l1 : List (S39)) (r : List (S39)) (w : World) (hr0 : Kd.C k39 w A0 l0.length l0) (hc0 : l0.length ≤ c0) (hr1 : Kd.C k39 w A1 l1.length l1) (hc1 : l1.length ≤ c1) (h : lots_Minus.f k l0 l1 = some r) :
  Calls Try.prog 31 #[.slice A0 l0.length c0, .slice A1 l1.length c1] w fun e w' => ∃ v0_ : Value, e = .returned (v0_) ∧ Kd.R k39 39 w' w.heap.size (fun _ => True) v0_ r ∧ Below w.heap.size w w' := by
 have HR0 := Aside0.mk hr0
 have HC0 := Aside0.mk hc0
 clear hr0 hc0
 have HR1 := Aside0.mk hr1
 have HC1 := Aside0.mk hc1
 clear hr1 hc1
 have HB := Aside0.mk (Below.refl w.heap.size w)
 have H : ((lots_Valid.f l0).bind fun t290 => (if t290 = true then ((lots_Valid.f l1).bind fun t291 => (lots_Minus.j0 k l0 l1 (!t291))) else (lots_Minus.j0 k l0 l1 true))) = some r := h
 clear h
 have HC3 := Aside0.mk H
 clear H
 go_enter Try.func31, Try.ntmps31
 go_upto_region 1 with (fail)
 go_cut [12] (fun v12 wc => ∃ (kq : Nat) (x12_2 : Bool), v12 = .bool x12_2 ∧ Aside0 (lots_Minus.j0 kq l0 l1 x12_2 = some r) ∧ Aside0 (kq ≤ k) ∧ Aside0 (Below w.heap.size w wc))
 case first =>
  have H := HC3.out
  clear HC3
  replace H := Option.bind_eq_some_iff.mp H
  obtain ⟨t290, A40, H⟩ := H
  replace H : (if t290 = true then ((lots_Valid.f l1).bind fun t291 => (lots_Minus.j0 k l0 l1 (!t291))) else (lots_Minus.j0 k l0 l1 true)) = some r := H
  have A4 := Aside0.mk A40
  clear A40
  by_cases c5 : t290 = true
  ·subst c5
   have H1 : ((lots_Valid.f l1).bind fun t291 => (lots_Minus.j0 k l0 l1 (!t291))) = some r := by rw [if_pos rfl] at H; exact H
   clear H
   have H := H1
   clear H1
   replace H := Option.bind_eq_some_iff.mp H
   obtain ⟨t291, A60, H⟩ := H
   replace H : (lots_Minus.j0 k l0 l1 (!t291)) = some r := H
   have A6 := Aside0.mk A60
   clear A60
   have H' := Aside0.mk H
   clear H
   go_wp2_with (first | ((with_reducible refine gate_callee (f := 22) rfl ?_); refine goesL_ (some 6) rfl rfl Try.func22 (by kernel_rfl) rfl #[.slice A0 l0.length c0] rfl (by (try simp only [List.map_toArray, List.map_cons, List.map_nil]); first | done | rfl | (simp only [List.length_drop, List.length_take]; rfl)) ?_; (with_reducible refine (lots_Valid.calls _ _ l0 true _ ?side1 ?side2 A4.out).mono ?_); (case side1 => repeat (first | exact (Kd.C_below HR0.out HB.out) | (with_reducible refine Kd.C_alloc ?_ _) | (with_reducible refine Kd.C_drewN ?_ _) | (with_reducible refine Kd.C_drew ?_))); (case side2 => exact HC0.out); rintro e w7 ⟨rfl, hb⟩; refine ⟨_, rfl, ?_⟩; have n0_ := Aside0.mk (below_step (bw) hb); clear HB; have HB := n0_; clear n0_; (try clear hb); (try clear hb2); (try clear hk); (try clear hi)) | (go_at_call 22; (with_reducible refine (lots_Valid.calls _ _ l1 t291 _ ?side1 ?side2 A6.out).mono ?_); (case side1 => repeat (first | exact (Kd.C_below HR1.out HB.out) | (with_reducible refine Kd.C_alloc ?_ _) | (with_reducible refine Kd.C_drewN ?_ _) | (with_reducible refine Kd.C_drew ?_))); (case side2 => exact HC1.out); rintro e w8 ⟨rfl, hb⟩; have n0_ := Aside0.mk (below_step (bw) hb); clear HB; have HB := n0_; clear n0_; (try clear hb); (try clear hb2); (try clear hk); (try clear hi)))
   go_meet
   case rel => exact ⟨_, (!t291), eqs, H', ⟨by first | omega | exact Nat.le_refl _⟩, ⟨bw⟩⟩
  ·replace c5 := Bool.eq_false_iff.mpr c5
   subst c5
   have H1 : (lots_Minus.j0 k l0 l1 true) = some r := by rw [if_neg (show ¬ (false = true) by decide)] at H; exact H
   clear H
   have H := H1
   clear H1
   have H' := Aside0.mk H
   clear H
   go_wp2_with (first | ((with_reducible refine gate_callee (f := 22) rfl ?_); refine goesL_ (some 6) rfl rfl Try.func22 (by kernel_rfl) rfl #[.slice A0 l0.length c0] rfl (by (try simp only [List.map_toArray, List.map_cons, List.map_nil]); first | done | rfl | (simp only [List.length_drop, List.length_take]; rfl)) ?_; (with_reducible refine (lots_Valid.calls _ _ l0 false _ ?side1 ?side2 A4.out).mono ?_); (case side1 => repeat (first | exact (Kd.C_below HR0.out HB.out) | (with_reducible refine Kd.C_alloc ?_ _) | (with_reducible refine Kd.C_drewN ?_ _) | (with_reducible refine Kd.C_drew ?_))); (case side2 => exact HC0.out); rintro e w9 ⟨rfl, hb⟩; refine ⟨_, rfl, ?_⟩; have n0_ := Aside0.mk (below_step (bw) hb); clear HB; have HB := n0_; clear n0_; (try clear hb); (try clear hb2); (try clear hk); (try clear hi)))
   go_meet
   case rel => exact ⟨_, (true), eqs, H', ⟨by first | omega | exact Nat.le_refl _⟩, ⟨bw⟩⟩
 case rest =>
  clear HC3
  try clear c1
  try clear c5
  obtain ⟨kq, x12_2, rfl, HA, HJ2, HB⟩ := hcut
  cases kq with
  | zero => exact absurd HA.out (by simp [lots_Minus.j0])
  | succ kj2 =>
   have H := HA.out
   clear HA
   simp only [lots_Minus.j0] at H
   by_cases c10 : x12_2 = true
   ·subst c10
    have H1 : (some ([] : List (S39))) = some r := by rw [if_pos rfl] at H; exact H
    clear H
    have H := H1
    clear H1
    obtain rfl := Option.some.inj H
    go_wp2
    go_ret
    exact ⟨_, by first | rfl | (simp [errW_none, errW_some] <;> rfl) | (simp [*, errW_none, errW_some] <;> rfl), by first | exact Kd.R_nil _ _ _ _ _ | exact Kd.N_nil _ _ _ _ _ | exact Kd.V_nil _ _ _ _ _ | exact Kd.Q_nil _ _ _ _ _ | exact Kd.S_nil _ _ _ _ _, bw⟩
   ·replace c10 := Bool.eq_false_iff.mpr c10
    subst c10
    have H1 : ((lots_set.f kj2 l0).bind fun t292 => ((lots_set.f kj2 l1).bind fun t295 => ((lots_chosen.f t292 t295 false).bind fun t298 => (some t298)))) = some r := by rw [if_neg (show ¬ (false = true) by decide)] at H; exact H
    clear H
    have H := H1
    clear H1
    replace H := Option.bind_eq_some_iff.mp H
    obtain ⟨t292, A110, H⟩ := H
    replace H : ((lots_set.f kj2 l1).bind fun t295 => ((lots_chosen.f t292 t295 false).bind fun t298 => (some t298))) = some r := H
    have A11 := Aside0.mk A110
    clear A110
    replace H := Option.bind_eq_some_iff.mp H
    obtain ⟨t295, A120, H⟩ := H
    replace H : ((lots_chosen.f t292 t295 false).bind fun t298 => (some t298)) = some r := H
    have A12 := Aside0.mk A120
    clear A120
    replace H := Option.bind_eq_some_iff.mp H
    obtain ⟨t298, A130, H⟩ := H
    replace H : (some t298) = some r := H
    have A13 := Aside0.mk A130
    clear A130
    obtain rfl := Option.some.inj H
    go_wp2_with (first | ((with_reducible refine gate_callee (f := 61) rfl ?_); refine goesL_ (some 14) rfl rfl Try.func61 (by kernel_rfl) rfl #[.slice A0 l0.length c0] rfl (by (try simp only [List.map_toArray, List.map_cons, List.map_nil]); first | done | rfl | (simp only [List.length_drop, List.length_take]; rfl)) ?_; (with_reducible refine (lots_set.calls kj2 _ _ l0 t292 _ ?side1 ?side2 A11.out).mono ?_); (case side1 => repeat (first | exact (Kd.C_below HR0.out HB.out) | (with_reducible refine Kd.C_alloc ?_ _) | (with_reducible refine Kd.C_drewN ?_ _) | (with_reducible refine Kd.C_drew ?_))); (case side2 => exact HC0.out); rintro e w14 ⟨v293, rfl, ho0, hb⟩; refine ⟨_, rfl, ?_⟩; have n0_ := Aside0.mk (Kd.R_lower ho0 (below_size (bw))); have n1_ := Aside0.mk (below_step (bw) hb); clear HB; have HO294 := n0_; have HB := n1_; clear n0_ n1_; (try clear hb); (try clear hb2); (try clear hk); (try clear hi); (try clear ho0)) | ((with_reducible refine gate_callee (f := 61) rfl ?_); refine goesL_ (some 16) rfl rfl Try.func61 (by kernel_rfl) rfl #[.slice A1 l1.length c1] rfl (by (try simp only [List.map_toArray, List.map_cons, List.map_nil]); first | done | rfl | (simp only [List.length_drop, List.length_take]; rfl)) ?_; (with_reducible refine (lots_set.calls kj2 _ _ l1 t295 _ ?side1 ?side2 A12.out).mono ?_); (case side1 => repeat (first | exact (Kd.C_below HR1.out HB.out) | (with_reducible refine Kd.C_alloc ?_ _) | (with_reducible refine Kd.C_drewN ?_ _) | (with_reducible refine Kd.C_drew ?_))); (case side2 => exact HC1.out); rintro e w15 ⟨v296, rfl, ho0, hb⟩; refine ⟨_, rfl, ?_⟩; have n0_ := Aside0.mk (Kd.R_elder' (kr HO294.out) (Kd.R_base ho0) hb); have n1_ := Aside0.mk (Kd.R_lower (Kd.R_new' ho0 (Kd.R_lt (kr HO294.out))) (below_size (bw))); have n2_ := Aside0.mk (below_step (bw) hb); clear HO294; clear HB; have HO294 := n0_; have HO297 := n1_; have HB := n2_; clear n0_ n1_ n2_; (try clear hb); (try clear hb2); (try clear hk); (try clear hi); (try clear ho0); obtain ⟨Ao16, co16, eo16⟩ := Kd.R_slice HO294.out; subst eo16; obtain ⟨Ao17, co17, eo17⟩ := Kd.R_slice HO297.out; subst eo17) | ((with_reducible refine gate_callee (f := 60) rfl ?_); refine goesL_ (some 17) rfl rfl Try.func60 (by kernel_rfl) rfl #[.slice Ao16 t292.length co16, .slice Ao17 t295.length co17, .bool false] rfl (by (try simp only [List.map_toArray, List.map_cons, List.map_nil]); first | done | rfl | (simp only [List.length_drop, List.length_take]; rfl)) ?_; (with_reducible refine (lots_chosen.calls _ _ t292 _ _ t295 false t298 _ ?side1 ?side2 ?side3 ?side4 A13.out).mono ?_); (case side1 => repeat (first | exact (Kd.R_reads' HO294.out).2.2 | (with_reducible refine Kd.C_alloc ?_ _) | (with_reducible refine Kd.C_drewN ?_ _) | (with_reducible refine Kd.C_drew ?_))); (case side2 => exact (Kd.R_reads' HO294.out).2.1); (case side3 => repeat (first | exact (Kd.R_reads' HO297.out).2.2 | (with_reducible refine Kd.C_alloc ?_ _) | (with_reducible refine Kd.C_drewN ?_ _) | (with_reducible refine Kd.C_drew ?_))); (case side4 => exact (Kd.R_reads' HO297.out).2.1); rintro e w18 ⟨v299, rfl, ho0, hb⟩; refine ⟨_, rfl, ?_⟩; have n0_ := Aside0.mk (Kd.R_elder' (kr HO294.out) (Kd.R_base ho0) hb); have n1_ := Aside0.mk (Kd.R_elder' (kr HO297.out) (Kd.R_base ho0) hb); have n2_ := Aside0.mk (Kd.R_lower (Kd.R_new' (Kd.R_new' ho0 (Kd.R_lt (kr HO294.out))) (Kd.R_lt (kr HO297.out))) (below_size (bw))); have n3_ := Aside0.mk (below_step (bw) hb); clear HO294; clear HO297; clear HB; have HO294 := n0_; have HO297 := n1_; have HO300 := n2_; have HB := n3_; clear n0_ n1_ n2_ n3_; (try clear hb); (try clear hb2); (try clear hk); (try clear hi); (try clear ho0)))
    go_ret
    exact ⟨_, by first | rfl | (simp [errW_none, errW_some] <;> rfl) | (simp [*, errW_none, errW_some] <;> rfl), by (with_reducible repeat (first | apply Kd.R_alloc | apply Kd.R_drewN | apply Kd.R_drew)); exact Kd.R_mono HO300.out (fun _ hk => trivial), bw⟩
end Go.Proofs.Ytcicjbgfahdejaa.P
