-- Written by a program of this session (wip/tools), out of the translation. Not trusted: Lean checks it.
import Derived.Test.YtcicjbgfahdejaaPx1
import Derived.Test.YtcicjbgfahdejaaPD
namespace Go.Proofs.Ytcicjbgfahdejaa.P
open Go.RowKit Go.Proofs.YtcicjbgfahdejaaW.PrintWords Go.Proofs.YtcicjbgfahdejaaW.PrintLast Go.Proofs.YtcicjbgfahdejaaW.PrintMore
attribute [local go_sem] max2_int min2_int max_two min_two max_three min_three max_four min_four   -- for this text's walks alone
set_option linter.unusedVariables false
set_option linter.unusedSimpArgs false

/-! ### worldmintref14_Add -/
def worldmintref14_Add.T6 : Bool × List (List Nat × List Nat) := (true, [([], []), ([0], [0]), ([1], [1]), ([2], [2]), ([2], [2]), ([4, 2], [2, 4]), ([3, 5, 2], [2, 3, 5]), ([6, 2], [2, 6]), ([7, 2], [2, 7]), ([2], [2]), ([9, 2], [2, 9]), ([8, 10, 2], [2, 8, 10]), ([2, 11], [2, 11]), ([12, 2], [12]), ([13], [13]), ([13], [13]), ([15, 13], [13, 15]), ([14, 16, 13], [13, 14, 16]), ([17, 13], [13, 17]), ([18, 13], [13, 18]), ([13], [13]), ([13], [13]), ([21, 13], [13, 21]), ([20, 22, 13], [13, 20, 22]), ([23, 13], [13, 23]), ([24, 13], [13, 24]), ([19, 25, 13], [13, 19, 25]), ([13], [13]), ([27, 13], [13, 27]), ([26, 28, 13], [13, 26, 28]), ([13, 29], [13, 29])])
def worldmintref14_Add.B6 : List Nat := [0, 1, 3, 7, 7, 23, 63, 127, 255, 7, 519, 2047, 4095, 8191, 16383, 16383, 49151, 131071, 262143, 524287, 16383, 16383, 2113535, 7356415, 15745023, 32522239, 67108863, 16383, 134234111, 536870911, 1073741823]
theorem worldmintref14_Add.tab6 : rtab .any (opsOf Try.f53 6) = worldmintref14_Add.T6 := by kernel_rfl
theorem worldmintref14_Add.bits6 : waitsOk worldmintref14_Add.T6.2 worldmintref14_Add.B6 = true := by kernel_rfl
def worldmintref14_Add.T7 : Bool × List (List Nat × List Nat) := (true, [([], []), ([], []), ([1], [1]), ([], []), ([], []), ([4], [4]), ([3, 5], [3, 5]), ([6], [6]), ([7], [7]), ([], []), ([9], [9]), ([8, 10], [8, 10]), ([0, 2, 0, 1, 2, 3, 4, 5, 6, 7, 8, 9, 10, 11], [0, 2]), ([12, 0, 1, 2, 3, 4, 5, 6, 7, 8, 9, 10, 11], [12]), ([13, 11, 0, 1, 2, 3, 4, 5, 6, 7, 8, 9, 10, 11], [11, 13])])
def worldmintref14_Add.B7 : List Nat := [0, 0, 2, 0, 0, 16, 56, 120, 248, 0, 512, 2040, 4095, 8191, 16383]
theorem worldmintref14_Add.tab7 : rtab .any (opsOf Try.f53 7) = worldmintref14_Add.T7 := by kernel_rfl
theorem worldmintref14_Add.bits7 : waitsOk worldmintref14_Add.T7.2 worldmintref14_Add.B7 = true := by kernel_rfl
set_option maxHeartbeats 8000000 in
set_option maxRecDepth 100000 in
theorem worldmintref14_Add.calls (k : Nat) (A0 : Option Addr) (c0 : Nat) (l0 : List (S39)) (a1_0 : Int) (a1_1 : Int) (a1_2 : Int) (r : List (S39)) (w : World) (hr0 : Kd.C k39 w A0 l0.length l0) (hc0 : l0.length ≤ c0) (h : worldmintref14_Add.f k l0 a1_0 a1_1 a1_2 = some r) :
  Calls Try.prog 53 #[.slice A0 l0.length c0, .agg #[.int .i64 a1_0, .int .i64 a1_1, .int .i64 a1_2]] w fun e w' => ∃ v0_ : Value, e = .returned (v0_) ∧ Kd.R k39 39 w' w.heap.size (fun _ => True) v0_ r ∧ Below w.heap.size w w' := by
 have hu39 := Try.underlying39
 have HR0 := Aside0.mk hr0
 have HC0 := Aside0.mk hc0
 clear hr0 hc0
 have HB := Aside0.mk (Below.refl w.heap.size w)
 have H : (if ([] : List (S39)).length + l0.length < 5864062014805 then ((some (([] : List (S39)) ++ l0 : List (S39))).bind fun y218 => (if a1_2 = 0 then (some y218) else (if (y218.length : Int) > 0 then (if 0 ≤ (wrap64 ((y218.length : Int) - 1)) then (if (wrap64 ((y218.length : Int) - 1)) < (y218.length : Int) then (if ((rd_T39 y218 (wrap64 ((y218.length : Int) - 1))).f0) = a1_0 then (worldmintref14_Add.j0 k y218 (y218.length : Int) ((wrap64 (((rd_T39 y218 (wrap64 ((y218.length : Int) - 1))).f1) + ((rd_T39 y218 (wrap64 ((y218.length : Int) - 1))).f2))) == a1_1) a1_0 a1_1 a1_2) else (worldmintref14_Add.j0 k y218 (y218.length : Int) false a1_0 a1_1 a1_2)) else (none)) else (none)) else (worldmintref14_Add.j0 k y218 (y218.length : Int) false a1_0 a1_1 a1_2)))) else (none)) = some r := h
 clear h
 by_cases c3 : ([] : List (S39)).length + l0.length < 5864062014805
 ·rw [if_pos c3] at H
  have LMc3 := Aside0.mk c3
  clear c3
  obtain ⟨y218, hy218⟩ : ∃ y_ : List (S39), y_ = (([] : List (S39)) ++ l0) := ⟨_, rfl⟩
  replace H : (if a1_2 = 0 then (some y218) else (if (y218.length : Int) > 0 then (if 0 ≤ (wrap64 ((y218.length : Int) - 1)) then (if (wrap64 ((y218.length : Int) - 1)) < (y218.length : Int) then (if ((rd_T39 y218 (wrap64 ((y218.length : Int) - 1))).f0) = a1_0 then (worldmintref14_Add.j0 k y218 (y218.length : Int) ((wrap64 (((rd_T39 y218 (wrap64 ((y218.length : Int) - 1))).f1) + ((rd_T39 y218 (wrap64 ((y218.length : Int) - 1))).f2))) == a1_1) a1_0 a1_1 a1_2) else (worldmintref14_Add.j0 k y218 (y218.length : Int) false a1_0 a1_1 a1_2)) else (none)) else (none)) else (worldmintref14_Add.j0 k y218 (y218.length : Int) false a1_0 a1_1 a1_2))) = some r := by first | (rw [hy218]; with_reducible exact H) | (have H2_ := (Option.bind_some _ _).symm.trans H; rw [hy218]; with_reducible exact H2_) | (have H2_ := (Option.bind_some _ _).symm.trans H; with_reducible exact H2_) | with_reducible exact H | (rw [hy218]; exact H) | exact H
  have Ny218 := Aside0.mk hy218
  clear hy218
  by_cases c4 : a1_2 = 0
  ·rw [if_pos c4] at H
   have c4b0 : (a1_2 == 0) = true := beq_iff_eq.mpr c4
   have c4b1 : (a1_2 != 0) = false := bne_eq_false_iff_eq.mpr c4
   clear c4
   obtain rfl := Option.some.inj H
   go_enter Try.func53, Try.ntmps53
   go_wp2_with (first | ((with_reducible refine gate_dst (N := 3) rfl ?_); refine box_event ?hg (N := 3) ?hd (cs := #[.int .i64 a1_0, .int .i64 a1_1, .int .i64 a1_2]) (t := 39) ?hr ?_; (case hd => rfl); (case hg => rfl); (case hr => first | (go_simp; done) | (go_simp; rfl)); intro gb217 hg w5 hbox hb; have n0_ := Aside0.mk (below_step (bw) hb); have n1_ := Aside0.mk (hbox); have n2_ := Aside0.mk ((by rw [hg]; exact (below_size (bw)) : w.heap.size ≤ gb217)); have n3_ := Aside0.mk ((by rw [hg]; exact (below_size (bw)) : w.heap.size ≤ gb217)); clear HB; have HB := n0_; have BK217 := n1_; have GW217 := n2_; have GE217 := n3_; clear n0_ n1_ n2_ n3_; clear hb hbox hg) | ((with_reducible refine gate_builtin (b := .append) (xs := #[.tmp 7, .tmp 8]) rfl ?_); at_builtin; refine Kd.R_append_rows k39 (w0 := w) w.heap.size rfl (.tmp 7) (.tmp 8) 22 39 (.agg #[(.int .i64 0), (.int .i64 0), (.int .i64 0)]) 24 rfl Try.underlying22 info39 rfl (by decide) (by omega) (.slice none 0 0) ([] : List (S39)) l0 _ _ _ (fun k_ => k_ ≠ gb217) (fun _ => False) rfl rfl ?aO ?aR (fun _ _ h => h) (fun _ h => h.elim) ?aF ?aB ?aS ?aL ?_; (case aR => repeat (first | exact (Kd.C_below HR0.out HB.out) | (with_reducible refine Kd.C_alloc ?_ _) | (with_reducible refine Kd.C_drewN ?_ _) | (with_reducible refine Kd.C_drew ?_))); (case aB => exact (by repeat (first | (with_reducible first | exact HB.out | apply below_alloc | apply pw_below_drewN | apply below_drew1 | refine below_set ?_ GE217.out) | exact HB.out))); (case aF => exact (fun k_ hk => Kd.freshB (g := gb217) (o := .cells #[.int .i64 a1_0, .int .i64 a1_1, .int .i64 a1_2] 39 (0, 0)) (kb BK217.out) k_ hk)); (case aO => exact ((Kd.R_nil _ _ _ _ (fun k_ => k_ ≠ gb217)))); (case aS => exact (below_size (by repeat (first | (with_reducible first | exact HB.out | apply below_alloc | apply pw_below_drewN | apply below_drew1 | refine below_set ?_ GE217.out) | exact HB.out)))); (case aL => have := LMc3.out; omega); intro v219 w6 ho hb hg hat; rw [← Ny218.out] at ho; have n0_ := Aside0.mk (blk_grown (g := gb217) (o := .cells #[.int .i64 a1_0, .int .i64 a1_1, .int .i64 a1_2] 39 (0, 0)) (kb BK217.out) hg (by simp [Value.ownBlock])); have n1_ := Aside0.mk (hb); have n2_ := Aside0.mk (ho); clear BK217; clear HB; have BK217 := n0_; have HB := n1_; have HO220 := n2_; clear n0_ n1_ n2_; clear ho hb hg hat; obtain ⟨Ao7, co7, eo7⟩ := Kd.R_slice HO220.out; subst eo7; have hcz8_0 : w6.cell? ⟨gb217, 0, none⟩ = some (.int .i64 a1_0) := (blk_cell BK217.out 0).trans rfl; have hcz8_1 : w6.cell? ⟨gb217, 1, none⟩ = some (.int .i64 a1_1) := (blk_cell BK217.out 1).trans rfl; have hcz8_2 : w6.cell? ⟨gb217, 2, none⟩ = some (.int .i64 a1_2) := (blk_cell BK217.out 2).trans rfl; have hfz8_0 := blk_frozen BK217.out 0; have hfz8_1 := blk_frozen BK217.out 1; have hfz8_2 := blk_frozen BK217.out 2))
   go_ret
   exact ⟨_, by first | rfl | (simp [errW_none, errW_some] <;> rfl) | (simp [*, errW_none, errW_some] <;> rfl), by (with_reducible repeat (first | apply Kd.R_alloc | apply Kd.R_drewN | apply Kd.R_drew)); exact Kd.R_mono HO220.out (fun _ hk => trivial), by repeat (first | (with_reducible first | exact HB.out | apply below_alloc | apply pw_below_drewN | apply below_drew1 | refine below_set ?_ GE217.out) | exact HB.out)⟩
  ·rw [if_neg c4] at H
   have c4b0 : (a1_2 == 0) = false := beq_eq_false_iff_ne.mpr c4
   have c4b1 : (a1_2 != 0) = true := bne_iff_ne.mpr c4
   have HC9 := Aside0.mk H
   clear H
   go_enter Try.func53, Try.ntmps53
   go_upto_region 6 with (first | ((with_reducible refine gate_dst (N := 3) rfl ?_); refine box_event ?hg (N := 3) ?hd (cs := #[.int .i64 a1_0, .int .i64 a1_1, .int .i64 a1_2]) (t := 39) ?hr ?_; (case hd => rfl); (case hg => rfl); (case hr => first | (go_simp; done) | (go_simp; rfl)); intro gb217 hg w10 hbox hb; have n0_ := Aside0.mk (below_step (bw) hb); have n1_ := Aside0.mk (hbox); have n2_ := Aside0.mk ((by rw [hg]; exact (below_size (bw)) : w.heap.size ≤ gb217)); have n3_ := Aside0.mk ((by rw [hg]; exact (below_size (bw)) : w.heap.size ≤ gb217)); clear HB; have HB := n0_; have BK217 := n1_; have GW217 := n2_; have GE217 := n3_; clear n0_ n1_ n2_ n3_; clear hb hbox hg) | ((with_reducible refine gate_builtin (b := .append) (xs := #[.tmp 7, .tmp 8]) rfl ?_); at_builtin; refine Kd.R_append_rows k39 (w0 := w) w.heap.size rfl (.tmp 7) (.tmp 8) 22 39 (.agg #[(.int .i64 0), (.int .i64 0), (.int .i64 0)]) 24 rfl Try.underlying22 info39 rfl (by decide) (by omega) (.slice none 0 0) ([] : List (S39)) l0 _ _ _ (fun k_ => k_ ≠ gb217) (fun _ => False) rfl rfl ?aO ?aR (fun _ _ h => h) (fun _ h => h.elim) ?aF ?aB ?aS ?aL ?_; (case aR => repeat (first | exact (Kd.C_below HR0.out HB.out) | (with_reducible refine Kd.C_alloc ?_ _) | (with_reducible refine Kd.C_drewN ?_ _) | (with_reducible refine Kd.C_drew ?_))); (case aB => exact (by repeat (first | (with_reducible first | exact HB.out | apply below_alloc | apply pw_below_drewN | apply below_drew1 | refine below_set ?_ GE217.out) | exact HB.out))); (case aF => exact (fun k_ hk => Kd.freshB (g := gb217) (o := .cells #[.int .i64 a1_0, .int .i64 a1_1, .int .i64 a1_2] 39 (0, 0)) (kb BK217.out) k_ hk)); (case aO => exact ((Kd.R_nil _ _ _ _ (fun k_ => k_ ≠ gb217)))); (case aS => exact (below_size (by repeat (first | (with_reducible first | exact HB.out | apply below_alloc | apply pw_below_drewN | apply below_drew1 | refine below_set ?_ GE217.out) | exact HB.out)))); (case aL => have := LMc3.out; omega); intro v219 w11 ho hb hg hat; rw [← Ny218.out] at ho; have n0_ := Aside0.mk (blk_grown (g := gb217) (o := .cells #[.int .i64 a1_0, .int .i64 a1_1, .int .i64 a1_2] 39 (0, 0)) (kb BK217.out) hg (by simp [Value.ownBlock])); have n1_ := Aside0.mk (hb); have n2_ := Aside0.mk (ho); clear BK217; clear HB; have BK217 := n0_; have HB := n1_; have HO220 := n2_; clear n0_ n1_ n2_; clear ho hb hg hat; obtain ⟨Ao12, co12, eo12⟩ := Kd.R_slice HO220.out; subst eo12; have hcz13_0 : w11.cell? ⟨gb217, 0, none⟩ = some (.int .i64 a1_0) := (blk_cell BK217.out 0).trans rfl; have hcz13_1 : w11.cell? ⟨gb217, 1, none⟩ = some (.int .i64 a1_1) := (blk_cell BK217.out 1).trans rfl; have hcz13_2 : w11.cell? ⟨gb217, 2, none⟩ = some (.int .i64 a1_2) := (blk_cell BK217.out 2).trans rfl; have hfz13_0 := blk_frozen BK217.out 0; have hfz13_1 := blk_frozen BK217.out 1; have hfz13_2 := blk_frozen BK217.out 2))
   (try simp only [Act.put, List.setIfInBounds_toArray, List.set_cons_zero, List.set_cons_succ])
   go_cut [46] (fun v46 wc => ∃ (kq : Nat) (x46_8 : Bool), v46 = .bool x46_8 ∧ Aside0 (worldmintref14_Add.j0 kq y218 (y218.length : Int) x46_8 a1_0 a1_1 a1_2 = some r) ∧ Aside0 (kq ≤ k) ∧ Aside0 (Kd.R k39 39 wc w.heap.size (fun k_ => k_ ≠ gb217) (.slice Ao12 y218.length co12) y218) ∧ Aside0 (wc.heap[gb217]? = some (.cells #[.int .i64 a1_0, .int .i64 a1_1, .int .i64 a1_2] 39 (0, 0))) ∧ Aside0 (Below w.heap.size w wc))
   case first =>
    have H := HC9.out
    clear HC9
    by_cases c14 : (y218.length : Int) > 0
    ·rw [if_pos c14] at H
     have c14b0 : decide (0 < (y218.length : Int)) = true := decide_eq_true c14
     have c14b1 : decide (0 < y218.length) = true := decide_eq_true (by omega)
     clear c14
     (first | rw [c14b0] | (simp only [i64_w, i32_w]; rw [c14b0]) | skip)
     obtain ⟨ji15, hji15⟩ : ∃ j_ : Int, (wrap64 ((y218.length : Int) - 1)) = j_ := ⟨_, rfl⟩
     replace H : (if 0 ≤ (ji15) then (if (ji15) < (y218.length : Int) then (if ((rd_T39 y218 (ji15)).f0) = a1_0 then (worldmintref14_Add.j0 k y218 (y218.length : Int) ((wrap64 (((rd_T39 y218 (ji15)).f1) + ((rd_T39 y218 (ji15)).f2))) == a1_1) a1_0 a1_1 a1_2) else (worldmintref14_Add.j0 k y218 (y218.length : Int) false a1_0 a1_1 a1_2)) else (none)) else (none)) = some r := by first | (rw [hji15] at H; exact H) | (simp only [hji15] at H ⊢; exact H)
     have hji15w : (IntKind.i64.wrap ((y218.length : Int) - 1)) = ji15 := (i64_w _).trans hji15
     by_cases c16 : 0 ≤ (ji15)
     ·rw [if_pos c16] at H
      have c16b0 : decide (0 ≤ (ji15)) = true := decide_eq_true c16
      clear c16
      by_cases c17 : (ji15) < (y218.length : Int)
      ·rw [if_pos c17] at H
       have c17b0 : decide ((ji15) < (y218.length : Int)) = true := decide_eq_true c17
       clear c17
       by_cases c18 : ((rd_T39 y218 (ji15)).f0) = a1_0
       ·rw [if_pos c18] at H
        have c18b0 : (((rd_T39 y218 (ji15)).f0) == a1_0) = true := beq_iff_eq.mpr c18
        have c18b1 : (((rd_T39 y218 (ji15)).f0) != a1_0) = false := bne_eq_false_iff_eq.mpr c18
        clear c18
        have H' := Aside0.mk H
        clear H
        try go_wp2
        have n0_ := Aside0.mk (Kd.R_drew HO220.out)
        have n1_ := Aside0.mk (blk_drew BK217.out)
        have n2_ := Aside0.mk (below_drew1 HB.out)
        clear HO220
        clear BK217
        clear HB
        have HO220 := n0_
        have BK217 := n1_
        have HB := n2_
        clear n0_ n1_ n2_
        have p221 : 0 ≤ ((ji15) : Int) := oda
        have q221 : (ji15) < (y218.length : Int) := oda
        obtain ⟨ad221, e221, hx221_0, hx221_1, hx221_2⟩ := at_T39 (Kd.R_reads' HO220.out).2.2 (ji15) p221 q221
        cases e221
        replace p221 := eq_true p221
        replace q221 := eq_true q221
        have p222 : 0 ≤ ((ji15) : Int) := oda
        have q222 : (ji15) < (y218.length : Int) := oda
        obtain ⟨ad222, e222, hx222_0, hx222_1, hx222_2⟩ := at_T39 (Kd.R_reads' HO220.out).2.2 (ji15) p222 q222
        obtain rfl : ad221 = ad222 := (by injection e222)
        replace p222 := eq_true p222
        replace q222 := eq_true q222
        have p223 : 0 ≤ ((ji15) : Int) := oda
        have q223 : (ji15) < (y218.length : Int) := oda
        obtain ⟨ad223, e223, hx223_0, hx223_1, hx223_2⟩ := at_T39 (Kd.R_reads' HO220.out).2.2 (ji15) p223 q223
        obtain rfl : ad221 = ad223 := (by injection e223)
        replace p223 := eq_true p223
        replace q223 := eq_true q223
        refine start_ (n := 31) (S := fun w' => w'.cell? ⟨gb217, 0, none⟩ = some (.int .i64 a1_0) ∧ w'.cell? ⟨gb217, 1, none⟩ = some (.int .i64 a1_1) ∧ w'.cell? ⟨gb217, 2, none⟩ = some (.int .i64 a1_2) ∧ w'.cell? (ad221.add (((ji15)).toNat * 3)) = some (.int .i64 ((rd_T39 y218 (ji15)).f0)) ∧ w'.cell? ⟨(ad221.add (((ji15)).toNat * 3)).block, (ad221.add (((ji15)).toNat * 3)).off + 1, none⟩ = some (.int .i64 ((rd_T39 y218 (ji15)).f1)) ∧ w'.cell? ⟨(ad221.add (((ji15)).toNat * 3)).block, (ad221.add (((ji15)).toNat * 3)).off + 2, none⟩ = some (.int .i64 ((rd_T39 y218 (ji15)).f2)) ∧ w'.cell? (ad221.add (((ji15)).toNat * 3)) = some (.int .i64 ((rd_T39 y218 (ji15)).f0)) ∧ w'.cell? ⟨(ad221.add (((ji15)).toNat * 3)).block, (ad221.add (((ji15)).toNat * 3)).off + 1, none⟩ = some (.int .i64 ((rd_T39 y218 (ji15)).f1)) ∧ w'.cell? ⟨(ad221.add (((ji15)).toNat * 3)).block, (ad221.add (((ji15)).toNat * 3)).off + 2, none⟩ = some (.int .i64 ((rd_T39 y218 (ji15)).f2)) ∧ w'.cell? (ad221.add (((ji15)).toNat * 3)) = some (.int .i64 ((rd_T39 y218 (ji15)).f0)) ∧ w'.cell? ⟨(ad221.add (((ji15)).toNat * 3)).block, (ad221.add (((ji15)).toNat * 3)).off + 1, none⟩ = some (.int .i64 ((rd_T39 y218 (ji15)).f1)) ∧ w'.cell? ⟨(ad221.add (((ji15)).toNat * 3)).block, (ad221.add (((ji15)).toNat * 3)).off + 2, none⟩ = some (.int .i64 ((rd_T39 y218 (ji15)).f2))) (ds := []) (bs 31 0) (by kernel_rfl) rfl rfl ⟨(blk_cell BK217.out 0).trans rfl, (blk_cell BK217.out 1).trans rfl, (blk_cell BK217.out 2).trans rfl, hx221_0, hx221_1, hx221_2, hx222_0, hx222_1, hx222_2, hx223_0, hx223_1, hx223_2⟩ (fun hHeld => ?_); refine with_tabW worldmintref14_Add.tab6 worldmintref14_Add.bits6 (fun HT_ HW_ => ?_)
        generalize w11.drew = w19 at HO220 BK217 HB hx221_0 hx221_1 hx221_2 hx222_0 hx222_1 hx222_2 hx223_0 hx223_1 hx223_2 hHeld ⊢
        refine pu 0 16 (bs 31 1) HT_ ?_
        refine pu 1 17 (bs 31 3) HT_ ?_
        refine pu 2 18 (bs 31 7) HT_ ?_
        refine pu 3 19 (bs 31 15) HT_ ?_
        refine pu 4 20 (bs 31 31) HT_ ?_
        refine pu 5 21 (bs 31 63) HT_ ?_
        refine pu 6 22 (bs 31 127) HT_ ?_
        refine pu 7 23 (bs 31 255) HT_ ?_
        refine pu 9 25 (bs 31 767) HT_ ?_
        refine take_ (i := 8) (N := some 24) (v := ?_) (a' := ?_) (bs 31 1023) rfl rfl (take_ofW HT_.out HW_.out (by kernel_rfl)) (fun _ _ _ h => h) (Or.inl ⟨by rfl, ?_⟩) hHeld ?_ ?_
        rotate_left
        ·rintro w' ⟨s0, s1, s2, s3, s4, s5, s6, s7, s8, s9, s10, s11⟩
         go_simp
         with_reducible rfl
        rotate_left
        ·simp only [Act.put, List.setIfInBounds_toArray, List.set_cons_zero, List.set_cons_succ, i64_w, i32_w]
         rfl
        refine take_ (i := 10) (N := some 26) (v := ?_) (a' := ?_) (bs 31 2047) rfl rfl (take_ofW HT_.out HW_.out (by kernel_rfl)) (fun _ _ _ h => h) (Or.inl ⟨by rfl, ?_⟩) hHeld ?_ ?_
        rotate_left
        ·rintro w' ⟨s0, s1, s2, s3, s4, s5, s6, s7, s8, s9, s10, s11⟩
         go_simp
         with_reducible rfl
        rotate_left
        ·simp only [Act.put, List.setIfInBounds_toArray, List.set_cons_zero, List.set_cons_succ, i64_w, i32_w]
         rfl
        refine pu 11 27 (bs 31 4095) HT_ ?_
        refine pu 12 28 (bs 31 8191) HT_ ?_
        refine pu 13 29 (bs 31 16383) HT_ ?_
        refine pu 14 30 (bs 31 32767) HT_ ?_
        refine pu 15 31 (bs 31 65535) HT_ ?_
        refine pu 16 32 (bs 31 131071) HT_ ?_
        refine pu 17 33 (bs 31 262143) HT_ ?_
        refine pu 18 34 (bs 31 524287) HT_ ?_
        refine pu 20 36 (bs 31 1572863) HT_ ?_
        refine pu 21 37 (bs 31 3670015) HT_ ?_
        refine pu 22 38 (bs 31 7864319) HT_ ?_
        refine pu 23 39 (bs 31 16252927) HT_ ?_
        refine pu 24 40 (bs 31 33030143) HT_ ?_
        refine pu 27 43 (bs 31 167247871) HT_ ?_
        refine take_ (i := 19) (N := some 35) (v := ?_) (a' := ?_) (bs 31 167772159) rfl rfl (take_ofW HT_.out HW_.out (by kernel_rfl)) (fun _ _ _ h => h) (Or.inl ⟨by rfl, ?_⟩) hHeld ?_ ?_
        rotate_left
        ·rintro w' ⟨s0, s1, s2, s3, s4, s5, s6, s7, s8, s9, s10, s11⟩
         go_simp
         with_reducible rfl
        rotate_left
        ·simp only [Act.put, List.setIfInBounds_toArray, List.set_cons_zero, List.set_cons_succ, i64_w, i32_w]
         rfl
        refine take_ (i := 25) (N := some 41) (v := ?_) (a' := ?_) (bs 31 201326591) rfl rfl (take_ofW HT_.out HW_.out (by kernel_rfl)) (fun _ _ _ h => h) (Or.inl ⟨by rfl, ?_⟩) hHeld ?_ ?_
        rotate_left
        ·rintro w' ⟨s0, s1, s2, s3, s4, s5, s6, s7, s8, s9, s10, s11⟩
         go_simp
         with_reducible rfl
        rotate_left
        ·simp only [Act.put, List.setIfInBounds_toArray, List.set_cons_zero, List.set_cons_succ, i64_w, i32_w]
         rfl
        refine pu 26 42 (bs 31 268435455) HT_ ?_
        refine take_ (i := 28) (N := some 44) (v := ?_) (a' := ?_) (bs 31 536870911) rfl rfl (take_ofW HT_.out HW_.out (by kernel_rfl)) (fun _ _ _ h => h) (Or.inl ⟨by rfl, ?_⟩) hHeld ?_ ?_
        rotate_left
        ·rintro w' ⟨s0, s1, s2, s3, s4, s5, s6, s7, s8, s9, s10, s11⟩
         go_simp
         with_reducible rfl
        rotate_left
        ·simp only [Act.put, List.setIfInBounds_toArray, List.set_cons_zero, List.set_cons_succ, i64_w, i32_w]
         rfl
        refine pu 29 45 (bs 31 1073741823) HT_ ?_
        refine pu 30 46 (bs 31 2147483647) HT_ ?_
        refine done_ (done_of HT_.out (by kernel_rfl)) ?_
        try go_wp2
        go_meet
        case rel => exact ⟨_, (((wrap64 (((rd_T39 y218 (ji15)).f1) + ((rd_T39 y218 (ji15)).f2))) == a1_1)), (by first | rfl | (simp only [i64_w]; done) | (simp; done) | (simp only [← hji15] <;> (first | rfl | (simp only [i64_w]; done) | simp)) | (simp [*]; done)), H', ⟨by first | omega | exact Nat.le_refl _⟩, ⟨kr HO220.out⟩, ⟨kb BK217.out⟩, ⟨by repeat (first | (with_reducible first | exact HB.out | apply below_alloc | apply pw_below_drewN | apply below_drew1 | refine below_set ?_ GE217.out) | exact HB.out)⟩⟩
       ·rw [if_neg c18] at H
        have c18b0 : (((rd_T39 y218 (ji15)).f0) == a1_0) = false := beq_eq_false_iff_ne.mpr c18
        have c18b1 : (((rd_T39 y218 (ji15)).f0) != a1_0) = true := bne_iff_ne.mpr c18
        have H' := Aside0.mk H
        clear H
        try go_wp2
        have n0_ := Aside0.mk (Kd.R_drew HO220.out)
        have n1_ := Aside0.mk (blk_drew BK217.out)
        have n2_ := Aside0.mk (below_drew1 HB.out)
        clear HO220
        clear BK217
        clear HB
        have HO220 := n0_
        have BK217 := n1_
        have HB := n2_
        clear n0_ n1_ n2_
        have p221 : 0 ≤ ((ji15) : Int) := oda
        have q221 : (ji15) < (y218.length : Int) := oda
        obtain ⟨ad221, e221, hx221_0, hx221_1, hx221_2⟩ := at_T39 (Kd.R_reads' HO220.out).2.2 (ji15) p221 q221
        cases e221
        replace p221 := eq_true p221
        replace q221 := eq_true q221
        refine start_ (n := 31) (S := fun w' => w'.cell? ⟨gb217, 0, none⟩ = some (.int .i64 a1_0) ∧ w'.cell? ⟨gb217, 1, none⟩ = some (.int .i64 a1_1) ∧ w'.cell? ⟨gb217, 2, none⟩ = some (.int .i64 a1_2) ∧ w'.cell? (ad221.add (((ji15)).toNat * 3)) = some (.int .i64 ((rd_T39 y218 (ji15)).f0)) ∧ w'.cell? ⟨(ad221.add (((ji15)).toNat * 3)).block, (ad221.add (((ji15)).toNat * 3)).off + 1, none⟩ = some (.int .i64 ((rd_T39 y218 (ji15)).f1)) ∧ w'.cell? ⟨(ad221.add (((ji15)).toNat * 3)).block, (ad221.add (((ji15)).toNat * 3)).off + 2, none⟩ = some (.int .i64 ((rd_T39 y218 (ji15)).f2))) (ds := []) (bs 31 0) (by kernel_rfl) rfl rfl ⟨(blk_cell BK217.out 0).trans rfl, (blk_cell BK217.out 1).trans rfl, (blk_cell BK217.out 2).trans rfl, hx221_0, hx221_1, hx221_2⟩ (fun hHeld => ?_); refine with_tabW worldmintref14_Add.tab6 worldmintref14_Add.bits6 (fun HT_ HW_ => ?_)
        generalize w11.drew = w20 at HO220 BK217 HB hx221_0 hx221_1 hx221_2 hHeld ⊢
        refine pu 0 16 (bs 31 1) HT_ ?_
        refine pu 1 17 (bs 31 3) HT_ ?_
        refine pu 2 18 (bs 31 7) HT_ ?_
        refine pu 3 19 (bs 31 15) HT_ ?_
        refine pu 4 20 (bs 31 31) HT_ ?_
        refine pu 5 21 (bs 31 63) HT_ ?_
        refine pu 6 22 (bs 31 127) HT_ ?_
        refine pu 7 23 (bs 31 255) HT_ ?_
        refine pu 9 25 (bs 31 767) HT_ ?_
        refine take_ (i := 8) (N := some 24) (v := ?_) (a' := ?_) (bs 31 1023) rfl rfl (take_ofW HT_.out HW_.out (by kernel_rfl)) (fun _ _ _ h => h) (Or.inl ⟨by rfl, ?_⟩) hHeld ?_ ?_
        rotate_left
        ·rintro w' ⟨s0, s1, s2, s3, s4, s5⟩
         go_simp
         with_reducible rfl
        rotate_left
        ·simp only [Act.put, List.setIfInBounds_toArray, List.set_cons_zero, List.set_cons_succ, i64_w, i32_w]
         rfl
        refine take_ (i := 10) (N := some 26) (v := ?_) (a' := ?_) (bs 31 2047) rfl rfl (take_ofW HT_.out HW_.out (by kernel_rfl)) (fun _ _ _ h => h) (Or.inl ⟨by rfl, ?_⟩) hHeld ?_ ?_
        rotate_left
        ·rintro w' ⟨s0, s1, s2, s3, s4, s5⟩
         go_simp
         with_reducible rfl
        rotate_left
        ·simp only [Act.put, List.setIfInBounds_toArray, List.set_cons_zero, List.set_cons_succ, i64_w, i32_w]
         rfl
        refine pu 11 27 (bs 31 4095) HT_ ?_
        refine pu 12 28 (bs 31 8191) HT_ ?_
        refine pu 13 29 (bs 31 16383) HT_ ?_
        refine pure_ (i := 14) (N := some 30) (v := undef) (a' := ?_) (bs 31 32767) rfl rfl (any_of HT_.out (by kernel_rfl)) (fun _ _ _ h => h) (Or.inr ⟨by rfl, rfl⟩) ?_ ?_
        rotate_left
        ·simp only [Act.put, List.setIfInBounds_toArray, List.set_cons_zero, List.set_cons_succ, i64_w, i32_w]
         rfl
        refine pure_ (i := 15) (N := some 31) (v := undef) (a' := ?_) (bs 31 65535) rfl rfl (any_of HT_.out (by kernel_rfl)) (fun _ _ _ h => h) (Or.inr ⟨by rfl, rfl⟩) ?_ ?_
        rotate_left
        ·simp only [Act.put, List.setIfInBounds_toArray, List.set_cons_zero, List.set_cons_succ, i64_w, i32_w]
         rfl
        refine pure_ (i := 16) (N := some 32) (v := undef) (a' := ?_) (bs 31 131071) rfl rfl (any_of HT_.out (by kernel_rfl)) (fun _ _ _ h => h) (Or.inr ⟨by rfl, rfl⟩) ?_ ?_
        rotate_left
        ·simp only [Act.put, List.setIfInBounds_toArray, List.set_cons_zero, List.set_cons_succ, i64_w, i32_w]
         rfl
        refine pure_ (i := 17) (N := some 33) (v := undef) (a' := ?_) (bs 31 262143) rfl rfl (any_of HT_.out (by kernel_rfl)) (fun _ _ _ h => h) (Or.inr ⟨by rfl, rfl⟩) ?_ ?_
        rotate_left
        ·simp only [Act.put, List.setIfInBounds_toArray, List.set_cons_zero, List.set_cons_succ, i64_w, i32_w]
         rfl
        refine pure_ (i := 18) (N := some 34) (v := undef) (a' := ?_) (bs 31 524287) rfl rfl (any_of HT_.out (by kernel_rfl)) (fun _ _ _ h => h) (Or.inr ⟨by rfl, rfl⟩) ?_ ?_
        rotate_left
        ·simp only [Act.put, List.setIfInBounds_toArray, List.set_cons_zero, List.set_cons_succ, i64_w, i32_w]
         rfl
        refine pure_ (i := 19) (N := some 35) (v := undef) (a' := ?_) (bs 31 1048575) rfl rfl (any_of HT_.out (by kernel_rfl)) (fun _ _ _ h => h) (Or.inr ⟨by rfl, rfl⟩) ?_ ?_
        rotate_left
        ·simp only [Act.put, List.setIfInBounds_toArray, List.set_cons_zero, List.set_cons_succ, i64_w, i32_w]
         rfl
        refine pure_ (i := 20) (N := some 36) (v := undef) (a' := ?_) (bs 31 2097151) rfl rfl (any_of HT_.out (by kernel_rfl)) (fun _ _ _ h => h) (Or.inr ⟨by rfl, rfl⟩) ?_ ?_
        rotate_left
        ·simp only [Act.put, List.setIfInBounds_toArray, List.set_cons_zero, List.set_cons_succ, i64_w, i32_w]
         rfl
        refine pure_ (i := 21) (N := some 37) (v := undef) (a' := ?_) (bs 31 4194303) rfl rfl (any_of HT_.out (by kernel_rfl)) (fun _ _ _ h => h) (Or.inr ⟨by rfl, rfl⟩) ?_ ?_
        rotate_left
        ·simp only [Act.put, List.setIfInBounds_toArray, List.set_cons_zero, List.set_cons_succ, i64_w, i32_w]
         rfl
        refine pure_ (i := 22) (N := some 38) (v := undef) (a' := ?_) (bs 31 8388607) rfl rfl (any_of HT_.out (by kernel_rfl)) (fun _ _ _ h => h) (Or.inr ⟨by rfl, rfl⟩) ?_ ?_
        rotate_left
        ·simp only [Act.put, List.setIfInBounds_toArray, List.set_cons_zero, List.set_cons_succ, i64_w, i32_w]
         rfl
        refine pure_ (i := 23) (N := some 39) (v := undef) (a' := ?_) (bs 31 16777215) rfl rfl (any_of HT_.out (by kernel_rfl)) (fun _ _ _ h => h) (Or.inr ⟨by rfl, rfl⟩) ?_ ?_
        rotate_left
        ·simp only [Act.put, List.setIfInBounds_toArray, List.set_cons_zero, List.set_cons_succ, i64_w, i32_w]
         rfl
        refine pure_ (i := 24) (N := some 40) (v := undef) (a' := ?_) (bs 31 33554431) rfl rfl (any_of HT_.out (by kernel_rfl)) (fun _ _ _ h => h) (Or.inr ⟨by rfl, rfl⟩) ?_ ?_
        rotate_left
        ·simp only [Act.put, List.setIfInBounds_toArray, List.set_cons_zero, List.set_cons_succ, i64_w, i32_w]
         rfl
        refine pure_ (i := 25) (N := some 41) (v := undef) (a' := ?_) (bs 31 67108863) rfl rfl (any_of HT_.out (by kernel_rfl)) (fun _ _ _ h => h) (Or.inr ⟨by rfl, rfl⟩) ?_ ?_
        rotate_left
        ·simp only [Act.put, List.setIfInBounds_toArray, List.set_cons_zero, List.set_cons_succ, i64_w, i32_w]
         rfl
        refine pure_ (i := 26) (N := some 42) (v := undef) (a' := ?_) (bs 31 134217727) rfl rfl (any_of HT_.out (by kernel_rfl)) (fun _ _ _ h => h) (Or.inr ⟨by rfl, rfl⟩) ?_ ?_
        rotate_left
        ·simp only [Act.put, List.setIfInBounds_toArray, List.set_cons_zero, List.set_cons_succ, i64_w, i32_w]
         rfl
        refine pure_ (i := 27) (N := some 43) (v := undef) (a' := ?_) (bs 31 268435455) rfl rfl (any_of HT_.out (by kernel_rfl)) (fun _ _ _ h => h) (Or.inr ⟨by rfl, rfl⟩) ?_ ?_
        rotate_left
        ·simp only [Act.put, List.setIfInBounds_toArray, List.set_cons_zero, List.set_cons_succ, i64_w, i32_w]
         rfl
        refine pure_ (i := 28) (N := some 44) (v := undef) (a' := ?_) (bs 31 536870911) rfl rfl (any_of HT_.out (by kernel_rfl)) (fun _ _ _ h => h) (Or.inr ⟨by rfl, rfl⟩) ?_ ?_
        rotate_left
        ·simp only [Act.put, List.setIfInBounds_toArray, List.set_cons_zero, List.set_cons_succ, i64_w, i32_w]
         rfl
        refine pure_ (i := 29) (N := some 45) (v := undef) (a' := ?_) (bs 31 1073741823) rfl rfl (any_of HT_.out (by kernel_rfl)) (fun _ _ _ h => h) (Or.inr ⟨by rfl, rfl⟩) ?_ ?_
        rotate_left
        ·simp only [Act.put, List.setIfInBounds_toArray, List.set_cons_zero, List.set_cons_succ, i64_w, i32_w]
         rfl
        refine pu 30 46 (bs 31 2147483647) HT_ ?_
        refine done_ (done_of HT_.out (by kernel_rfl)) ?_
        try go_wp2
        go_meet
        case rel => exact ⟨_, (false), eqs, H', ⟨by first | omega | exact Nat.le_refl _⟩, ⟨kr HO220.out⟩, ⟨kb BK217.out⟩, ⟨by repeat (first | (with_reducible first | exact HB.out | apply below_alloc | apply pw_below_drewN | apply below_drew1 | refine below_set ?_ GE217.out) | exact HB.out)⟩⟩
      ·rw [if_neg c17] at H
       exact absurd H (by simp)
     ·rw [if_neg c16] at H
      exact absurd H (by simp)
    ·rw [if_neg c14] at H
     have c14b0 : decide (0 < (y218.length : Int)) = false := decide_eq_false c14
     have c14b1 : decide (0 < y218.length) = false := decide_eq_false (by omega)
     clear c14
     (first | rw [c14b0] | (simp only [i64_w, i32_w]; rw [c14b0]) | skip)
     have H' := Aside0.mk H
     clear H
     try go_wp2
     have n0_ := Aside0.mk (Kd.R_drew HO220.out)
     have n1_ := Aside0.mk (blk_drew BK217.out)
     have n2_ := Aside0.mk (below_drew1 HB.out)
     clear HO220
     clear BK217
     clear HB
     have HO220 := n0_
     have BK217 := n1_
     have HB := n2_
     clear n0_ n1_ n2_
     refine start_ (n := 31) (S := fun w' => True) (ds := []) (bs 31 0) (by kernel_rfl) rfl rfl trivial (fun hHeld => ?_); refine with_tabW worldmintref14_Add.tab6 worldmintref14_Add.bits6 (fun HT_ HW_ => ?_)
     generalize w11.drew = w21 at HO220 BK217 HB hHeld ⊢
     refine pu 0 16 (bs 31 1) HT_ ?_
     refine pu 1 17 (bs 31 3) HT_ ?_
     refine pu 2 18 (bs 31 7) HT_ ?_
     refine pure_ (i := 3) (N := some 19) (v := undef) (a' := ?_) (bs 31 15) rfl rfl (any_of HT_.out (by kernel_rfl)) (fun _ _ _ h => h) (Or.inr ⟨by rfl, rfl⟩) ?_ ?_
     rotate_left
     ·simp only [Act.put, List.setIfInBounds_toArray, List.set_cons_zero, List.set_cons_succ, i64_w, i32_w]
      rfl
     refine pure_ (i := 4) (N := some 20) (v := undef) (a' := ?_) (bs 31 31) rfl rfl (any_of HT_.out (by kernel_rfl)) (fun _ _ _ h => h) (Or.inr ⟨by rfl, rfl⟩) ?_ ?_
     rotate_left
     ·simp only [Act.put, List.setIfInBounds_toArray, List.set_cons_zero, List.set_cons_succ, i64_w, i32_w]
      rfl
     refine pure_ (i := 5) (N := some 21) (v := undef) (a' := ?_) (bs 31 63) rfl rfl (any_of HT_.out (by kernel_rfl)) (fun _ _ _ h => h) (Or.inr ⟨by rfl, rfl⟩) ?_ ?_
     rotate_left
     ·simp only [Act.put, List.setIfInBounds_toArray, List.set_cons_zero, List.set_cons_succ, i64_w, i32_w]
      rfl
     refine pure_ (i := 6) (N := some 22) (v := undef) (a' := ?_) (bs 31 127) rfl rfl (any_of HT_.out (by kernel_rfl)) (fun _ _ _ h => h) (Or.inr ⟨by rfl, rfl⟩) ?_ ?_
     rotate_left
     ·simp only [Act.put, List.setIfInBounds_toArray, List.set_cons_zero, List.set_cons_succ, i64_w, i32_w]
      rfl
     refine pure_ (i := 7) (N := some 23) (v := undef) (a' := ?_) (bs 31 255) rfl rfl (any_of HT_.out (by kernel_rfl)) (fun _ _ _ h => h) (Or.inr ⟨by rfl, rfl⟩) ?_ ?_
     rotate_left
     ·simp only [Act.put, List.setIfInBounds_toArray, List.set_cons_zero, List.set_cons_succ, i64_w, i32_w]
      rfl
     refine pure_ (i := 8) (N := some 24) (v := undef) (a' := ?_) (bs 31 511) rfl rfl (any_of HT_.out (by kernel_rfl)) (fun _ _ _ h => h) (Or.inr ⟨by rfl, rfl⟩) ?_ ?_
     rotate_left
     ·simp only [Act.put, List.setIfInBounds_toArray, List.set_cons_zero, List.set_cons_succ, i64_w, i32_w]
      rfl
     refine pure_ (i := 9) (N := some 25) (v := undef) (a' := ?_) (bs 31 1023) rfl rfl (any_of HT_.out (by kernel_rfl)) (fun _ _ _ h => h) (Or.inr ⟨by rfl, rfl⟩) ?_ ?_
     rotate_left
     ·simp only [Act.put, List.setIfInBounds_toArray, List.set_cons_zero, List.set_cons_succ, i64_w, i32_w]
      rfl
     refine pure_ (i := 10) (N := some 26) (v := undef) (a' := ?_) (bs 31 2047) rfl rfl (any_of HT_.out (by kernel_rfl)) (fun _ _ _ h => h) (Or.inr ⟨by rfl, rfl⟩) ?_ ?_
     rotate_left
     ·simp only [Act.put, List.setIfInBounds_toArray, List.set_cons_zero, List.set_cons_succ, i64_w, i32_w]
      rfl
     refine pure_ (i := 11) (N := some 27) (v := undef) (a' := ?_) (bs 31 4095) rfl rfl (any_of HT_.out (by kernel_rfl)) (fun _ _ _ h => h) (Or.inr ⟨by rfl, rfl⟩) ?_ ?_
     rotate_left
     ·simp only [Act.put, List.setIfInBounds_toArray, List.set_cons_zero, List.set_cons_succ, i64_w, i32_w]
      rfl
     refine pu 12 28 (bs 31 8191) HT_ ?_
     refine pu 13 29 (bs 31 16383) HT_ ?_
     refine pure_ (i := 14) (N := some 30) (v := undef) (a' := ?_) (bs 31 32767) rfl rfl (any_of HT_.out (by kernel_rfl)) (fun _ _ _ h => h) (Or.inr ⟨by rfl, rfl⟩) ?_ ?_
     rotate_left
     ·simp only [Act.put, List.setIfInBounds_toArray, List.set_cons_zero, List.set_cons_succ, i64_w, i32_w]
      rfl
     refine pure_ (i := 15) (N := some 31) (v := undef) (a' := ?_) (bs 31 65535) rfl rfl (any_of HT_.out (by kernel_rfl)) (fun _ _ _ h => h) (Or.inr ⟨by rfl, rfl⟩) ?_ ?_
     rotate_left
     ·simp only [Act.put, List.setIfInBounds_toArray, List.set_cons_zero, List.set_cons_succ, i64_w, i32_w]
      rfl
     refine pure_ (i := 16) (N := some 32) (v := undef) (a' := ?_) (bs 31 131071) rfl rfl (any_of HT_.out (by kernel_rfl)) (fun _ _ _ h => h) (Or.inr ⟨by rfl, rfl⟩) ?_ ?_
     rotate_left
     ·simp only [Act.put, List.setIfInBounds_toArray, List.set_cons_zero, List.set_cons_succ, i64_w, i32_w]
      rfl
     refine pure_ (i := 17) (N := some 33) (v := undef) (a' := ?_) (bs 31 262143) rfl rfl (any_of HT_.out (by kernel_rfl)) (fun _ _ _ h => h) (Or.inr ⟨by rfl, rfl⟩) ?_ ?_
     rotate_left
     ·simp only [Act.put, List.setIfInBounds_toArray, List.set_cons_zero, List.set_cons_succ, i64_w, i32_w]
      rfl
     refine pure_ (i := 18) (N := some 34) (v := undef) (a' := ?_) (bs 31 524287) rfl rfl (any_of HT_.out (by kernel_rfl)) (fun _ _ _ h => h) (Or.inr ⟨by rfl, rfl⟩) ?_ ?_
     rotate_left
     ·simp only [Act.put, List.setIfInBounds_toArray, List.set_cons_zero, List.set_cons_succ, i64_w, i32_w]
      rfl
     refine pure_ (i := 19) (N := some 35) (v := undef) (a' := ?_) (bs 31 1048575) rfl rfl (any_of HT_.out (by kernel_rfl)) (fun _ _ _ h => h) (Or.inr ⟨by rfl, rfl⟩) ?_ ?_
     rotate_left
     ·simp only [Act.put, List.setIfInBounds_toArray, List.set_cons_zero, List.set_cons_succ, i64_w, i32_w]
      rfl
     refine pure_ (i := 20) (N := some 36) (v := undef) (a' := ?_) (bs 31 2097151) rfl rfl (any_of HT_.out (by kernel_rfl)) (fun _ _ _ h => h) (Or.inr ⟨by rfl, rfl⟩) ?_ ?_
     rotate_left
     ·simp only [Act.put, List.setIfInBounds_toArray, List.set_cons_zero, List.set_cons_succ, i64_w, i32_w]
      rfl
     refine pure_ (i := 21) (N := some 37) (v := undef) (a' := ?_) (bs 31 4194303) rfl rfl (any_of HT_.out (by kernel_rfl)) (fun _ _ _ h => h) (Or.inr ⟨by rfl, rfl⟩) ?_ ?_
     rotate_left
     ·simp only [Act.put, List.setIfInBounds_toArray, List.set_cons_zero, List.set_cons_succ, i64_w, i32_w]
      rfl
     refine pure_ (i := 22) (N := some 38) (v := undef) (a' := ?_) (bs 31 8388607) rfl rfl (any_of HT_.out (by kernel_rfl)) (fun _ _ _ h => h) (Or.inr ⟨by rfl, rfl⟩) ?_ ?_
     rotate_left
     ·simp only [Act.put, List.setIfInBounds_toArray, List.set_cons_zero, List.set_cons_succ, i64_w, i32_w]
      rfl
     refine pure_ (i := 23) (N := some 39) (v := undef) (a' := ?_) (bs 31 16777215) rfl rfl (any_of HT_.out (by kernel_rfl)) (fun _ _ _ h => h) (Or.inr ⟨by rfl, rfl⟩) ?_ ?_
     rotate_left
     ·simp only [Act.put, List.setIfInBounds_toArray, List.set_cons_zero, List.set_cons_succ, i64_w, i32_w]
      rfl
     refine pure_ (i := 24) (N := some 40) (v := undef) (a' := ?_) (bs 31 33554431) rfl rfl (any_of HT_.out (by kernel_rfl)) (fun _ _ _ h => h) (Or.inr ⟨by rfl, rfl⟩) ?_ ?_
     rotate_left
     ·simp only [Act.put, List.setIfInBounds_toArray, List.set_cons_zero, List.set_cons_succ, i64_w, i32_w]
      rfl
     refine pure_ (i := 25) (N := some 41) (v := undef) (a' := ?_) (bs 31 67108863) rfl rfl (any_of HT_.out (by kernel_rfl)) (fun _ _ _ h => h) (Or.inr ⟨by rfl, rfl⟩) ?_ ?_
     rotate_left
     ·simp only [Act.put, List.setIfInBounds_toArray, List.set_cons_zero, List.set_cons_succ, i64_w, i32_w]
      rfl
     refine pure_ (i := 26) (N := some 42) (v := undef) (a' := ?_) (bs 31 134217727) rfl rfl (any_of HT_.out (by kernel_rfl)) (fun _ _ _ h => h) (Or.inr ⟨by rfl, rfl⟩) ?_ ?_
     rotate_left
     ·simp only [Act.put, List.setIfInBounds_toArray, List.set_cons_zero, List.set_cons_succ, i64_w, i32_w]
      rfl
     refine pure_ (i := 27) (N := some 43) (v := undef) (a' := ?_) (bs 31 268435455) rfl rfl (any_of HT_.out (by kernel_rfl)) (fun _ _ _ h => h) (Or.inr ⟨by rfl, rfl⟩) ?_ ?_
     rotate_left
     ·simp only [Act.put, List.setIfInBounds_toArray, List.set_cons_zero, List.set_cons_succ, i64_w, i32_w]
      rfl
     refine pure_ (i := 28) (N := some 44) (v := undef) (a' := ?_) (bs 31 536870911) rfl rfl (any_of HT_.out (by kernel_rfl)) (fun _ _ _ h => h) (Or.inr ⟨by rfl, rfl⟩) ?_ ?_
     rotate_left
     ·simp only [Act.put, List.setIfInBounds_toArray, List.set_cons_zero, List.set_cons_succ, i64_w, i32_w]
      rfl
     refine pure_ (i := 29) (N := some 45) (v := undef) (a' := ?_) (bs 31 1073741823) rfl rfl (any_of HT_.out (by kernel_rfl)) (fun _ _ _ h => h) (Or.inr ⟨by rfl, rfl⟩) ?_ ?_
     rotate_left
     ·simp only [Act.put, List.setIfInBounds_toArray, List.set_cons_zero, List.set_cons_succ, i64_w, i32_w]
      rfl
     refine pu 30 46 (bs 31 2147483647) HT_ ?_
     refine done_ (done_of HT_.out (by kernel_rfl)) ?_
     try go_wp2
     go_meet
     case rel => exact ⟨_, (false), eqs, H', ⟨by first | omega | exact Nat.le_refl _⟩, ⟨kr HO220.out⟩, ⟨kb BK217.out⟩, ⟨by repeat (first | (with_reducible first | exact HB.out | apply below_alloc | apply pw_below_drewN | apply below_drew1 | refine below_set ?_ GE217.out) | exact HB.out)⟩⟩
   case rest =>
    clear HC9
    try clear c14
    try clear c14b0
    try clear c14b1
    try clear c16
    try clear c17
    try clear c18
    try clear c18b0
    try clear c18b1
    try clear hx221_0
    try clear hx221_1
    try clear hx221_2
    try clear p221
    try clear q221
    obtain ⟨kq, x46_8, rfl, HA, HJ8, HO_5, BK217, HB⟩ := hcut
    cases kq with
    | zero => exact absurd HA.out (by simp [worldmintref14_Add.j0])
    | succ kj8 =>
     have H := HA.out
     clear HA
     simp only [worldmintref14_Add.j0] at H
     by_cases c22 : x46_8 = true
     ·subst c22
      have H1 : (if 0 ≤ (wrap64 ((y218.length : Int) - 1)) then (if (wrap64 ((y218.length : Int) - 1)) < (y218.length : Int) then (some (y218.set ((wrap64 ((y218.length : Int) - 1)) : Int).toNat (⟨(rd_T39 y218 (wrap64 ((y218.length : Int) - 1))).f0, (rd_T39 y218 (wrap64 ((y218.length : Int) - 1))).f1, wrap64 (((rd_T39 y218 (wrap64 ((y218.length : Int) - 1))).f2) + a1_2)⟩ : S39))) else (none)) else (none)) = some r := by rw [if_pos rfl] at H; exact H
      clear H
      have H := H1
      clear H1
      obtain ⟨ji23, hji23⟩ : ∃ j_ : Int, (wrap64 ((y218.length : Int) - 1)) = j_ := ⟨_, rfl⟩
      replace H : (if 0 ≤ (ji23) then (if (ji23) < (y218.length : Int) then (some (y218.set ((ji23) : Int).toNat (⟨(rd_T39 y218 (ji23)).f0, (rd_T39 y218 (ji23)).f1, wrap64 (((rd_T39 y218 (ji23)).f2) + a1_2)⟩ : S39))) else (none)) else (none)) = some r := by first | (rw [hji23] at H; exact H) | (simp only [hji23] at H ⊢; exact H)
      have hji23w : (IntKind.i64.wrap ((y218.length : Int) - 1)) = ji23 := (i64_w _).trans hji23
      by_cases c24 : 0 ≤ (ji23)
      ·rw [if_pos c24] at H
       have c24b0 : decide (0 ≤ (ji23)) = true := decide_eq_true c24
       clear c24
       by_cases c25 : (ji23) < (y218.length : Int)
       ·rw [if_pos c25] at H
        have c25b0 : decide ((ji23) < (y218.length : Int)) = true := decide_eq_true c25
        clear c25
        obtain ⟨y225, hy225⟩ : ∃ y_ : List (S39), y_ = (y218.set ((ji23) : Int).toNat (⟨(rd_T39 y218 (ji23)).f0, (rd_T39 y218 (ji23)).f1, wrap64 (((rd_T39 y218 (ji23)).f2) + a1_2)⟩ : S39)) := ⟨_, rfl⟩
        replace H : (some y225) = some r := by first | (rw [hy225]; with_reducible exact H) | (have H2_ := (Option.bind_some _ _).symm.trans H; rw [hy225]; with_reducible exact H2_) | (have H2_ := (Option.bind_some _ _).symm.trans H; with_reducible exact H2_) | with_reducible exact H | (rw [hy225]; exact H) | exact H
        have Ny225 := Aside0.mk hy225
        clear hy225
        obtain rfl := Option.some.inj H
        try go_wp2
        have n0_ := Aside0.mk (Kd.R_drew HO_5.out)
        have n1_ := Aside0.mk (blk_drew BK217.out)
        have n2_ := Aside0.mk (below_drew1 HB.out)
        clear HO_5
        clear BK217
        clear HB
        have HO_5 := n0_
        have BK217 := n1_
        have HB := n2_
        clear n0_ n1_ n2_
        have p224 : 0 ≤ ((ji23) : Int) := oda
        have q224 : (ji23) < (y218.length : Int) := oda
        obtain ⟨ad224, e224, hx224_0, hx224_1, hx224_2⟩ := at_T39 (Kd.R_reads' HO_5.out).2.2 (ji23) p224 q224
        cases e224
        replace p224 := eq_true p224
        replace q224 := eq_true q224
        have p26 : 0 ≤ ((ji23) : Int) := oda
        have q26 : ((ji23) : Int) < ((y218.length : Int) : Int) := oda
        obtain ⟨go26, co26, eo26, gb26, gl26, cl26, HG26⟩ := Kd.R_form HO_5.out (by omega)
        (first | cases eo26 | (injection eo26 with ea_ en_ ec_; (first | subst ea_ | (injection ea_ with ea_; subst ea_)); subst ec_; clear en_))
        have GB26 := Aside0.mk gb26
        have GG26 := Aside0.mk HG26
        clear gb26 gl26 HG26
        (first | simp only [add_plain] at hx224_0 | skip)
        (first | simp only [add_plain] at hx224_1 | skip)
        (first | simp only [add_plain] at hx224_2 | skip)
        obtain ⟨ce26, hcl26, hM26, hcc26, hfr26⟩ := Kd.R_elem HO_5.out z39 ((ji23) : Int) p26 q26
        obtain rfl := k39_openM hM26
        have hx26_0 : World.cell? _ ⟨go26, ((ji23) : Int).toNat * 3, none⟩ = some (.int .i64 ((rd_T39 y218 (ji23)).f0)) := hcc26 0 _ rfl
        have hx26_1 : World.cell? _ ⟨go26, ((ji23) : Int).toNat * 3 + 1, none⟩ = some (.int .i64 ((rd_T39 y218 (ji23)).f1)) := hcc26 1 _ rfl
        have hx26_2 : World.cell? _ ⟨go26, ((ji23) : Int).toNat * 3 + 2, none⟩ = some (.int .i64 ((rd_T39 y218 (ji23)).f2)) := hcc26 2 _ rfl
        have hf26_0 : World.frozen? _ ⟨go26, ((ji23) : Int).toNat * 3, none⟩ = false := hfr26 0
        have hf26_1 : World.frozen? _ ⟨go26, ((ji23) : Int).toNat * 3 + 1, none⟩ = false := hfr26 1
        have hf26_2 : World.frozen? _ ⟨go26, ((ji23) : Int).toNat * 3 + 2, none⟩ = false := hfr26 2
        clear hcl26 hcc26 hfr26 hM26
        replace p26 := eq_true p26
        replace q26 := eq_true q26
        obtain ⟨ce28, hcl28, hM28, hcc28, hfr28⟩ := Kd.R_elem HO_5.out z39 ((ji23) : Int) (oda) (by have h_ : ((ji23) : Int) < ((y218.length : Int) : Int) := oda; first | exact h_ | (have e_ := (Kd.R_reads' HO_5.out).1; omega) | simpa using h_)
        obtain rfl := k39_openM hM28
        have HP28 := (Kd.R_seg HO_5.out ((ji23) : Int) (oda) (by have h_ : ((ji23) : Int) < ((y218.length : Int) : Int) := oda; first | exact h_ | (have e_ := (Kd.R_reads' HO_5.out).1; omega) | simpa using h_) (seg := [.int .i64 (wrap64 (((rd_T39 y218 (ji23)).f2) + a1_2))]) (j := 2) hcl28 hcc28 (show 3 ≤ 3 from by decide) (x' := (⟨(rd_T39 y218 (ji23)).f0, (rd_T39 y218 (ji23)).f1, wrap64 (((rd_T39 y218 (ji23)).f2) + a1_2)⟩ : S39)) (k39_mkM _ _ _ (⟨(rd_T39 y218 (ji23)).f0, (rd_T39 y218 (ji23)).f1, wrap64 (((rd_T39 y218 (ji23)).f2) + a1_2)⟩ : S39) ) (fun _ hk => hk)).1
        rw [← Ny225.out] at HP28
        have HQ28 := Aside0.mk HP28
        clear hcl28 hcc28 hfr28 hM28 HP28
        refine start_ (n := 15) (S := fun w' => w'.cell? ⟨gb217, 0, none⟩ = some (.int .i64 a1_0) ∧ w'.cell? ⟨gb217, 1, none⟩ = some (.int .i64 a1_1) ∧ w'.cell? ⟨gb217, 2, none⟩ = some (.int .i64 a1_2) ∧ w'.cell? ⟨go26, (((ji23)).toNat * 3), none⟩ = some (.int .i64 ((rd_T39 y218 (ji23)).f0)) ∧ w'.cell? ⟨go26, (((ji23)).toNat * 3) + 1, none⟩ = some (.int .i64 ((rd_T39 y218 (ji23)).f1)) ∧ w'.cell? ⟨go26, (((ji23)).toNat * 3) + 2, none⟩ = some (.int .i64 ((rd_T39 y218 (ji23)).f2))) (ds := [14]) (bs 15 0) (by kernel_rfl) rfl rfl ⟨(blk_cell BK217.out 0).trans rfl, (blk_cell BK217.out 1).trans rfl, (blk_cell BK217.out 2).trans rfl, hx224_0, hx224_1, hx224_2⟩ (fun hHeld => ?_); refine with_tabW worldmintref14_Add.tab7 worldmintref14_Add.bits7 (fun HT_ HW_ => ?_)
        generalize wc.drew = w27 at HO_5 BK217 HB GG26 HQ28 hf26_0 hf26_1 hf26_2 hx224_0 hx224_1 hx224_2 hx26_0 hx26_1 hx26_2 hHeld ⊢
        refine pu 0 47 (bs 15 1) HT_ ?_
        refine pu 1 48 (bs 15 3) HT_ ?_
        refine pu 2 49 (bs 15 7) HT_ ?_
        refine pu 3 50 (bs 15 15) HT_ ?_
        refine pu 4 51 (bs 15 31) HT_ ?_
        refine pu 5 52 (bs 15 63) HT_ ?_
        refine pu 6 53 (bs 15 127) HT_ ?_
        refine pu 7 54 (bs 15 255) HT_ ?_
        refine pu 9 56 (bs 15 767) HT_ ?_
        refine take_ (i := 8) (N := some 55) (v := ?_) (a' := ?_) (bs 15 1023) rfl rfl (take_ofW HT_.out HW_.out (by kernel_rfl)) (fun _ _ _ h => h) (Or.inl ⟨by rfl, ?_⟩) hHeld ?_ ?_
        rotate_left
        ·rintro w' ⟨s0, s1, s2, s3, s4, s5⟩
         go_simp
         with_reducible rfl
        rotate_left
        ·simp only [Act.put, List.setIfInBounds_toArray, List.set_cons_zero, List.set_cons_succ, i64_w, i32_w]
         rfl
        refine take_ (i := 10) (N := some 57) (v := ?_) (a' := ?_) (bs 15 2047) rfl rfl (take_ofW HT_.out HW_.out (by kernel_rfl)) (fun _ _ _ h => h) (Or.inl ⟨by rfl, ?_⟩) hHeld ?_ ?_
        rotate_left
        ·rintro w' ⟨s0, s1, s2, s3, s4, s5⟩
         go_simp
         with_reducible rfl
        rotate_left
        ·simp only [Act.put, List.setIfInBounds_toArray, List.set_cons_zero, List.set_cons_succ, i64_w, i32_w]
         rfl
        refine pu 11 58 (bs 15 4095) HT_ ?_
        refine pu 12 59 (bs 15 8191) HT_ ?_
        refine pu 13 60 (bs 15 16383) HT_ ?_
        refine last_ (i := 14) (N := none) (bs 15 32767) rfl rfl (one_of HT_.out (by kernel_rfl)) (by decide) (fun K hK => ?_)
        refine skip_ (w1 := ?_) (by rfl) rfl ?_ ?_
        rotate_left
        ·go_simp
         rfl
        refine hK.out _ _ ?_
        clear hK K
        refine done_ (done_of HT_.out (by kernel_rfl)) ?_
        try go_wp2
        go_ret
        exact ⟨_, by first | rfl | (simp [errW_none, errW_some] <;> rfl) | (simp only [← hji23]; first | rfl | (simp [errW_none, errW_some] <;> rfl)) | (simp [*, errW_none, errW_some] <;> rfl), by (with_reducible repeat (first | apply Kd.R_alloc | apply Kd.R_drewN | apply Kd.R_drew)); exact Kd.R_mono HQ28.out (fun _ hk => trivial), by repeat (first | (with_reducible first | exact HB.out | apply below_alloc | apply pw_below_drewN | apply below_drew1 | refine below_set ?_ GB26.out | refine below_set ?_ GE217.out) | exact HB.out)⟩
       ·rw [if_neg c25] at H
        exact absurd H (by simp)
      ·rw [if_neg c24] at H
       exact absurd H (by simp)
     ·replace c22 := Bool.eq_false_iff.mpr c22
      subst c22
      have H1 : (if y218.length < 5864062014805 then (some (y218 ++ [(⟨a1_0, a1_1, a1_2⟩ : S39)])) else (none)) = some r := by rw [if_neg (show ¬ (false = true) by decide)] at H; exact H
      clear H
      have H := H1
      clear H1
      by_cases c29 : y218.length < 5864062014805
      ·rw [if_pos c29] at H
       have LMc29 := Aside0.mk c29
       clear c29
       obtain ⟨y226, hy226⟩ : ∃ y_ : List (S39), y_ = (y218 ++ [(⟨a1_0, a1_1, a1_2⟩ : S39)]) := ⟨_, rfl⟩
       replace H : (some y226) = some r := by first | (rw [hy226]; with_reducible exact H) | (have H2_ := (Option.bind_some _ _).symm.trans H; rw [hy226]; with_reducible exact H2_) | (have H2_ := (Option.bind_some _ _).symm.trans H; with_reducible exact H2_) | with_reducible exact H | (rw [hy226]; exact H) | exact H
       have Ny226 := Aside0.mk hy226
       clear hy226
       obtain rfl := Option.some.inj H
       have hcz30_0 : wc.cell? ⟨gb217, 0, none⟩ = some (.int .i64 a1_0) := (blk_cell BK217.out 0).trans rfl
       have hcz30_1 : wc.cell? ⟨gb217, 1, none⟩ = some (.int .i64 a1_1) := (blk_cell BK217.out 1).trans rfl
       have hcz30_2 : wc.cell? ⟨gb217, 2, none⟩ = some (.int .i64 a1_2) := (blk_cell BK217.out 2).trans rfl
       have hfz30_0 := blk_frozen BK217.out 0
       have hfz30_1 := blk_frozen BK217.out 1
       have hfz30_2 := blk_frozen BK217.out 2
       go_wp2_with (first | ((with_reducible refine gate_builtin (b := .append) (xs := #[.tmp 62, .tmp 64]) rfl ?_); at_builtin; refine Kd.R_append k39 (w0 := w) w.heap.size rfl (.tmp 62) (.tmp 64) 22 39 (.agg #[(.int .i64 0), (.int .i64 0), (.int .i64 0)]) 24 rfl Try.underlying22 info39 rfl (by decide) (by omega) (.slice Ao12 y218.length co12) y218 (⟨a1_0, a1_1, a1_2⟩ : S39) [.int .i64 a1_0, .int .i64 a1_1, .int .i64 a1_2] (fun k_ => k_ ≠ gb217) (fun _ => False) rfl rfl ?aP (fun _ hk => hk.elim) ?aF ?aO ?aB ?aS ?aL ?_; (case aP => exact k39_mkM _ _ _ (⟨a1_0, a1_1, a1_2⟩ : S39)); (case aB => exact (by repeat (first | (with_reducible first | exact HB.out | apply below_alloc | apply pw_below_drewN | apply below_drew1 | refine below_set ?_ GE217.out) | exact HB.out))); (case aF => exact (fun k_ hk => Kd.freshB (g := gb217) (o := .cells #[.int .i64 a1_0, .int .i64 a1_1, .int .i64 a1_2] 39 (0, 0)) (kb BK217.out) k_ hk)); (case aO => exact (kr HO_5.out)); (case aS => exact (below_size (by repeat (first | (with_reducible first | exact HB.out | apply below_alloc | apply pw_below_drewN | apply below_drew1 | refine below_set ?_ GE217.out) | exact HB.out)))); (case aL => have := LMc29.out; omega); intro v227 w31 ho hb hg hat; rw [← Ny226.out] at ho; have n0_ := Aside0.mk (blk_grown (g := gb217) (o := .cells #[.int .i64 a1_0, .int .i64 a1_1, .int .i64 a1_2] 39 (0, 0)) (kb BK217.out) hg (Kd.R_away HO_5.out (fun _ hk => hk))); have n1_ := Aside0.mk (hb); have n2_ := Aside0.mk (ho); clear BK217; clear HB; clear HO_5; have BK217 := n0_; have HB := n1_; have HO228 := n2_; clear n0_ n1_ n2_; clear ho hb hg hat))
       go_ret
       exact ⟨_, by first | rfl | (simp [errW_none, errW_some] <;> rfl) | (simp [*, errW_none, errW_some] <;> rfl), by (with_reducible repeat (first | apply Kd.R_alloc | apply Kd.R_drewN | apply Kd.R_drew)); exact Kd.R_mono HO228.out (fun _ hk => trivial), by repeat (first | (with_reducible first | exact HB.out | apply below_alloc | apply pw_below_drewN | apply below_drew1 | refine below_set ?_ GE217.out) | exact HB.out)⟩
      ·rw [if_neg c29] at H
       exact absurd H (by simp)
 ·rw [if_neg c3] at H
  exact absurd H (by simp)
end Go.Proofs.Ytcicjbgfahdejaa.P
