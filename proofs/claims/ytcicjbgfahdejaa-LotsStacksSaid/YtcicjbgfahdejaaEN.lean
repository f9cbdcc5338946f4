/- lots.counts: the walk as this session's programs wrote it (over prints in which the second range reads the variable itself). -/
import Derived.Test.YtcicjbgfahdejaaPx2
import Derived.Test.YtcicjbgfahdejaaEK
namespace Go.Proofs.Ytcicjbgfahdejaa.P
open Go.RowKit Go.Proofs.YtcicjbgfahdejaaW.PrintWords Go.Proofs.YtcicjbgfahdejaaW.PrintLast Go.Proofs.YtcicjbgfahdejaaW.PrintMore
attribute [local go_sem] max2_int min2_int max_two min_two max_three min_three max_four min_four
set_option linter.unusedVariables false
set_option linter.unusedSimpArgs false
mutual
def lots_counts.l0 : Nat → Int → Bool → List Int → List (S39) → Int → Int → Option (List Int)
 | 0, _, _, _, _, _, _ => none
 | k + 1, x1, x2, x7, x14, x15, x16 => if x16 < x15 then (if 0 ≤ x16 then (if x16 < (x14.length : Int) then (if x7.length < 17592186044416 then (lots_counts.l0 k x1 x2 (x7 ++ [(rd_T39 x14 x16).f2]) x14 x15 (wrap64 (x16 + 1))) else (none)) else (none)) else (none)) else (if x2 = true then (lots_counts.j1 k x1 x7 (decide (x1 > 0))) else (lots_counts.j1 k x1 x7 false))
def lots_counts.j1 : Nat → Int → List Int → Bool → Option (List Int)
 | 0, _, _, _ => none
 | k + 1, x1, x7, x30 => if x30 = true then ((share_Split.f k x1 x7).bind fun bt174 => (some bt174.1)) else (lots_counts.l1 k x1 x7 (x7.length : Int) 0)
def lots_counts.l1 : Nat → Int → List Int → Int → Int → Option (List Int)
 | 0, _, _, _, _ => none
 | k + 1, x1, x7, x39, x40 => if x40 < x39 then (if 0 ≤ x40 then (if x40 < (x7.length : Int) then ((some (x7.set (x40 : Int).toNat (mn x1 (rd x7 x40)) : List Int)).bind fun y179 => (lots_counts.l1 k (wrap64 (x1 - (rd y179 x40))) y179 x39 (wrap64 (x40 + 1)))) else (none)) else (none)) else (some x7)
end
def lots_counts.f (k : Nat) (l0 : List (S39)) (a1 : Int) (a2 : Bool) : Option (List Int) := lots_counts.l0 k a1 a2 ([] : List Int) l0 (l0.length : Int) 0
set_option maxHeartbeats 8000000 in
set_option maxRecDepth 100000 in
theorem lots_counts.calls (k : Nat) (A0 : Option Addr) (c0 : Nat) (l0 : List (S39)) (a1 : Int) (a2 : Bool) (r : List Int) (w : World) (hr0 : Kd.C k39 w A0 l0.length l0) (hc0 : l0.length ≤ c0) (h : lots_counts.f k l0 a1 a2 = some r) :
  Calls Try.prog 49 #[.slice A0 l0.length c0, .int .i64 a1, .bool a2] w fun e w' => ∃ v0_ : Value, e = .returned (v0_) ∧ Kd.R (Kd.int .i64) 3 w' w.heap.size (fun _ => True) v0_ r ∧ Below w.heap.size w w' := by
 have hu39 := Try.underlying39
 have HR0 := Aside0.mk hr0
 have HC0 := Aside0.mk hc0
 clear hr0 hc0
 have HB := Aside0.mk (Below.refl w.heap.size w)
 have H : (lots_counts.l0 k a1 a2 ([] : List Int) l0 (l0.length : Int) 0) = some r := h
 clear h
 have H' := Aside0.mk H
 clear H
 go_enter Try.func49, Try.ntmps49
 go_wp2
 go_loopg [7, 16] k (fun kq v7 v16 w' => ∃ (x7_1 : List Int) (x16_1 : Int), v16 = .int .i64 x16_1 ∧ Aside0 (lots_counts.l0 kq a1 a2 x7_1 l0 (l0.length : Int) x16_1 = some r) ∧ Aside0 (kq ≤ k) ∧ Aside0 (Kd.R (Kd.int .i64) 3 w' w.heap.size (fun _ => True) v7 x7_1) ∧ Aside0 (Below w.heap.size w w'))
 case atStart => exact ⟨(([] : List Int)), (0), eqs, H', ⟨Nat.le_refl _⟩, ⟨by first | exact Kd.R_nil _ _ _ _ _ | exact Kd.N_nil _ _ _ _ _ | exact Kd.V_nil _ _ _ _ _ | exact Kd.Q_nil _ _ _ _ _ | exact Kd.S_nil _ _ _ _ _⟩, ⟨bw⟩⟩
 case round =>
  clear H'
  obtain ⟨x7_1, x16_1, rfl, HA, HK1, HO_7, HB⟩ := hrel
  cases gk with
  | zero => exact absurd HA.out (by simp [lots_counts.l0])
  | succ k1 =>
   have H := HA.out
   clear HA
   simp only [lots_counts.l0] at H
   by_cases c4 : x16_1 < (l0.length : Int)
   ·rw [if_pos c4] at H
    have c4b0 : decide (x16_1 < (l0.length : Int)) = true := decide_eq_true c4
    clear c4
    by_cases c5 : 0 ≤ x16_1
    ·rw [if_pos c5] at H
     have c5b0 : decide (0 ≤ x16_1) = true := decide_eq_true c5
     clear c5
     by_cases c6 : x16_1 < (l0.length : Int)
     ·rw [if_pos c6] at H
      have c6b0 : decide (x16_1 < (l0.length : Int)) = true := decide_eq_true c6
      clear c6
      by_cases c7 : x7_1.length < 17592186044416
      ·rw [if_pos c7] at H
       have LMc7 := Aside0.mk c7
       clear c7
       obtain ⟨y171, hy171⟩ : ∃ y_ : List Int, y_ = (x7_1 ++ [(rd_T39 l0 x16_1).f2]) := ⟨_, rfl⟩
       replace H : (lots_counts.l0 k1 a1 a2 y171 l0 (l0.length : Int) (wrap64 (x16_1 + 1))) = some r := by first | (rw [hy171]; with_reducible exact H) | (have H2_ := (Option.bind_some _ _).symm.trans H; rw [hy171]; with_reducible exact H2_) | (have H2_ := (Option.bind_some _ _).symm.trans H; with_reducible exact H2_) | with_reducible exact H | (rw [hy171]; exact H) | exact H
       have Ny171 := Aside0.mk hy171
       clear hy171
       have H' := Aside0.mk H
       clear H
       have p169 : 0 ≤ (x16_1 : Int) := oda
       have q169 : x16_1 < (l0.length : Int) := oda
       obtain ⟨ad169, e169, hx169_0, hx169_1, hx169_2⟩ := at_T39 HR0.out x16_1 p169 q169
       cases e169
       replace hx169_0 := (HB.out.cell (World.block_lt_of_cell? w _ hx169_0)).trans hx169_0
       replace hx169_1 := (HB.out.cell (World.block_lt_of_cell? w _ hx169_1)).trans hx169_1
       replace hx169_2 := (HB.out.cell (World.block_lt_of_cell? w _ hx169_2)).trans hx169_2
       replace p169 := eq_true p169
       replace q169 := eq_true q169
       go_wp2_with (first | ((with_reducible refine gate_dst (N := 9) rfl ?_); refine box_event ?hg (N := 9) ?hd (cs := #[.int .i64 0, .int .i64 0, .int .i64 0]) (t := 39) ?hr ?_; (case hd => rfl); (case hg => rfl); (case hr => first | (go_simp; done) | (go_simp; rfl)); intro gb170 hg w8 hbox hb; have n0_ := Aside0.mk (Kd.R_below (kr HO_7.out) hb); have n1_ := Aside0.mk (below_step (bw) hb); have n2_ := Aside0.mk (hbox); have n3_ := Aside0.mk ((by rw [hg]; exact (below_size (bw)) : w.heap.size ≤ gb170)); have n4_ := Aside0.mk ((by rw [hg]; exact (below_size (bw)) : w.heap.size ≤ gb170)); clear HO_7; clear HB; have HO_7 := n0_; have HB := n1_; have BK170 := n2_; have GW170 := n3_; have GE170 := n4_; clear n0_ n1_ n2_ n3_ n4_; clear hb hbox hg; have hcz9_0 : w8.cell? ⟨gb170, 0, none⟩ = some (.int .i64 0) := (blk_cell BK170.out 0).trans rfl; have hcz9_1 : w8.cell? ⟨gb170, 1, none⟩ = some (.int .i64 0) := (blk_cell BK170.out 1).trans rfl; have hcz9_2 : w8.cell? ⟨gb170, 2, none⟩ = some (.int .i64 0) := (blk_cell BK170.out 2).trans rfl; have hfz9_0 := blk_frozen BK170.out 0; have hfz9_1 := blk_frozen BK170.out 1; have hfz9_2 := blk_frozen BK170.out 2) | ((with_reducible refine gate_builtin (b := .append) (xs := #[.tmp 20, .tmp 23]) rfl ?_); at_builtin; refine Kd.R_append (Kd.int .i64) (w0 := w) w.heap.size rfl (.tmp 20) (.tmp 23) 23 3 (.int .i64 0) 8 rfl Try.underlying23 Split12.info3 rfl (by decide) (by omega) u7 x7_1 ((rd_T39 l0 x16_1).f2) [.int .i64 ((rd_T39 l0 x16_1).f2)] (fun _ => True) (fun _ => False) rfl (by first | (go_simp; done) | (go_simp; rfl)) ?aP (fun _ hk => hk.elim) ?aF ?aO ?aB ?aS ?aL ?_; (case aP => exact rfl); (case aB => exact (by repeat (first | (with_reducible first | exact HB.out | apply below_alloc | apply pw_below_drewN | apply below_drew1 | refine below_set ?_ GE170.out) | exact HB.out))); (case aF => exact (fun _ _ => trivial)); (case aO => exact (by (with_reducible repeat (first | apply Kd.R_alloc | apply Kd.R_drewN | apply Kd.R_drew)); exact Kd.R_mono (Kd.R_far (p := ⟨gb170, 2, none⟩) (Kd.R_far (p := ⟨gb170, 1, none⟩) (Kd.R_far (p := ⟨gb170, 0, none⟩) (Kd.R_types HO_7.out BK170.out (by decide)) (fun _ hk => hk.2) (.int .i64 ((rd_T39 l0 x16_1).f0))) (fun _ hk => hk.2) (.int .i64 ((rd_T39 l0 x16_1).f1))) (fun _ hk => hk.2) (.int .i64 ((rd_T39 l0 x16_1).f2))) (fun _ hk => trivial))); (case aS => exact (below_size (by repeat (first | (with_reducible first | exact HB.out | apply below_alloc | apply pw_below_drewN | apply below_drew1 | refine below_set ?_ GE170.out) | exact HB.out)))); (case aL => have := LMc7.out; omega); intro v172 w10 ho hb hg hat; rw [← Ny171.out] at ho; have n0_ := Aside0.mk (blk_grown (g := gb170) (o := .cells #[.int .i64 ((rd_T39 l0 x16_1).f0), .int .i64 ((rd_T39 l0 x16_1).f1), .int .i64 ((rd_T39 l0 x16_1).f2)] 39 (0, 0)) (by (with_reducible repeat (first | refine blk_drewN ?_ _ | refine blk_drew ?_ | refine blk_alloc ?_ _)); refine blk_put (cs := #[.int .i64 ((rd_T39 l0 x16_1).f0), .int .i64 ((rd_T39 l0 x16_1).f1), .int .i64 0]) ?_ 2 _ rfl; (with_reducible repeat (first | refine blk_drewN ?_ _ | refine blk_drew ?_ | refine blk_alloc ?_ _)); refine blk_put (cs := #[.int .i64 ((rd_T39 l0 x16_1).f0), .int .i64 0, .int .i64 0]) ?_ 1 _ rfl; (with_reducible repeat (first | refine blk_drewN ?_ _ | refine blk_drew ?_ | refine blk_alloc ?_ _)); refine blk_put (cs := #[.int .i64 0, .int .i64 0, .int .i64 0]) ?_ 0 _ rfl; (with_reducible repeat (first | refine blk_drewN ?_ _ | refine blk_drew ?_ | refine blk_alloc ?_ _)); exact BK170.out) hg (Kd.R_ne HO_7.out BK170.out (by decide))); have n1_ := Aside0.mk (hb); have n2_ := Aside0.mk (ho); clear BK170; clear HB; clear HO_7; have BK170 := n0_; have HB := n1_; have HO173 := n2_; clear n0_ n1_ n2_; clear ho hb hg hat))
       go_roundg k1
       case measure => have := HK1.out; omega
       case rel => exact ⟨(y171), (wrap64 (x16_1 + 1)), eqs, H', ⟨by have := HK1.out; omega⟩, ⟨kr HO173.out⟩, ⟨by repeat (first | (with_reducible first | exact HB.out | apply below_alloc | apply pw_below_drewN | apply below_drew1 | refine below_set ?_ GE170.out) | exact HB.out)⟩⟩
      ·rw [if_neg c7] at H
       exact absurd H (by simp)
     ·rw [if_neg c6] at H
      exact absurd H (by simp)
    ·rw [if_neg c5] at H
     exact absurd H (by simp)
   ·rw [if_neg c4] at H
    have c4b0 : decide (x16_1 < (l0.length : Int)) = false := decide_eq_false c4
    clear c4
    have HC11 := Aside0.mk H
    clear H
    go_upto_region 7 with (fail)
    go_cut [30] (fun v30 wc => ∃ (kq : Nat) (x30_10 : Bool), v30 = .bool x30_10 ∧ Aside0 (lots_counts.j1 kq a1 x7_1 x30_10 = some r) ∧ Aside0 (kq ≤ k1) ∧ Aside0 (Kd.R (Kd.int .i64) 3 wc w.heap.size (fun _ => True) u7 x7_1) ∧ Aside0 (Below w.heap.size w wc))
    case first =>
     have H := HC11.out
     clear HC11
     by_cases c12 : a2 = true
     ·subst c12
      have H1 : (lots_counts.j1 k1 a1 x7_1 (decide (a1 > 0))) = some r := by rw [if_pos rfl] at H; exact H
      clear H
      have H := H1
      clear H1
      have H' := Aside0.mk H
      clear H
      go_wp2
      go_meet
      case rel => exact ⟨_, (decide (a1 > 0)), eqs, H', ⟨by have := HK1.out; first | omega | exact Nat.le_refl _⟩, ⟨kr HO_7.out⟩, ⟨bw⟩⟩
     ·replace c12 := Bool.eq_false_iff.mpr c12
      subst c12
      have H1 : (lots_counts.j1 k1 a1 x7_1 false) = some r := by rw [if_neg (show ¬ (false = true) by decide)] at H; exact H
      clear H
      have H := H1
      clear H1
      have H' := Aside0.mk H
      clear H
      go_wp2
      go_meet
      case rel => exact ⟨_, (false), eqs, H', ⟨by have := HK1.out; first | omega | exact Nat.le_refl _⟩, ⟨kr HO_7.out⟩, ⟨bw⟩⟩
    case rest =>
     clear HC11
     try clear c4
     try clear c4b0
     try clear c5
     try clear c5b0
     try clear c6
     try clear c6b0
     try clear c7
     try clear c12
     try clear hcz9_0
     try clear hcz9_1
     try clear hcz9_2
     try clear hfz9_0
     try clear hfz9_1
     try clear hfz9_2
     try clear hx169_0
     try clear hx169_1
     try clear hx169_2
     try clear p169
     try clear q169
     obtain ⟨kq, x30_10, rfl, HA, HJ10, HO_7, HB⟩ := hcut
     cases kq with
     | zero => exact absurd HA.out (by simp [lots_counts.j1])
     | succ kj10 =>
      have H := HA.out
      clear HA
      simp only [lots_counts.j1] at H
      by_cases c13 : x30_10 = true
      ·subst c13
       have H1 : ((share_Split.f kj10 a1 x7_1).bind fun bt174 => (some bt174.1)) = some r := by rw [if_pos rfl] at H; exact H
       clear H
       have H := H1
       clear H1
       replace H := Option.bind_eq_some_iff.mp H
       obtain ⟨⟨t174, t175⟩, A140, H⟩ := H
       replace H : (some t174) = some r := H
       have A14 := Aside0.mk A140
       clear A140
       obtain rfl := Option.some.inj H
       obtain ⟨Ao15, co15, eo15⟩ := Kd.R_slice HO_7.out
       subst eo15
       go_wp2_with (first | ((with_reducible refine gate_callee (f := 75) rfl ?_); refine goesL_ (some 34) rfl rfl Try.func75 (by kernel_rfl) rfl #[.int .i64 a1, .slice Ao15 x7_1.length co15] rfl (by (try simp only [List.map_toArray, List.map_cons, List.map_nil]); first | done | rfl | (simp only [List.length_drop, List.length_take]; rfl)) ?_; (with_reducible refine (share_Split.calls kj10 a1 _ _ x7_1 t174 t175 _ ?side1 ?side2 A14.out).mono ?_); (case side1 => repeat (first | exact (Kd.R_reads' HO_7.out).2.2 | (with_reducible refine Kd.C_alloc ?_ _) | (with_reducible refine Kd.C_drewN ?_ _) | (with_reducible refine Kd.C_drew ?_))); (case side2 => exact (Kd.R_reads' HO_7.out).2.1); rintro e w16 ⟨v176, rfl, ho0, hb⟩; refine ⟨_, rfl, ?_⟩; have n0_ := Aside0.mk (Kd.R_elder' (kr HO_7.out) (Kd.R_base ho0) hb); have n1_ := Aside0.mk (Kd.R_lower (Kd.R_new' ho0 (Kd.R_lt (kr HO_7.out))) (below_size (bw))); have n2_ := Aside0.mk (below_step (bw) hb); clear HO_7; clear HB; have HO_7 := n0_; have HO177 := n1_; have HB := n2_; clear n0_ n1_ n2_; (try clear hb); (try clear hb2); (try clear hk); (try clear hi); (try clear ho0)))
       go_ret
       exact ⟨_, by first | rfl | (simp [errW_none, errW_some] <;> rfl) | (simp [*, errW_none, errW_some] <;> rfl), by (with_reducible repeat (first | apply Kd.R_alloc | apply Kd.R_drewN | apply Kd.R_drew)); exact Kd.R_mono HO177.out (fun _ hk => trivial), bw⟩
      ·replace c13 := Bool.eq_false_iff.mpr c13
       subst c13
       have H1 : (lots_counts.l1 kj10 a1 x7_1 (x7_1.length : Int) 0) = some r := by rw [if_neg (show ¬ (false = true) by decide)] at H; exact H
       clear H
       have H := H1
       clear H1
       have H' := Aside0.mk H
       clear H
       obtain ⟨Ao17, co17, eo17⟩ := Kd.R_slice HO_7.out
       subst eo17
       go_wp2
       go_loopg [1, 40] kj10 (fun kq v1 v40 w' => ∃ (x1_3 : Int) (x7_3 : List Int) (x40_3 : Int), v1 = .int .i64 x1_3 ∧ v40 = .int .i64 x40_3 ∧ Aside0 (lots_counts.l1 kq x1_3 x7_3 (x7_1.length : Int) x40_3 = some r) ∧ Aside0 (kq ≤ kj10) ∧ Aside0 (Kd.R (Kd.int .i64) 3 w' w.heap.size (fun _ => True) (.slice Ao17 x7_1.length co17) x7_3) ∧ Aside0 (Below w.heap.size w w'))
       case atStart => exact ⟨(a1), (x7_1), (0), eqs, eqs, H', ⟨Nat.le_refl _⟩, ⟨kr HO_7.out⟩, ⟨bw⟩⟩
       case round =>
        clear H'
        try clear c4
        try clear c4b0
        try clear c5
        try clear c5b0
        try clear c6
        try clear c6b0
        try clear c7
        try clear c12
        try clear c13
        try clear hcz9_0
        try clear hcz9_1
        try clear hcz9_2
        try clear hfz9_0
        try clear hfz9_1
        try clear hfz9_2
        try clear hx169_0
        try clear hx169_1
        try clear hx169_2
        try clear p169
        try clear q169
        obtain ⟨x1_3, x7_3, x40_3, rfl, rfl, HA, HK3, HO_7, HB⟩ := hrel
        have hl7_3 := (Kd.R_reads' HO_7.out).1
        rw [hl7_3] at HO_7
        (try simp only [hl7_3])
        cases gk with
        | zero => exact absurd HA.out (by simp [lots_counts.l1])
        | succ k3 =>
         have H := HA.out
         clear HA
         simp only [lots_counts.l1] at H
         by_cases c18 : x40_3 < (x7_1.length : Int)
         ·rw [if_pos c18] at H
          have c18b0 : decide (x40_3 < (x7_1.length : Int)) = true := decide_eq_true c18
          clear c18
          (try simp only [hl7_3] at c18b0)
          by_cases c19 : 0 ≤ x40_3
          ·rw [if_pos c19] at H
           have c19b0 : decide (0 ≤ x40_3) = true := decide_eq_true c19
           clear c19
           by_cases c20 : x40_3 < (x7_3.length : Int)
           ·rw [if_pos c20] at H
            have c20b0 : decide (x40_3 < (x7_3.length : Int)) = true := decide_eq_true c20
            clear c20
            (try simp only [hl7_3] at c20b0)
            obtain ⟨ji21, hji21⟩ : ∃ j_ : Int, (mn x1_3 (rd x7_3 x40_3)) = j_ := ⟨_, rfl⟩
            replace H : ((some (x7_3.set (x40_3 : Int).toNat (ji21) : List Int)).bind fun y179 => (lots_counts.l1 k3 (wrap64 (x1_3 - (rd y179 x40_3))) y179 (x7_1.length : Int) (wrap64 (x40_3 + 1)))) = some r := by first | (rw [hji21] at H; exact H) | (simp only [hji21] at H ⊢; exact H)
            have hji21_ : (if (rd x7_3 x40_3) < x1_3 then (rd x7_3 x40_3) else x1_3) = ji21 := hji21
            obtain ⟨y179, hy179⟩ : ∃ y_ : List Int, y_ = (x7_3.set (x40_3 : Int).toNat (ji21)) := ⟨_, rfl⟩
            replace H : (lots_counts.l1 k3 (wrap64 (x1_3 - (rd y179 x40_3))) y179 (x7_1.length : Int) (wrap64 (x40_3 + 1))) = some r := by first | (rw [hy179]; with_reducible exact H) | (have H2_ := (Option.bind_some _ _).symm.trans H; rw [hy179]; with_reducible exact H2_) | (have H2_ := (Option.bind_some _ _).symm.trans H; with_reducible exact H2_) | with_reducible exact H | (rw [hy179]; exact H) | exact H
            have Ny179 := Aside0.mk hy179
            clear hy179
            have H' := Aside0.mk H
            clear H
            have p178 : 0 ≤ (x40_3 : Int) := oda
            have q178 : x40_3 < (x7_3.length : Int) := oda
            obtain ⟨ad178, e178, hx178_0⟩ := Kd.at_int (Kd.R_reads' HO_7.out).2.2 x40_3 p178 q178
            cases e178
            replace p178 := eq_true p178
            replace q178 := eq_true q178
            have p22 : 0 ≤ (x40_3 : Int) := oda
            have q22 : (x40_3 : Int) < ((x7_3.length : Int) : Int) := oda
            obtain ⟨go22, co22, eo22, gb22, gl22, cl22, HG22⟩ := Kd.R_form HO_7.out (by omega)
            (first | cases eo22 | (injection eo22 with ea_ en_ ec_; (first | subst ea_ | (injection ea_ with ea_; subst ea_)); subst ec_; clear en_))
            have GB22 := Aside0.mk gb22
            have GG22 := Aside0.mk HG22
            clear gb22 gl22 HG22
            (first | simp only [add_plain] at hx178_0 | skip)
            obtain ⟨hx22_0, hf22_0⟩ := Kd.R_celln 0 HO_7.out (x40_3 : Int) p22 q22
            replace p22 := eq_true p22
            replace q22 := eq_true q22
            have HP23 := Kd.R_putg HO_7.out (x40_3 : Int) ji21
            go_wp2_with (first | ((with_reducible refine gate_store (t := 3) (p := 50) rfl ?_); refine store_event (t := 3) (p := 50) (v := ?vo_w24) (w1 := (wr.setCell ⟨go22, (x40_3 : Int).toNat, none⟩ (.int .i64 ji21))) ?hg ?ho ?hn ?hr ?_; (case ho => rfl); (case hg => rfl); (case hn => rfl); (case hr => first | (go_simp; done) | (go_simp; rfl)); intro w24 hw; have hg : wr.grownBy w24 (some go22) := (by rw [hw]; exact HP23.2); have hp_ : Kd.R (Kd.int .i64) 3 w24 w.heap.size (fun _ => True) (.slice (some ⟨go22, 0, none⟩) x7_3.length co17) y179 := (by rw [hw, Ny179.out]; exact HP23.1); clear HP23; have n0_ := Aside0.mk (hp_); have n1_ := Aside0.mk ((by rw [hw]; exact below_set (HB.out) GB22.out : Below w.heap.size w w24)); clear HO_7; clear HB; have HO_7 := n0_; have HB := n1_; clear n0_ n1_; clear hg hw hp_; have p180 : 0 ≤ (x40_3 : Int) := oda; have q180 : x40_3 < (y179.length : Int) := (by have h_ : (x40_3 : Int) < ((x7_3.length : Int) : Int) := oda; first | (have e_ := (Kd.R_reads' HO_7.out).1; omega) | simpa only [Ny179.out, List.length_set] using h_); have ql180 : ((x40_3 : Int) < ((x7_3.length : Int) : Int)) = True := eq_true (oda); obtain ⟨ad180, e180, hx180_0⟩ := Kd.at_int (Kd.R_reads' HO_7.out).2.2 x40_3 p180 q180; obtain rfl : (⟨go22, 0, none⟩ : Addr) = ad180 := (by injection e180); (first | simp only [add_plain] at hx180_0 | simp only [add_at] at hx180_0 | simp only [Addr.add, Nat.zero_add] at hx180_0 | skip); replace p180 := eq_true p180; replace q180 := eq_true q180))
            (try simp only [← hl7_3])
            go_roundg k3
            case measure => have := HK1.out; have := HJ10.out; have := HK3.out; omega
            case rel => exact ⟨(wrap64 (x1_3 - (rd y179 x40_3))), (y179), (wrap64 (x40_3 + 1)), eqs, eqs, H', ⟨by have := HK1.out; have := HJ10.out; have := HK3.out; omega⟩, ⟨by (try simp only [hl7_3]); (with_reducible repeat (first | apply Kd.R_alloc | apply Kd.R_drewN | apply Kd.R_drew)); exact HO_7.out⟩, ⟨bw⟩⟩
           ·rw [if_neg c20] at H
            exact absurd H (by simp)
          ·rw [if_neg c19] at H
           exact absurd H (by simp)
         ·rw [if_neg c18] at H
          have c18b0 : decide (x40_3 < (x7_1.length : Int)) = false := decide_eq_false c18
          clear c18
          (try simp only [hl7_3] at c18b0)
          obtain rfl := Option.some.inj H
          go_wp2
          go_ret
          exact ⟨_, by first | rfl | (simp [errW_none, errW_some] <;> rfl) | (simp [*, errW_none, errW_some] <;> rfl), kr HO_7.out, bw⟩


end Go.Proofs.Ytcicjbgfahdejaa.P
