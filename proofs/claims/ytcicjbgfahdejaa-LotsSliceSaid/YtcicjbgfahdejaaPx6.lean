/- Written by a program of this session out of the translation: functions told as plain Lean, each with the walk that shows it. -/
import Derived.Test.YtcicjbgfahdejaaPx0
import Derived.Test.YtcicjbgfahdejaaPx3
import Derived.Test.YtcicjbgfahdejaaPx4
import Derived.Test.YtcicjbgfahdejaaPx5
namespace Go.Proofs.Ytcicjbgfahdejaa.P
open Go.RowKit Go.Proofs.YtcicjbgfahdejaaW.PrintWords Go.Proofs.YtcicjbgfahdejaaW.PrintLast Go.Proofs.YtcicjbgfahdejaaW.PrintMore
attribute [local go_sem] max2_int min2_int max_two min_two max_three min_three max_four min_four   -- for this text's walks alone
set_option linter.unusedVariables false
set_option linter.unusedSimpArgs false

/-! ### worldmintlaw14_lives: function 19 -/
def worldmintlaw14_lives.j0 : Nat → List (S39) → List (S39) → List (S39) → List (S39) → List (S39) → Bool → Option (Bool)
 | 0, _, _, _, _, _, _ => none
 | k + 1, x2, x3, x5, x8, x10, x49 => if x49 = true then (some false) else ((worldmintref14_Same.f k x2 (([(⟨7, 0, 4⟩ : S39)] : List (S39)))).bind fun t270 => (if t270 = true then ((worldmintref14_Same.f k x3 (([(⟨7, 4, 2⟩ : S39), (⟨9, 2, 2⟩ : S39)] : List (S39)))).bind fun t274 => (if t274 = true then ((worldmintref14_Same.f k x5 (([(⟨7, 0, 3⟩ : S39), (⟨9, 2, 1⟩ : S39)] : List (S39)))).bind fun t278 => (if t278 = true then ((worldmintref14_Same.f k x8 (([(⟨7, 5, 1⟩ : S39), (⟨9, 2, 1⟩ : S39)] : List (S39)))).bind fun t282 => (if t282 = true then ((worldmintref14_Same.f k x10 (([(⟨7, 0, 1⟩ : S39), (⟨7, 3, 3⟩ : S39), (⟨9, 2, 2⟩ : S39)] : List (S39)))).bind fun t286 => (some t286)) else (some false))) else (some false))) else (some false))) else (some false)))
def worldmintlaw14_lives.f (k : Nat)  : Option (Bool) := (some (([(⟨7, 0, 6⟩ : S39), (⟨9, 2, 2⟩ : S39)] : List (S39)) : List (S39))).bind fun y239 => ((lots_Take.f k y239 4 false).bind fun bt242 => ((lots_Take.f k y239 4 true).bind fun bt249 => ((lots_Slice.f k y239 5 2).bind fun bt256 => ((lots_Minus.f k y239 (([(⟨7, 1, 2⟩ : S39)] : List (S39)))).bind fun t263 => (if bt242.2.2 = 0 then (if bt249.2.2 = 0 then (if bt256.2 = 0 then ((lots_Total.f k y239).bind fun t266 => (worldmintlaw14_lives.j0 k bt242.1 bt242.2.1 bt249.1 bt256.1 t263 (t266 != 8))) else (worldmintlaw14_lives.j0 k bt242.1 bt242.2.1 bt249.1 bt256.1 t263 true)) else (worldmintlaw14_lives.j0 k bt242.1 bt242.2.1 bt249.1 bt256.1 t263 true)) else (worldmintlaw14_lives.j0 k bt242.1 bt242.2.1 bt249.1 bt256.1 t263 true))))))
set_option maxHeartbeats 8000000 in
set_option maxRecDepth 100000 in
theorem worldmintlaw14_lives.calls (k : Nat)  (r : Bool) (w : World) (h : worldmintlaw14_lives.f k  = some r) :
  Calls Try.prog 19 #[] w fun e w' => e = .returned (.bool r) ∧ Below w.heap.size w w' := by
 have hu39 := Try.underlying39
 have HB := Aside0.mk (Below.refl w.heap.size w)
 have H : ((some (([(⟨7, 0, 6⟩ : S39), (⟨9, 2, 2⟩ : S39)] : List (S39)) : List (S39))).bind fun y239 => ((lots_Take.f k y239 4 false).bind fun bt242 => ((lots_Take.f k y239 4 true).bind fun bt249 => ((lots_Slice.f k y239 5 2).bind fun bt256 => ((lots_Minus.f k y239 (([(⟨7, 1, 2⟩ : S39)] : List (S39)))).bind fun t263 => (if bt242.2.2 = 0 then (if bt249.2.2 = 0 then (if bt256.2 = 0 then ((lots_Total.f k y239).bind fun t266 => (worldmintlaw14_lives.j0 k bt242.1 bt242.2.1 bt249.1 bt256.1 t263 (t266 != 8))) else (worldmintlaw14_lives.j0 k bt242.1 bt242.2.1 bt249.1 bt256.1 t263 true)) else (worldmintlaw14_lives.j0 k bt242.1 bt242.2.1 bt249.1 bt256.1 t263 true)) else (worldmintlaw14_lives.j0 k bt242.1 bt242.2.1 bt249.1 bt256.1 t263 true))))))) = some r := h
 clear h
 obtain ⟨y239, hy239⟩ : ∃ y_ : List (S39), y_ = (([(⟨7, 0, 6⟩ : S39), (⟨9, 2, 2⟩ : S39)] : List (S39))) := ⟨_, rfl⟩
 replace H : ((lots_Take.f k y239 4 false).bind fun bt242 => ((lots_Take.f k y239 4 true).bind fun bt249 => ((lots_Slice.f k y239 5 2).bind fun bt256 => ((lots_Minus.f k y239 (([(⟨7, 1, 2⟩ : S39)] : List (S39)))).bind fun t263 => (if bt242.2.2 = 0 then (if bt249.2.2 = 0 then (if bt256.2 = 0 then ((lots_Total.f k y239).bind fun t266 => (worldmintlaw14_lives.j0 k bt242.1 bt242.2.1 bt249.1 bt256.1 t263 (t266 != 8))) else (worldmintlaw14_lives.j0 k bt242.1 bt242.2.1 bt249.1 bt256.1 t263 true)) else (worldmintlaw14_lives.j0 k bt242.1 bt242.2.1 bt249.1 bt256.1 t263 true)) else (worldmintlaw14_lives.j0 k bt242.1 bt242.2.1 bt249.1 bt256.1 t263 true)))))) = some r := by first | (rw [hy239]; with_reducible exact H) | (have H2_ := (Option.bind_some _ _).symm.trans H; rw [hy239]; with_reducible exact H2_) | (have H2_ := (Option.bind_some _ _).symm.trans H; with_reducible exact H2_) | with_reducible exact H | (rw [hy239]; exact H) | exact H
 have Ny239 := Aside0.mk hy239
 clear hy239
 replace H := Option.bind_eq_some_iff.mp H
 obtain ⟨⟨t242, t243, t244⟩, A10, H⟩ := H
 replace H : ((lots_Take.f k y239 4 true).bind fun bt249 => ((lots_Slice.f k y239 5 2).bind fun bt256 => ((lots_Minus.f k y239 (([(⟨7, 1, 2⟩ : S39)] : List (S39)))).bind fun t263 => (if t244 = 0 then (if bt249.2.2 = 0 then (if bt256.2 = 0 then ((lots_Total.f k y239).bind fun t266 => (worldmintlaw14_lives.j0 k t242 t243 bt249.1 bt256.1 t263 (t266 != 8))) else (worldmintlaw14_lives.j0 k t242 t243 bt249.1 bt256.1 t263 true)) else (worldmintlaw14_lives.j0 k t242 t243 bt249.1 bt256.1 t263 true)) else (worldmintlaw14_lives.j0 k t242 t243 bt249.1 bt256.1 t263 true))))) = some r := H
 have A1 := Aside0.mk A10
 clear A10
 replace H := Option.bind_eq_some_iff.mp H
 obtain ⟨⟨t249, t250, t251⟩, A20, H⟩ := H
 replace H : ((lots_Slice.f k y239 5 2).bind fun bt256 => ((lots_Minus.f k y239 (([(⟨7, 1, 2⟩ : S39)] : List (S39)))).bind fun t263 => (if t244 = 0 then (if t251 = 0 then (if bt256.2 = 0 then ((lots_Total.f k y239).bind fun t266 => (worldmintlaw14_lives.j0 k t242 t243 t249 bt256.1 t263 (t266 != 8))) else (worldmintlaw14_lives.j0 k t242 t243 t249 bt256.1 t263 true)) else (worldmintlaw14_lives.j0 k t242 t243 t249 bt256.1 t263 true)) else (worldmintlaw14_lives.j0 k t242 t243 t249 bt256.1 t263 true)))) = some r := H
 have A2 := Aside0.mk A20
 clear A20
 replace H := Option.bind_eq_some_iff.mp H
 obtain ⟨⟨t256, t257⟩, A30, H⟩ := H
 replace H : ((lots_Minus.f k y239 (([(⟨7, 1, 2⟩ : S39)] : List (S39)))).bind fun t263 => (if t244 = 0 then (if t251 = 0 then (if t257 = 0 then ((lots_Total.f k y239).bind fun t266 => (worldmintlaw14_lives.j0 k t242 t243 t249 t256 t263 (t266 != 8))) else (worldmintlaw14_lives.j0 k t242 t243 t249 t256 t263 true)) else (worldmintlaw14_lives.j0 k t242 t243 t249 t256 t263 true)) else (worldmintlaw14_lives.j0 k t242 t243 t249 t256 t263 true))) = some r := H
 have A3 := Aside0.mk A30
 clear A30
 obtain ⟨y260, hy260⟩ : ∃ y_ : List (S39), y_ = (([(⟨7, 1, 2⟩ : S39)] : List (S39))) := ⟨_, rfl⟩
 replace H : ((lots_Minus.f k y239 y260).bind fun t263 => (if t244 = 0 then (if t251 = 0 then (if t257 = 0 then ((lots_Total.f k y239).bind fun t266 => (worldmintlaw14_lives.j0 k t242 t243 t249 t256 t263 (t266 != 8))) else (worldmintlaw14_lives.j0 k t242 t243 t249 t256 t263 true)) else (worldmintlaw14_lives.j0 k t242 t243 t249 t256 t263 true)) else (worldmintlaw14_lives.j0 k t242 t243 t249 t256 t263 true))) = some r := by first | (rw [hy260]; with_reducible exact H) | (have H2_ := (Option.bind_some _ _).symm.trans H; rw [hy260]; with_reducible exact H2_) | (have H2_ := (Option.bind_some _ _).symm.trans H; with_reducible exact H2_) | with_reducible exact H | (rw [hy260]; exact H) | exact H
 have Ny260 := Aside0.mk hy260
 clear hy260
 replace H := Option.bind_eq_some_iff.mp H
 obtain ⟨t263, A40, H⟩ := H
 replace H : (if t244 = 0 then (if t251 = 0 then (if t257 = 0 then ((lots_Total.f k y239).bind fun t266 => (worldmintlaw14_lives.j0 k t242 t243 t249 t256 t263 (t266 != 8))) else (worldmintlaw14_lives.j0 k t242 t243 t249 t256 t263 true)) else (worldmintlaw14_lives.j0 k t242 t243 t249 t256 t263 true)) else (worldmintlaw14_lives.j0 k t242 t243 t249 t256 t263 true)) = some r := H
 have A4 := Aside0.mk A40
 clear A40
 have HC5 := Aside0.mk H
 clear H
 go_enter Try.func19, Try.ntmps19
 go_upto_region 6 with (first | ((with_reducible refine gate_dst (N := 13) rfl ?_); (try (refine gate_guard (by rfl) ?_; dsimp only)); refine Kd.R_lit k39 _ 39 ?hg (N := 13) ?hd (xs := ([(⟨7, 0, 6⟩ : S39), (⟨9, 2, 2⟩ : S39)] : List (S39))) (inner := [.int .i64 7, .int .i64 0, .int .i64 6, .int .i64 9, .int .i64 2, .int .i64 2]) (ok := fun _ => True) (okp := fun _ => True) ?hr ?hp (fun _ hk => hk) trivial (Below.refl _ _) (Nat.le_refl _) (by simp) ?_; (case hd => rfl); (case hg => rfl); (case hr => first | (go_simp; done) | (go_simp; rfl)); (case hp => exact (Reps.c3 (show Kd.M k39 _ _ _ (⟨7, 0, 6⟩ : S39) [.int .i64 7, .int .i64 0, .int .i64 6] from (k39_mkM _ _ _ (⟨7, 0, 6⟩ : S39) )) (Reps.c3 (show Kd.M k39 _ _ _ (⟨9, 2, 2⟩ : S39) [.int .i64 9, .int .i64 2, .int .i64 2] from (k39_mkM _ _ _ (⟨9, 2, 2⟩ : S39) )) (Reps.none _ _)))); intro v240 w6 ho7 hb hg_ hnew_; clear hg_ hnew_; (first | rw [← Ny239.out] at ho7 | (simp only [Int.reduceToNat] at ho7; rw [← Ny239.out] at ho7)); have n0_ := Aside0.mk (Kd.R_lower ho7 (below_size (bw))); have n1_ := Aside0.mk (below_step (bw) hb); clear HB; have HO241 := n0_; have HB := n1_; clear n0_ n1_; clear hb ho7; obtain ⟨Ao8, co8, eo8⟩ := Kd.R_slice HO241.out; subst eo8) | ((with_reducible refine gate_callee (f := 16) rfl ?_); refine goesL_ (some 16) rfl rfl Try.func16 (by kernel_rfl) rfl #[.slice Ao8 y239.length co8, .int .i64 4, .bool false] rfl (by (try simp only [List.map_toArray, List.map_cons, List.map_nil]); first | done | rfl | (simp only [List.length_drop, List.length_take]; rfl)) ?_; (with_reducible refine (lots_Take.calls k _ _ y239 4 false t242 t243 t244 _ ?side1 ?side2 A1.out).mono ?_); (case side1 => repeat (first | exact (Kd.R_reads' HO241.out).2.2 | (with_reducible refine Kd.C_alloc ?_ _) | (with_reducible refine Kd.C_drewN ?_ _) | (with_reducible refine Kd.C_drew ?_))); (case side2 => exact (Kd.R_reads' HO241.out).2.1); rintro e w9 ⟨v245, v247, rfl, ho0, ho1, hb⟩; refine ⟨_, rfl, ?_⟩; have n0_ := Aside0.mk (Kd.R_mono (Kd.R_told (Kd.R_told (Kd.R_old (kr HO241.out) hb) (Kd.R_base ho0)) (Kd.R_base ho1)) (fun _ h_ => h_.1)); have n1_ := Aside0.mk (Kd.R_lower (Kd.R_new' ho0 (Kd.R_lt (kr HO241.out))) (below_size (bw))); have n2_ := Aside0.mk (Kd.R_lower (Kd.R_new' ho1 (Kd.R_lt (kr HO241.out))) (below_size (bw))); have n3_ := Aside0.mk (below_step (bw) hb); clear HO241; clear HB; have HO241 := n0_; have HO246 := n1_; have HO248 := n2_; have HB := n3_; clear n0_ n1_ n2_ n3_; (try clear hb); (try clear hb2); (try clear hk); (try clear hi); (try clear ho0); (try clear ho1)) | ((with_reducible refine gate_callee (f := 16) rfl ?_); refine goesL_ (some 22) rfl rfl Try.func16 (by kernel_rfl) rfl #[.slice Ao8 y239.length co8, .int .i64 4, .bool true] rfl (by (try simp only [List.map_toArray, List.map_cons, List.map_nil]); first | done | rfl | (simp only [List.length_drop, List.length_take]; rfl)) ?_; (with_reducible refine (lots_Take.calls k _ _ y239 4 true t249 t250 t251 _ ?side1 ?side2 A2.out).mono ?_); (case side1 => repeat (first | exact (Kd.R_reads' HO241.out).2.2 | (with_reducible refine Kd.C_alloc ?_ _) | (with_reducible refine Kd.C_drewN ?_ _) | (with_reducible refine Kd.C_drew ?_))); (case side2 => exact (Kd.R_reads' HO241.out).2.1); rintro e w10 ⟨v252, v254, rfl, ho0, ho1, hb⟩; refine ⟨_, rfl, ?_⟩; have n0_ := Aside0.mk (Kd.R_mono (Kd.R_told (Kd.R_told (Kd.R_old (kr HO241.out) hb) (Kd.R_base ho0)) (Kd.R_base ho1)) (fun _ h_ => h_.1)); have n1_ := Aside0.mk (Kd.R_mono (Kd.R_told (Kd.R_told (Kd.R_old (kr HO246.out) hb) (Kd.R_base ho0)) (Kd.R_base ho1)) (fun _ h_ => h_.1)); have n2_ := Aside0.mk (Kd.R_mono (Kd.R_told (Kd.R_told (Kd.R_old (kr HO248.out) hb) (Kd.R_base ho0)) (Kd.R_base ho1)) (fun _ h_ => h_.1)); have n3_ := Aside0.mk (Kd.R_lower (Kd.R_new' (Kd.R_new' (Kd.R_new' ho0 (Kd.R_lt (kr HO241.out))) (Kd.R_lt (kr HO246.out))) (Kd.R_lt (kr HO248.out))) (below_size (bw))); have n4_ := Aside0.mk (Kd.R_lower (Kd.R_new' (Kd.R_new' (Kd.R_new' ho1 (Kd.R_lt (kr HO241.out))) (Kd.R_lt (kr HO246.out))) (Kd.R_lt (kr HO248.out))) (below_size (bw))); have n5_ := Aside0.mk (below_step (bw) hb); clear HO241; clear HO246; clear HO248; clear HB; have HO241 := n0_; have HO246 := n1_; have HO248 := n2_; have HO253 := n3_; have HO255 := n4_; have HB := n5_; clear n0_ n1_ n2_ n3_ n4_ n5_; (try clear hb); (try clear hb2); (try clear hk); (try clear hi); (try clear ho0); (try clear ho1)) | ((with_reducible refine gate_callee (f := 20) rfl ?_); refine goesL_ (some 28) rfl rfl Try.func20 (by kernel_rfl) rfl #[.slice Ao8 y239.length co8, .int .i64 5, .int .i64 2] rfl (by (try simp only [List.map_toArray, List.map_cons, List.map_nil]); first | done | rfl | (simp only [List.length_drop, List.length_take]; rfl)) ?_; (with_reducible refine (lots_Slice.calls k _ _ y239 5 2 t256 t257 _ ?side1 ?side2 A3.out).mono ?_); (case side1 => repeat (first | exact (Kd.R_reads' HO241.out).2.2 | (with_reducible refine Kd.C_alloc ?_ _) | (with_reducible refine Kd.C_drewN ?_ _) | (with_reducible refine Kd.C_drew ?_))); (case side2 => exact (Kd.R_reads' HO241.out).2.1); rintro e w11 ⟨v258, rfl, ho0, hb⟩; refine ⟨_, rfl, ?_⟩; have n0_ := Aside0.mk (Kd.R_elder' (kr HO241.out) (Kd.R_base ho0) hb); have n1_ := Aside0.mk (Kd.R_elder' (kr HO246.out) (Kd.R_base ho0) hb); have n2_ := Aside0.mk (Kd.R_elder' (kr HO248.out) (Kd.R_base ho0) hb); have n3_ := Aside0.mk (Kd.R_elder' (kr HO253.out) (Kd.R_base ho0) hb); have n4_ := Aside0.mk (Kd.R_elder' (kr HO255.out) (Kd.R_base ho0) hb); have n5_ := Aside0.mk (Kd.R_lower (Kd.R_new' (Kd.R_new' (Kd.R_new' (Kd.R_new' (Kd.R_new' ho0 (Kd.R_lt (kr HO241.out))) (Kd.R_lt (kr HO246.out))) (Kd.R_lt (kr HO248.out))) (Kd.R_lt (kr HO253.out))) (Kd.R_lt (kr HO255.out))) (below_size (bw))); have n6_ := Aside0.mk (below_step (bw) hb); clear HO241; clear HO246; clear HO248; clear HO253; clear HO255; clear HB; have HO241 := n0_; have HO246 := n1_; have HO248 := n2_; have HO253 := n3_; have HO255 := n4_; have HO259 := n5_; have HB := n6_; clear n0_ n1_ n2_ n3_ n4_ n5_ n6_; (try clear hb); (try clear hb2); (try clear hk); (try clear hi); (try clear ho0)) | ((with_reducible refine gate_dst (N := 33) rfl ?_); (try (refine gate_guard (by rfl) ?_; dsimp only)); refine Kd.R_lit k39 _ 39 ?hg (N := 33) ?hd (xs := ([(⟨7, 1, 2⟩ : S39)] : List (S39))) (inner := [.int .i64 7, .int .i64 1, .int .i64 2]) (ok := fun _ => True) (okp := fun _ => True) ?hr ?hp (fun _ hk => hk) trivial (Below.refl _ _) (Nat.le_refl _) (by simp) ?_; (case hd => rfl); (case hg => rfl); (case hr => first | (go_simp; done) | (go_simp; rfl)); (case hp => exact (Reps.c3 (show Kd.M k39 _ _ _ (⟨7, 1, 2⟩ : S39) [.int .i64 7, .int .i64 1, .int .i64 2] from (k39_mkM _ _ _ (⟨7, 1, 2⟩ : S39) )) (Reps.none _ _))); intro v261 w12 ho13 hb hg_ hnew_; clear hg_ hnew_; (first | rw [← Ny260.out] at ho13 | (simp only [Int.reduceToNat] at ho13; rw [← Ny260.out] at ho13)); have n0_ := Aside0.mk (Kd.R_elder' (kr HO241.out) (Kd.R_base ho13) hb); have n1_ := Aside0.mk (Kd.R_elder' (kr HO246.out) (Kd.R_base ho13) hb); have n2_ := Aside0.mk (Kd.R_elder' (kr HO248.out) (Kd.R_base ho13) hb); have n3_ := Aside0.mk (Kd.R_elder' (kr HO253.out) (Kd.R_base ho13) hb); have n4_ := Aside0.mk (Kd.R_elder' (kr HO255.out) (Kd.R_base ho13) hb); have n5_ := Aside0.mk (Kd.R_elder' (kr HO259.out) (Kd.R_base ho13) hb); have n6_ := Aside0.mk (Kd.R_lower (Kd.R_new' (Kd.R_new' (Kd.R_new' (Kd.R_new' (Kd.R_new' (Kd.R_new' ho13 (Kd.R_lt (kr HO241.out))) (Kd.R_lt (kr HO246.out))) (Kd.R_lt (kr HO248.out))) (Kd.R_lt (kr HO253.out))) (Kd.R_lt (kr HO255.out))) (Kd.R_lt (kr HO259.out))) (below_size (bw))); have n7_ := Aside0.mk (below_step (bw) hb); clear HO241; clear HO246; clear HO248; clear HO253; clear HO255; clear HO259; clear HB; have HO241 := n0_; have HO246 := n1_; have HO248 := n2_; have HO253 := n3_; have HO255 := n4_; have HO259 := n5_; have HO262 := n6_; have HB := n7_; clear n0_ n1_ n2_ n3_ n4_ n5_ n6_ n7_; clear hb ho13; obtain ⟨Ao14, co14, eo14⟩ := Kd.R_slice HO262.out; subst eo14) | ((with_reducible refine gate_callee (f := 31) rfl ?_); refine goesL_ (some 34) rfl rfl Try.func31 (by kernel_rfl) rfl #[.slice Ao8 y239.length co8, .slice Ao14 y260.length co14] rfl (by (try simp only [List.map_toArray, List.map_cons, List.map_nil]); first | done | rfl | (simp only [List.length_drop, List.length_take]; rfl)) ?_; (with_reducible refine (lots_Minus.calls k _ _ y239 _ _ y260 t263 _ ?side1 ?side2 ?side3 ?side4 A4.out).mono ?_); (case side1 => repeat (first | exact (Kd.R_reads' HO241.out).2.2 | (with_reducible refine Kd.C_alloc ?_ _) | (with_reducible refine Kd.C_drewN ?_ _) | (with_reducible refine Kd.C_drew ?_))); (case side2 => exact (Kd.R_reads' HO241.out).2.1); (case side3 => repeat (first | exact (Kd.R_reads' HO262.out).2.2 | (with_reducible refine Kd.C_alloc ?_ _) | (with_reducible refine Kd.C_drewN ?_ _) | (with_reducible refine Kd.C_drew ?_))); (case side4 => exact (Kd.R_reads' HO262.out).2.1); rintro e w15 ⟨v264, rfl, ho0, hb⟩; refine ⟨_, rfl, ?_⟩; have n0_ := Aside0.mk (Kd.R_elder' (kr HO241.out) (Kd.R_base ho0) hb); have n1_ := Aside0.mk (Kd.R_elder' (kr HO246.out) (Kd.R_base ho0) hb); have n2_ := Aside0.mk (Kd.R_elder' (kr HO248.out) (Kd.R_base ho0) hb); have n3_ := Aside0.mk (Kd.R_elder' (kr HO253.out) (Kd.R_base ho0) hb); have n4_ := Aside0.mk (Kd.R_elder' (kr HO255.out) (Kd.R_base ho0) hb); have n5_ := Aside0.mk (Kd.R_elder' (kr HO259.out) (Kd.R_base ho0) hb); have n6_ := Aside0.mk (Kd.R_elder' (kr HO262.out) (Kd.R_base ho0) hb); have n7_ := Aside0.mk (Kd.R_lower (Kd.R_new' (Kd.R_new' (Kd.R_new' (Kd.R_new' (Kd.R_new' (Kd.R_new' (Kd.R_new' ho0 (Kd.R_lt (kr HO241.out))) (Kd.R_lt (kr HO246.out))) (Kd.R_lt (kr HO248.out))) (Kd.R_lt (kr HO253.out))) (Kd.R_lt (kr HO255.out))) (Kd.R_lt (kr HO259.out))) (Kd.R_lt (kr HO262.out))) (below_size (bw))); have n8_ := Aside0.mk (below_step (bw) hb); clear HO241; clear HO246; clear HO248; clear HO253; clear HO255; clear HO259; clear HO262; clear HB; have HO241 := n0_; have HO246 := n1_; have HO248 := n2_; have HO253 := n3_; have HO255 := n4_; have HO259 := n5_; have HO262 := n6_; have HO265 := n7_; have HB := n8_; clear n0_ n1_ n2_ n3_ n4_ n5_ n6_ n7_ n8_; (try clear hb); (try clear hb2); (try clear hk); (try clear hi); (try clear ho0)))
 (try simp only [Act.put, List.setIfInBounds_toArray, List.set_cons_zero, List.set_cons_succ])
 go_cut [49] (fun v49 wc => ∃ (kq : Nat) (x49_4 : Bool), v49 = .bool x49_4 ∧ Aside0 (worldmintlaw14_lives.j0 kq t242 t243 t249 t256 t263 x49_4 = some r) ∧ Aside0 (kq ≤ k) ∧ Aside0 (Kd.R k39 39 wc w.heap.size (fun k_ => some k_ ≠ (v247 : Value).ownBlock ∧ some k_ ≠ (v252 : Value).ownBlock ∧ some k_ ≠ (v258 : Value).ownBlock ∧ some k_ ≠ (v264 : Value).ownBlock) v245 t242) ∧ Aside0 (Kd.R k39 39 wc w.heap.size (fun k_ => some k_ ≠ (v245 : Value).ownBlock ∧ some k_ ≠ (v252 : Value).ownBlock ∧ some k_ ≠ (v258 : Value).ownBlock ∧ some k_ ≠ (v264 : Value).ownBlock) v247 t243) ∧ Aside0 (Kd.R k39 39 wc w.heap.size (fun k_ => some k_ ≠ (v245 : Value).ownBlock ∧ some k_ ≠ (v247 : Value).ownBlock ∧ some k_ ≠ (v258 : Value).ownBlock ∧ some k_ ≠ (v264 : Value).ownBlock) v252 t249) ∧ Aside0 (Kd.R k39 39 wc w.heap.size (fun k_ => some k_ ≠ (v245 : Value).ownBlock ∧ some k_ ≠ (v247 : Value).ownBlock ∧ some k_ ≠ (v252 : Value).ownBlock ∧ some k_ ≠ (v264 : Value).ownBlock) v258 t256) ∧ Aside0 (Kd.R k39 39 wc w.heap.size (fun k_ => some k_ ≠ (v245 : Value).ownBlock ∧ some k_ ≠ (v247 : Value).ownBlock ∧ some k_ ≠ (v252 : Value).ownBlock ∧ some k_ ≠ (v258 : Value).ownBlock) v264 t263) ∧ Aside0 (Below w.heap.size w wc))
 case first =>
  have H := HC5.out
  clear HC5
  by_cases c16 : t244 = 0
  ·rw [if_pos c16] at H
   have c16b0 : (t244 == 0) = true := beq_iff_eq.mpr c16
   have c16b1 : (t244 != 0) = false := bne_eq_false_iff_eq.mpr c16
   clear c16
   (first | rw [c16b0] | (simp only [i64_w, i32_w]; rw [c16b0]) | skip)
   by_cases c17 : t251 = 0
   ·rw [if_pos c17] at H
    have c17b0 : (t251 == 0) = true := beq_iff_eq.mpr c17
    have c17b1 : (t251 != 0) = false := bne_eq_false_iff_eq.mpr c17
    clear c17
    by_cases c18 : t257 = 0
    ·rw [if_pos c18] at H
     have c18b0 : (t257 == 0) = true := beq_iff_eq.mpr c18
     have c18b1 : (t257 != 0) = false := bne_eq_false_iff_eq.mpr c18
     clear c18
     replace H := Option.bind_eq_some_iff.mp H
     obtain ⟨t266, A190, H⟩ := H
     replace H : (worldmintlaw14_lives.j0 k t242 t243 t249 t256 t263 (t266 != 8)) = some r := H
     have A19 := Aside0.mk A190
     clear A190
     have H' := Aside0.mk H
     clear H
     go_wp2_with (first | (go_at_call 24; (with_reducible refine (lots_Total.calls k _ _ y239 t266 _ ?side1 ?side2 A19.out).mono ?_); (case side1 => repeat (first | exact (Kd.R_reads' HO241.out).2.2 | (with_reducible refine Kd.C_alloc ?_ _) | (with_reducible refine Kd.C_drewN ?_ _) | (with_reducible refine Kd.C_drew ?_))); (case side2 => exact (Kd.R_reads' HO241.out).2.1); rintro e w20 ⟨rfl, hb⟩; have n0_ := Aside0.mk (Kd.R_below (kr HO241.out) hb); have n1_ := Aside0.mk (Kd.R_below (kr HO246.out) hb); have n2_ := Aside0.mk (Kd.R_below (kr HO248.out) hb); have n3_ := Aside0.mk (Kd.R_below (kr HO253.out) hb); have n4_ := Aside0.mk (Kd.R_below (kr HO255.out) hb); have n5_ := Aside0.mk (Kd.R_below (kr HO259.out) hb); have n6_ := Aside0.mk (Kd.R_below (kr HO262.out) hb); have n7_ := Aside0.mk (Kd.R_below (kr HO265.out) hb); have n8_ := Aside0.mk (below_step (bw) hb); clear HO241; clear HO246; clear HO248; clear HO253; clear HO255; clear HO259; clear HO262; clear HO265; clear HB; have HO241 := n0_; have HO246 := n1_; have HO248 := n2_; have HO253 := n3_; have HO255 := n4_; have HO259 := n5_; have HO262 := n6_; have HO265 := n7_; have HB := n8_; clear n0_ n1_ n2_ n3_ n4_ n5_ n6_ n7_ n8_; (try clear hb); (try clear hb2); (try clear hk); (try clear hi)))
     go_meet
     case rel => exact ⟨_, ((t266 != 8)), eqs, H', ⟨by first | omega | exact Nat.le_refl _⟩, ⟨by (with_reducible repeat (first | apply Kd.R_alloc | apply Kd.R_drewN | apply Kd.R_drew)); exact Kd.R_mono HO246.out (fun _ hk => ⟨hk.1.1.1.1.1.1, ⟨hk.1.1.1.1.2, ⟨hk.1.1.2, hk.2⟩⟩⟩)⟩, ⟨by (with_reducible repeat (first | apply Kd.R_alloc | apply Kd.R_drewN | apply Kd.R_drew)); exact Kd.R_mono HO248.out (fun _ hk => ⟨hk.1.1.1.1.1.1, ⟨hk.1.1.1.1.2, ⟨hk.1.1.2, hk.2⟩⟩⟩)⟩, ⟨by (with_reducible repeat (first | apply Kd.R_alloc | apply Kd.R_drewN | apply Kd.R_drew)); exact Kd.R_mono HO253.out (fun _ hk => ⟨hk.1.1.1.1.2, ⟨hk.1.1.1.2, ⟨hk.1.1.2, hk.2⟩⟩⟩)⟩, ⟨by (with_reducible repeat (first | apply Kd.R_alloc | apply Kd.R_drewN | apply Kd.R_drew)); exact Kd.R_mono HO259.out (fun _ hk => ⟨hk.1.1.1.1.1.2, ⟨hk.1.1.1.1.2, ⟨hk.1.1.1.2, hk.2⟩⟩⟩)⟩, ⟨by (with_reducible repeat (first | apply Kd.R_alloc | apply Kd.R_drewN | apply Kd.R_drew)); exact Kd.R_mono HO265.out (fun _ hk => ⟨hk.1.1.1.1.1.2, ⟨hk.1.1.1.1.2, ⟨hk.1.1.1.2, hk.1.2⟩⟩⟩)⟩, ⟨bw⟩⟩
    ·rw [if_neg c18] at H
     have c18b0 : (t257 == 0) = false := beq_eq_false_iff_ne.mpr c18
     have c18b1 : (t257 != 0) = true := bne_iff_ne.mpr c18
     have H' := Aside0.mk H
     clear H
     go_wp2
     go_meet
     case rel => exact ⟨_, (true), eqs, H', ⟨by first | omega | exact Nat.le_refl _⟩, ⟨by (with_reducible repeat (first | apply Kd.R_alloc | apply Kd.R_drewN | apply Kd.R_drew)); exact Kd.R_mono HO246.out (fun _ hk => ⟨hk.1.1.1.1.1.1, ⟨hk.1.1.1.1.2, ⟨hk.1.1.2, hk.2⟩⟩⟩)⟩, ⟨by (with_reducible repeat (first | apply Kd.R_alloc | apply Kd.R_drewN | apply Kd.R_drew)); exact Kd.R_mono HO248.out (fun _ hk => ⟨hk.1.1.1.1.1.1, ⟨hk.1.1.1.1.2, ⟨hk.1.1.2, hk.2⟩⟩⟩)⟩, ⟨by (with_reducible repeat (first | apply Kd.R_alloc | apply Kd.R_drewN | apply Kd.R_drew)); exact Kd.R_mono HO253.out (fun _ hk => ⟨hk.1.1.1.1.2, ⟨hk.1.1.1.2, ⟨hk.1.1.2, hk.2⟩⟩⟩)⟩, ⟨by (with_reducible repeat (first | apply Kd.R_alloc | apply Kd.R_drewN | apply Kd.R_drew)); exact Kd.R_mono HO259.out (fun _ hk => ⟨hk.1.1.1.1.1.2, ⟨hk.1.1.1.1.2, ⟨hk.1.1.1.2, hk.2⟩⟩⟩)⟩, ⟨by (with_reducible repeat (first | apply Kd.R_alloc | apply Kd.R_drewN | apply Kd.R_drew)); exact Kd.R_mono HO265.out (fun _ hk => ⟨hk.1.1.1.1.1.2, ⟨hk.1.1.1.1.2, ⟨hk.1.1.1.2, hk.1.2⟩⟩⟩)⟩, ⟨bw⟩⟩
   ·rw [if_neg c17] at H
    have c17b0 : (t251 == 0) = false := beq_eq_false_iff_ne.mpr c17
    have c17b1 : (t251 != 0) = true := bne_iff_ne.mpr c17
    have H' := Aside0.mk H
    clear H
    go_wp2
    go_meet
    case rel => exact ⟨_, (true), eqs, H', ⟨by first | omega | exact Nat.le_refl _⟩, ⟨by (with_reducible repeat (first | apply Kd.R_alloc | apply Kd.R_drewN | apply Kd.R_drew)); exact Kd.R_mono HO246.out (fun _ hk => ⟨hk.1.1.1.1.1.1, ⟨hk.1.1.1.1.2, ⟨hk.1.1.2, hk.2⟩⟩⟩)⟩, ⟨by (with_reducible repeat (first | apply Kd.R_alloc | apply Kd.R_drewN | apply Kd.R_drew)); exact Kd.R_mono HO248.out (fun _ hk => ⟨hk.1.1.1.1.1.1, ⟨hk.1.1.1.1.2, ⟨hk.1.1.2, hk.2⟩⟩⟩)⟩, ⟨by (with_reducible repeat (first | apply Kd.R_alloc | apply Kd.R_drewN | apply Kd.R_drew)); exact Kd.R_mono HO253.out (fun _ hk => ⟨hk.1.1.1.1.2, ⟨hk.1.1.1.2, ⟨hk.1.1.2, hk.2⟩⟩⟩)⟩, ⟨by (with_reducible repeat (first | apply Kd.R_alloc | apply Kd.R_drewN | apply Kd.R_drew)); exact Kd.R_mono HO259.out (fun _ hk => ⟨hk.1.1.1.1.1.2, ⟨hk.1.1.1.1.2, ⟨hk.1.1.1.2, hk.2⟩⟩⟩)⟩, ⟨by (with_reducible repeat (first | apply Kd.R_alloc | apply Kd.R_drewN | apply Kd.R_drew)); exact Kd.R_mono HO265.out (fun _ hk => ⟨hk.1.1.1.1.1.2, ⟨hk.1.1.1.1.2, ⟨hk.1.1.1.2, hk.1.2⟩⟩⟩)⟩, ⟨bw⟩⟩
  ·rw [if_neg c16] at H
   have c16b0 : (t244 == 0) = false := beq_eq_false_iff_ne.mpr c16
   have c16b1 : (t244 != 0) = true := bne_iff_ne.mpr c16
   (first | rw [c16b0] | (simp only [i64_w, i32_w]; rw [c16b0]) | skip)
   have H' := Aside0.mk H
   clear H
   go_wp2
   go_meet
   case rel => exact ⟨_, (true), eqs, H', ⟨by first | omega | exact Nat.le_refl _⟩, ⟨by (with_reducible repeat (first | apply Kd.R_alloc | apply Kd.R_drewN | apply Kd.R_drew)); exact Kd.R_mono HO246.out (fun _ hk => ⟨hk.1.1.1.1.1.1, ⟨hk.1.1.1.1.2, ⟨hk.1.1.2, hk.2⟩⟩⟩)⟩, ⟨by (with_reducible repeat (first | apply Kd.R_alloc | apply Kd.R_drewN | apply Kd.R_drew)); exact Kd.R_mono HO248.out (fun _ hk => ⟨hk.1.1.1.1.1.1, ⟨hk.1.1.1.1.2, ⟨hk.1.1.2, hk.2⟩⟩⟩)⟩, ⟨by (with_reducible repeat (first | apply Kd.R_alloc | apply Kd.R_drewN | apply Kd.R_drew)); exact Kd.R_mono HO253.out (fun _ hk => ⟨hk.1.1.1.1.2, ⟨hk.1.1.1.2, ⟨hk.1.1.2, hk.2⟩⟩⟩)⟩, ⟨by (with_reducible repeat (first | apply Kd.R_alloc | apply Kd.R_drewN | apply Kd.R_drew)); exact Kd.R_mono HO259.out (fun _ hk => ⟨hk.1.1.1.1.1.2, ⟨hk.1.1.1.1.2, ⟨hk.1.1.1.2, hk.2⟩⟩⟩)⟩, ⟨by (with_reducible repeat (first | apply Kd.R_alloc | apply Kd.R_drewN | apply Kd.R_drew)); exact Kd.R_mono HO265.out (fun _ hk => ⟨hk.1.1.1.1.1.2, ⟨hk.1.1.1.1.2, ⟨hk.1.1.1.2, hk.1.2⟩⟩⟩)⟩, ⟨bw⟩⟩
 case rest =>
  clear HC5
  try clear c3
  try clear c16
  try clear c16b0
  try clear c16b1
  try clear c17
  try clear c17b0
  try clear c17b1
  try clear c18
  try clear c18b0
  try clear c18b1
  obtain ⟨kq, x49_4, rfl, HA, HJ4, HO_2, HO_3, HO_5, HO_8, HO_10, HB⟩ := hcut
  cases kq with
  | zero => exact absurd HA.out (by simp [worldmintlaw14_lives.j0])
  | succ kj4 =>
   have H := HA.out
   clear HA
   simp only [worldmintlaw14_lives.j0] at H
   by_cases c21 : x49_4 = true
   ·subst c21
    have H1 : (some false) = some r := by rw [if_pos rfl] at H; exact H
    clear H
    have H := H1
    clear H1
    obtain rfl := Option.some.inj H
    go_wp2
    go_ret
    exact ⟨by first | rfl | (simp [errW_none, errW_some] <;> rfl) | (simp [*, errW_none, errW_some] <;> rfl), bw⟩
   ·replace c21 := Bool.eq_false_iff.mpr c21
    subst c21
    have H1 : ((worldmintref14_Same.f kj4 t242 (([(⟨7, 0, 4⟩ : S39)] : List (S39)))).bind fun t270 => (if t270 = true then ((worldmintref14_Same.f kj4 t243 (([(⟨7, 4, 2⟩ : S39), (⟨9, 2, 2⟩ : S39)] : List (S39)))).bind fun t274 => (if t274 = true then ((worldmintref14_Same.f kj4 t249 (([(⟨7, 0, 3⟩ : S39), (⟨9, 2, 1⟩ : S39)] : List (S39)))).bind fun t278 => (if t278 = true then ((worldmintref14_Same.f kj4 t256 (([(⟨7, 5, 1⟩ : S39), (⟨9, 2, 1⟩ : S39)] : List (S39)))).bind fun t282 => (if t282 = true then ((worldmintref14_Same.f kj4 t263 (([(⟨7, 0, 1⟩ : S39), (⟨7, 3, 3⟩ : S39), (⟨9, 2, 2⟩ : S39)] : List (S39)))).bind fun t286 => (some t286)) else (some false))) else (some false))) else (some false))) else (some false))) = some r := by rw [if_neg (show ¬ (false = true) by decide)] at H; exact H
    clear H
    have H := H1
    clear H1
    obtain ⟨y267, hy267⟩ : ∃ y_ : List (S39), y_ = (([(⟨7, 0, 4⟩ : S39)] : List (S39))) := ⟨_, rfl⟩
    replace H : ((worldmintref14_Same.f kj4 t242 y267).bind fun t270 => (if t270 = true then ((worldmintref14_Same.f kj4 t243 (([(⟨7, 4, 2⟩ : S39), (⟨9, 2, 2⟩ : S39)] : List (S39)))).bind fun t274 => (if t274 = true then ((worldmintref14_Same.f kj4 t249 (([(⟨7, 0, 3⟩ : S39), (⟨9, 2, 1⟩ : S39)] : List (S39)))).bind fun t278 => (if t278 = true then ((worldmintref14_Same.f kj4 t256 (([(⟨7, 5, 1⟩ : S39), (⟨9, 2, 1⟩ : S39)] : List (S39)))).bind fun t282 => (if t282 = true then ((worldmintref14_Same.f kj4 t263 (([(⟨7, 0, 1⟩ : S39), (⟨7, 3, 3⟩ : S39), (⟨9, 2, 2⟩ : S39)] : List (S39)))).bind fun t286 => (some t286)) else (some false))) else (some false))) else (some false))) else (some false))) = some r := by first | (rw [hy267]; with_reducible exact H) | (have H2_ := (Option.bind_some _ _).symm.trans H; rw [hy267]; with_reducible exact H2_) | (have H2_ := (Option.bind_some _ _).symm.trans H; with_reducible exact H2_) | with_reducible exact H | (rw [hy267]; exact H) | exact H
    have Ny267 := Aside0.mk hy267
    clear hy267
    replace H := Option.bind_eq_some_iff.mp H
    obtain ⟨t270, A220, H⟩ := H
    replace H : (if t270 = true then ((worldmintref14_Same.f kj4 t243 (([(⟨7, 4, 2⟩ : S39), (⟨9, 2, 2⟩ : S39)] : List (S39)))).bind fun t274 => (if t274 = true then ((worldmintref14_Same.f kj4 t249 (([(⟨7, 0, 3⟩ : S39), (⟨9, 2, 1⟩ : S39)] : List (S39)))).bind fun t278 => (if t278 = true then ((worldmintref14_Same.f kj4 t256 (([(⟨7, 5, 1⟩ : S39), (⟨9, 2, 1⟩ : S39)] : List (S39)))).bind fun t282 => (if t282 = true then ((worldmintref14_Same.f kj4 t263 (([(⟨7, 0, 1⟩ : S39), (⟨7, 3, 3⟩ : S39), (⟨9, 2, 2⟩ : S39)] : List (S39)))).bind fun t286 => (some t286)) else (some false))) else (some false))) else (some false))) else (some false)) = some r := H
    have A22 := Aside0.mk A220
    clear A220
    by_cases c23 : t270 = true
    ·subst c23
     have H1 : ((worldmintref14_Same.f kj4 t243 (([(⟨7, 4, 2⟩ : S39), (⟨9, 2, 2⟩ : S39)] : List (S39)))).bind fun t274 => (if t274 = true then ((worldmintref14_Same.f kj4 t249 (([(⟨7, 0, 3⟩ : S39), (⟨9, 2, 1⟩ : S39)] : List (S39)))).bind fun t278 => (if t278 = true then ((worldmintref14_Same.f kj4 t256 (([(⟨7, 5, 1⟩ : S39), (⟨9, 2, 1⟩ : S39)] : List (S39)))).bind fun t282 => (if t282 = true then ((worldmintref14_Same.f kj4 t263 (([(⟨7, 0, 1⟩ : S39), (⟨7, 3, 3⟩ : S39), (⟨9, 2, 2⟩ : S39)] : List (S39)))).bind fun t286 => (some t286)) else (some false))) else (some false))) else (some false))) = some r := by rw [if_pos rfl] at H; exact H
     clear H
     have H := H1
     clear H1
     obtain ⟨y271, hy271⟩ : ∃ y_ : List (S39), y_ = (([(⟨7, 4, 2⟩ : S39), (⟨9, 2, 2⟩ : S39)] : List (S39))) := ⟨_, rfl⟩
     replace H : ((worldmintref14_Same.f kj4 t243 y271).bind fun t274 => (if t274 = true then ((worldmintref14_Same.f kj4 t249 (([(⟨7, 0, 3⟩ : S39), (⟨9, 2, 1⟩ : S39)] : List (S39)))).bind fun t278 => (if t278 = true then ((worldmintref14_Same.f kj4 t256 (([(⟨7, 5, 1⟩ : S39), (⟨9, 2, 1⟩ : S39)] : List (S39)))).bind fun t282 => (if t282 = true then ((worldmintref14_Same.f kj4 t263 (([(⟨7, 0, 1⟩ : S39), (⟨7, 3, 3⟩ : S39), (⟨9, 2, 2⟩ : S39)] : List (S39)))).bind fun t286 => (some t286)) else (some false))) else (some false))) else (some false))) = some r := by first | (rw [hy271]; with_reducible exact H) | (have H2_ := (Option.bind_some _ _).symm.trans H; rw [hy271]; with_reducible exact H2_) | (have H2_ := (Option.bind_some _ _).symm.trans H; with_reducible exact H2_) | with_reducible exact H | (rw [hy271]; exact H) | exact H
     have Ny271 := Aside0.mk hy271
     clear hy271
     replace H := Option.bind_eq_some_iff.mp H
     obtain ⟨t274, A240, H⟩ := H
     replace H : (if t274 = true then ((worldmintref14_Same.f kj4 t249 (([(⟨7, 0, 3⟩ : S39), (⟨9, 2, 1⟩ : S39)] : List (S39)))).bind fun t278 => (if t278 = true then ((worldmintref14_Same.f kj4 t256 (([(⟨7, 5, 1⟩ : S39), (⟨9, 2, 1⟩ : S39)] : List (S39)))).bind fun t282 => (if t282 = true then ((worldmintref14_Same.f kj4 t263 (([(⟨7, 0, 1⟩ : S39), (⟨7, 3, 3⟩ : S39), (⟨9, 2, 2⟩ : S39)] : List (S39)))).bind fun t286 => (some t286)) else (some false))) else (some false))) else (some false)) = some r := H
     have A24 := Aside0.mk A240
     clear A240
     by_cases c25 : t274 = true
     ·subst c25
      have H1 : ((worldmintref14_Same.f kj4 t249 (([(⟨7, 0, 3⟩ : S39), (⟨9, 2, 1⟩ : S39)] : List (S39)))).bind fun t278 => (if t278 = true then ((worldmintref14_Same.f kj4 t256 (([(⟨7, 5, 1⟩ : S39), (⟨9, 2, 1⟩ : S39)] : List (S39)))).bind fun t282 => (if t282 = true then ((worldmintref14_Same.f kj4 t263 (([(⟨7, 0, 1⟩ : S39), (⟨7, 3, 3⟩ : S39), (⟨9, 2, 2⟩ : S39)] : List (S39)))).bind fun t286 => (some t286)) else (some false))) else (some false))) = some r := by rw [if_pos rfl] at H; exact H
      clear H
      have H := H1
      clear H1
      obtain ⟨y275, hy275⟩ : ∃ y_ : List (S39), y_ = (([(⟨7, 0, 3⟩ : S39), (⟨9, 2, 1⟩ : S39)] : List (S39))) := ⟨_, rfl⟩
      replace H : ((worldmintref14_Same.f kj4 t249 y275).bind fun t278 => (if t278 = true then ((worldmintref14_Same.f kj4 t256 (([(⟨7, 5, 1⟩ : S39), (⟨9, 2, 1⟩ : S39)] : List (S39)))).bind fun t282 => (if t282 = true then ((worldmintref14_Same.f kj4 t263 (([(⟨7, 0, 1⟩ : S39), (⟨7, 3, 3⟩ : S39), (⟨9, 2, 2⟩ : S39)] : List (S39)))).bind fun t286 => (some t286)) else (some false))) else (some false))) = some r := by first | (rw [hy275]; with_reducible exact H) | (have H2_ := (Option.bind_some _ _).symm.trans H; rw [hy275]; with_reducible exact H2_) | (have H2_ := (Option.bind_some _ _).symm.trans H; with_reducible exact H2_) | with_reducible exact H | (rw [hy275]; exact H) | exact H
      have Ny275 := Aside0.mk hy275
      clear hy275
      replace H := Option.bind_eq_some_iff.mp H
      obtain ⟨t278, A260, H⟩ := H
      replace H : (if t278 = true then ((worldmintref14_Same.f kj4 t256 (([(⟨7, 5, 1⟩ : S39), (⟨9, 2, 1⟩ : S39)] : List (S39)))).bind fun t282 => (if t282 = true then ((worldmintref14_Same.f kj4 t263 (([(⟨7, 0, 1⟩ : S39), (⟨7, 3, 3⟩ : S39), (⟨9, 2, 2⟩ : S39)] : List (S39)))).bind fun t286 => (some t286)) else (some false))) else (some false)) = some r := H
      have A26 := Aside0.mk A260
      clear A260
      by_cases c27 : t278 = true
      ·subst c27
       have H1 : ((worldmintref14_Same.f kj4 t256 (([(⟨7, 5, 1⟩ : S39), (⟨9, 2, 1⟩ : S39)] : List (S39)))).bind fun t282 => (if t282 = true then ((worldmintref14_Same.f kj4 t263 (([(⟨7, 0, 1⟩ : S39), (⟨7, 3, 3⟩ : S39), (⟨9, 2, 2⟩ : S39)] : List (S39)))).bind fun t286 => (some t286)) else (some false))) = some r := by rw [if_pos rfl] at H; exact H
       clear H
       have H := H1
       clear H1
       obtain ⟨y279, hy279⟩ : ∃ y_ : List (S39), y_ = (([(⟨7, 5, 1⟩ : S39), (⟨9, 2, 1⟩ : S39)] : List (S39))) := ⟨_, rfl⟩
       replace H : ((worldmintref14_Same.f kj4 t256 y279).bind fun t282 => (if t282 = true then ((worldmintref14_Same.f kj4 t263 (([(⟨7, 0, 1⟩ : S39), (⟨7, 3, 3⟩ : S39), (⟨9, 2, 2⟩ : S39)] : List (S39)))).bind fun t286 => (some t286)) else (some false))) = some r := by first | (rw [hy279]; with_reducible exact H) | (have H2_ := (Option.bind_some _ _).symm.trans H; rw [hy279]; with_reducible exact H2_) | (have H2_ := (Option.bind_some _ _).symm.trans H; with_reducible exact H2_) | with_reducible exact H | (rw [hy279]; exact H) | exact H
       have Ny279 := Aside0.mk hy279
       clear hy279
       replace H := Option.bind_eq_some_iff.mp H
       obtain ⟨t282, A280, H⟩ := H
       replace H : (if t282 = true then ((worldmintref14_Same.f kj4 t263 (([(⟨7, 0, 1⟩ : S39), (⟨7, 3, 3⟩ : S39), (⟨9, 2, 2⟩ : S39)] : List (S39)))).bind fun t286 => (some t286)) else (some false)) = some r := H
       have A28 := Aside0.mk A280
       clear A280
       by_cases c29 : t282 = true
       ·subst c29
        have H1 : ((worldmintref14_Same.f kj4 t263 (([(⟨7, 0, 1⟩ : S39), (⟨7, 3, 3⟩ : S39), (⟨9, 2, 2⟩ : S39)] : List (S39)))).bind fun t286 => (some t286)) = some r := by rw [if_pos rfl] at H; exact H
        clear H
        have H := H1
        clear H1
        obtain ⟨y283, hy283⟩ : ∃ y_ : List (S39), y_ = (([(⟨7, 0, 1⟩ : S39), (⟨7, 3, 3⟩ : S39), (⟨9, 2, 2⟩ : S39)] : List (S39))) := ⟨_, rfl⟩
        replace H : ((worldmintref14_Same.f kj4 t263 y283).bind fun t286 => (some t286)) = some r := by first | (rw [hy283]; with_reducible exact H) | (have H2_ := (Option.bind_some _ _).symm.trans H; rw [hy283]; with_reducible exact H2_) | (have H2_ := (Option.bind_some _ _).symm.trans H; with_reducible exact H2_) | with_reducible exact H | (rw [hy283]; exact H) | exact H
        have Ny283 := Aside0.mk hy283
        clear hy283
        replace H := Option.bind_eq_some_iff.mp H
        obtain ⟨t286, A300, H⟩ := H
        replace H : (some t286) = some r := H
        have A30 := Aside0.mk A300
        clear A300
        obtain rfl := Option.some.inj H
        go_wp2_with (first | ((with_reducible refine gate_dst (N := 52) rfl ?_); (try (refine gate_guard (by rfl) ?_; dsimp only)); refine Kd.R_lit k39 _ 39 ?hg (N := 52) ?hd (xs := ([(⟨7, 0, 4⟩ : S39)] : List (S39))) (inner := [.int .i64 7, .int .i64 0, .int .i64 4]) (ok := fun _ => True) (okp := fun _ => True) ?hr ?hp (fun _ hk => hk) trivial (Below.refl _ _) (Nat.le_refl _) (by simp) ?_; (case hd => rfl); (case hg => rfl); (case hr => first | (go_simp; done) | (go_simp; rfl)); (case hp => exact (Reps.c3 (show Kd.M k39 _ _ _ (⟨7, 0, 4⟩ : S39) [.int .i64 7, .int .i64 0, .int .i64 4] from (k39_mkM _ _ _ (⟨7, 0, 4⟩ : S39) )) (Reps.none _ _))); intro v268 w31 ho32 hb hg_ hnew_; clear hg_ hnew_; (first | rw [← Ny267.out] at ho32 | (simp only [Int.reduceToNat] at ho32; rw [← Ny267.out] at ho32)); have n0_ := Aside0.mk (Kd.R_elder' (kr HO_2.out) (Kd.R_base ho32) hb); have n1_ := Aside0.mk (Kd.R_elder' (kr HO_3.out) (Kd.R_base ho32) hb); have n2_ := Aside0.mk (Kd.R_elder' (kr HO_5.out) (Kd.R_base ho32) hb); have n3_ := Aside0.mk (Kd.R_elder' (kr HO_8.out) (Kd.R_base ho32) hb); have n4_ := Aside0.mk (Kd.R_elder' (kr HO_10.out) (Kd.R_base ho32) hb); have n5_ := Aside0.mk (Kd.R_lower (Kd.R_new' (Kd.R_new' (Kd.R_new' (Kd.R_new' (Kd.R_new' ho32 (Kd.R_lt (kr HO_2.out))) (Kd.R_lt (kr HO_3.out))) (Kd.R_lt (kr HO_5.out))) (Kd.R_lt (kr HO_8.out))) (Kd.R_lt (kr HO_10.out))) (below_size (bw))); have n6_ := Aside0.mk (below_step (bw) hb); clear HO_2; clear HO_3; clear HO_5; clear HO_8; clear HO_10; clear HB; have HO_2 := n0_; have HO_3 := n1_; have HO_5 := n2_; have HO_8 := n3_; have HO_10 := n4_; have HO269 := n5_; have HB := n6_; clear n0_ n1_ n2_ n3_ n4_ n5_ n6_; clear hb ho32; obtain ⟨Ao33, co33, eo33⟩ := Kd.R_slice HO_2.out; subst eo33; obtain ⟨Ao34, co34, eo34⟩ := Kd.R_slice HO269.out; subst eo34) | ((with_reducible refine gate_callee (f := 18) rfl ?_); refine goesL_ (some 53) rfl rfl Try.func18 (by kernel_rfl) rfl #[.slice Ao33 t242.length co33, .slice Ao34 y267.length co34] rfl (by (try simp only [List.map_toArray, List.map_cons, List.map_nil]); first | done | rfl | (simp only [List.length_drop, List.length_take]; rfl)) ?_; (with_reducible refine (worldmintref14_Same.calls kj4 _ _ t242 _ _ y267 true _ ?side1 ?side2 ?side3 ?side4 A22.out).mono ?_); (case side1 => repeat (first | exact (Kd.R_reads' HO_2.out).2.2 | (with_reducible refine Kd.C_alloc ?_ _) | (with_reducible refine Kd.C_drewN ?_ _) | (with_reducible refine Kd.C_drew ?_))); (case side2 => exact (Kd.R_reads' HO_2.out).2.1); (case side3 => repeat (first | exact (Kd.R_reads' HO269.out).2.2 | (with_reducible refine Kd.C_alloc ?_ _) | (with_reducible refine Kd.C_drewN ?_ _) | (with_reducible refine Kd.C_drew ?_))); (case side4 => exact (Kd.R_reads' HO269.out).2.1); rintro e w' ⟨rfl, ⟨nd, rfl⟩⟩; refine ⟨_, rfl, ?_⟩) | ((with_reducible refine gate_dst (N := 58) rfl ?_); (try (refine gate_guard (by rfl) ?_; dsimp only)); refine Kd.R_lit k39 _ 39 ?hg (N := 58) ?hd (xs := ([(⟨7, 4, 2⟩ : S39), (⟨9, 2, 2⟩ : S39)] : List (S39))) (inner := [.int .i64 7, .int .i64 4, .int .i64 2, .int .i64 9, .int .i64 2, .int .i64 2]) (ok := fun _ => True) (okp := fun _ => True) ?hr ?hp (fun _ hk => hk) trivial (Below.refl _ _) (Nat.le_refl _) (by simp) ?_; (case hd => rfl); (case hg => rfl); (case hr => first | (go_simp; done) | (go_simp; rfl)); (case hp => exact (Reps.c3 (show Kd.M k39 _ _ _ (⟨7, 4, 2⟩ : S39) [.int .i64 7, .int .i64 4, .int .i64 2] from (k39_mkM _ _ _ (⟨7, 4, 2⟩ : S39) )) (Reps.c3 (show Kd.M k39 _ _ _ (⟨9, 2, 2⟩ : S39) [.int .i64 9, .int .i64 2, .int .i64 2] from (k39_mkM _ _ _ (⟨9, 2, 2⟩ : S39) )) (Reps.none _ _)))); intro v272 w35 ho36 hb hg_ hnew_; clear hg_ hnew_; (first | rw [← Ny271.out] at ho36 | (simp only [Int.reduceToNat] at ho36; rw [← Ny271.out] at ho36)); have n0_ := Aside0.mk (Kd.R_elder' (kr HO_2.out) (Kd.R_base ho36) hb); have n1_ := Aside0.mk (Kd.R_elder' (kr HO_3.out) (Kd.R_base ho36) hb); have n2_ := Aside0.mk (Kd.R_elder' (kr HO_5.out) (Kd.R_base ho36) hb); have n3_ := Aside0.mk (Kd.R_elder' (kr HO_8.out) (Kd.R_base ho36) hb); have n4_ := Aside0.mk (Kd.R_elder' (kr HO_10.out) (Kd.R_base ho36) hb); have n5_ := Aside0.mk (Kd.R_elder' (kr HO269.out) (Kd.R_base ho36) hb); have n6_ := Aside0.mk (Kd.R_lower (Kd.R_new' (Kd.R_new' (Kd.R_new' (Kd.R_new' (Kd.R_new' (Kd.R_new' ho36 (Kd.R_lt (kr HO_2.out))) (Kd.R_lt (kr HO_3.out))) (Kd.R_lt (kr HO_5.out))) (Kd.R_lt (kr HO_8.out))) (Kd.R_lt (kr HO_10.out))) (Kd.R_lt (kr HO269.out))) (below_size (bw))); have n7_ := Aside0.mk (below_step (bw) hb); clear HO_2; clear HO_3; clear HO_5; clear HO_8; clear HO_10; clear HO269; clear HB; have HO_2 := n0_; have HO_3 := n1_; have HO_5 := n2_; have HO_8 := n3_; have HO_10 := n4_; have HO269 := n5_; have HO273 := n6_; have HB := n7_; clear n0_ n1_ n2_ n3_ n4_ n5_ n6_ n7_; clear hb ho36; obtain ⟨Ao37, co37, eo37⟩ := Kd.R_slice HO_3.out; subst eo37; obtain ⟨Ao38, co38, eo38⟩ := Kd.R_slice HO273.out; subst eo38) | (go_at_call 18; (with_reducible refine (worldmintref14_Same.calls kj4 _ _ t243 _ _ y271 true _ ?side1 ?side2 ?side3 ?side4 A24.out).mono ?_); (case side1 => repeat (first | exact (Kd.R_reads' HO_3.out).2.2 | (with_reducible refine Kd.C_alloc ?_ _) | (with_reducible refine Kd.C_drewN ?_ _) | (with_reducible refine Kd.C_drew ?_))); (case side2 => exact (Kd.R_reads' HO_3.out).2.1); (case side3 => repeat (first | exact (Kd.R_reads' HO273.out).2.2 | (with_reducible refine Kd.C_alloc ?_ _) | (with_reducible refine Kd.C_drewN ?_ _) | (with_reducible refine Kd.C_drew ?_))); (case side4 => exact (Kd.R_reads' HO273.out).2.1); rintro e w' ⟨rfl, ⟨nd, rfl⟩⟩) | ((with_reducible refine gate_dst (N := 65) rfl ?_); (try (refine gate_guard (by rfl) ?_; dsimp only)); refine Kd.R_lit k39 _ 39 ?hg (N := 65) ?hd (xs := ([(⟨7, 0, 3⟩ : S39), (⟨9, 2, 1⟩ : S39)] : List (S39))) (inner := [.int .i64 7, .int .i64 0, .int .i64 3, .int .i64 9, .int .i64 2, .int .i64 1]) (ok := fun _ => True) (okp := fun _ => True) ?hr ?hp (fun _ hk => hk) trivial (Below.refl _ _) (Nat.le_refl _) (by simp) ?_; (case hd => rfl); (case hg => rfl); (case hr => first | (go_simp; done) | (go_simp; rfl)); (case hp => exact (Reps.c3 (show Kd.M k39 _ _ _ (⟨7, 0, 3⟩ : S39) [.int .i64 7, .int .i64 0, .int .i64 3] from (k39_mkM _ _ _ (⟨7, 0, 3⟩ : S39) )) (Reps.c3 (show Kd.M k39 _ _ _ (⟨9, 2, 1⟩ : S39) [.int .i64 9, .int .i64 2, .int .i64 1] from (k39_mkM _ _ _ (⟨9, 2, 1⟩ : S39) )) (Reps.none _ _)))); intro v276 w39 ho40 hb hg_ hnew_; clear hg_ hnew_; (first | rw [← Ny275.out] at ho40 | (simp only [Int.reduceToNat] at ho40; rw [← Ny275.out] at ho40)); have n0_ := Aside0.mk (Kd.R_elder' (kr HO_2.out) (Kd.R_base ho40) hb); have n1_ := Aside0.mk (Kd.R_elder' (kr HO_3.out) (Kd.R_base ho40) hb); have n2_ := Aside0.mk (Kd.R_elder' (kr HO_5.out) (Kd.R_base ho40) hb); have n3_ := Aside0.mk (Kd.R_elder' (kr HO_8.out) (Kd.R_base ho40) hb); have n4_ := Aside0.mk (Kd.R_elder' (kr HO_10.out) (Kd.R_base ho40) hb); have n5_ := Aside0.mk (Kd.R_elder' (kr HO269.out) (Kd.R_base ho40) hb); have n6_ := Aside0.mk (Kd.R_elder' (kr HO273.out) (Kd.R_base ho40) hb); have n7_ := Aside0.mk (Kd.R_lower (Kd.R_new' (Kd.R_new' (Kd.R_new' (Kd.R_new' (Kd.R_new' (Kd.R_new' (Kd.R_new' ho40 (Kd.R_lt (kr HO_2.out))) (Kd.R_lt (kr HO_3.out))) (Kd.R_lt (kr HO_5.out))) (Kd.R_lt (kr HO_8.out))) (Kd.R_lt (kr HO_10.out))) (Kd.R_lt (kr HO269.out))) (Kd.R_lt (kr HO273.out))) (below_size (bw))); have n8_ := Aside0.mk (below_step (bw) hb); clear HO_2; clear HO_3; clear HO_5; clear HO_8; clear HO_10; clear HO269; clear HO273; clear HB; have HO_2 := n0_; have HO_3 := n1_; have HO_5 := n2_; have HO_8 := n3_; have HO_10 := n4_; have HO269 := n5_; have HO273 := n6_; have HO277 := n7_; have HB := n8_; clear n0_ n1_ n2_ n3_ n4_ n5_ n6_ n7_ n8_; clear hb ho40; obtain ⟨Ao41, co41, eo41⟩ := Kd.R_slice HO_5.out; subst eo41; obtain ⟨Ao42, co42, eo42⟩ := Kd.R_slice HO277.out; subst eo42) | (go_at_call 18; (with_reducible refine (worldmintref14_Same.calls kj4 _ _ t249 _ _ y275 true _ ?side1 ?side2 ?side3 ?side4 A26.out).mono ?_); (case side1 => repeat (first | exact (Kd.R_reads' HO_5.out).2.2 | (with_reducible refine Kd.C_alloc ?_ _) | (with_reducible refine Kd.C_drewN ?_ _) | (with_reducible refine Kd.C_drew ?_))); (case side2 => exact (Kd.R_reads' HO_5.out).2.1); (case side3 => repeat (first | exact (Kd.R_reads' HO277.out).2.2 | (with_reducible refine Kd.C_alloc ?_ _) | (with_reducible refine Kd.C_drewN ?_ _) | (with_reducible refine Kd.C_drew ?_))); (case side4 => exact (Kd.R_reads' HO277.out).2.1); rintro e w' ⟨rfl, ⟨nd, rfl⟩⟩) | ((with_reducible refine gate_dst (N := 72) rfl ?_); (try (refine gate_guard (by rfl) ?_; dsimp only)); refine Kd.R_lit k39 _ 39 ?hg (N := 72) ?hd (xs := ([(⟨7, 5, 1⟩ : S39), (⟨9, 2, 1⟩ : S39)] : List (S39))) (inner := [.int .i64 7, .int .i64 5, .int .i64 1, .int .i64 9, .int .i64 2, .int .i64 1]) (ok := fun _ => True) (okp := fun _ => True) ?hr ?hp (fun _ hk => hk) trivial (Below.refl _ _) (Nat.le_refl _) (by simp) ?_; (case hd => rfl); (case hg => rfl); (case hr => first | (go_simp; done) | (go_simp; rfl)); (case hp => exact (Reps.c3 (show Kd.M k39 _ _ _ (⟨7, 5, 1⟩ : S39) [.int .i64 7, .int .i64 5, .int .i64 1] from (k39_mkM _ _ _ (⟨7, 5, 1⟩ : S39) )) (Reps.c3 (show Kd.M k39 _ _ _ (⟨9, 2, 1⟩ : S39) [.int .i64 9, .int .i64 2, .int .i64 1] from (k39_mkM _ _ _ (⟨9, 2, 1⟩ : S39) )) (Reps.none _ _)))); intro v280 w43 ho44 hb hg_ hnew_; clear hg_ hnew_; (first | rw [← Ny279.out] at ho44 | (simp only [Int.reduceToNat] at ho44; rw [← Ny279.out] at ho44)); have n0_ := Aside0.mk (Kd.R_elder' (kr HO_2.out) (Kd.R_base ho44) hb); have n1_ := Aside0.mk (Kd.R_elder' (kr HO_3.out) (Kd.R_base ho44) hb); have n2_ := Aside0.mk (Kd.R_elder' (kr HO_5.out) (Kd.R_base ho44) hb); have n3_ := Aside0.mk (Kd.R_elder' (kr HO_8.out) (Kd.R_base ho44) hb); have n4_ := Aside0.mk (Kd.R_elder' (kr HO_10.out) (Kd.R_base ho44) hb); have n5_ := Aside0.mk (Kd.R_elder' (kr HO269.out) (Kd.R_base ho44) hb); have n6_ := Aside0.mk (Kd.R_elder' (kr HO273.out) (Kd.R_base ho44) hb); have n7_ := Aside0.mk (Kd.R_elder' (kr HO277.out) (Kd.R_base ho44) hb); have n8_ := Aside0.mk (Kd.R_lower (Kd.R_new' (Kd.R_new' (Kd.R_new' (Kd.R_new' (Kd.R_new' (Kd.R_new' (Kd.R_new' (Kd.R_new' ho44 (Kd.R_lt (kr HO_2.out))) (Kd.R_lt (kr HO_3.out))) (Kd.R_lt (kr HO_5.out))) (Kd.R_lt (kr HO_8.out))) (Kd.R_lt (kr HO_10.out))) (Kd.R_lt (kr HO269.out))) (Kd.R_lt (kr HO273.out))) (Kd.R_lt (kr HO277.out))) (below_size (bw))); have n9_ := Aside0.mk (below_step (bw) hb); clear HO_2; clear HO_3; clear HO_5; clear HO_8; clear HO_10; clear HO269; clear HO273; clear HO277; clear HB; have HO_2 := n0_; have HO_3 := n1_; have HO_5 := n2_; have HO_8 := n3_; have HO_10 := n4_; have HO269 := n5_; have HO273 := n6_; have HO277 := n7_; have HO281 := n8_; have HB := n9_; clear n0_ n1_ n2_ n3_ n4_ n5_ n6_ n7_ n8_ n9_; clear hb ho44; obtain ⟨Ao45, co45, eo45⟩ := Kd.R_slice HO_8.out; subst eo45; obtain ⟨Ao46, co46, eo46⟩ := Kd.R_slice HO281.out; subst eo46) | (go_at_call 18; (with_reducible refine (worldmintref14_Same.calls kj4 _ _ t256 _ _ y279 true _ ?side1 ?side2 ?side3 ?side4 A28.out).mono ?_); (case side1 => repeat (first | exact (Kd.R_reads' HO_8.out).2.2 | (with_reducible refine Kd.C_alloc ?_ _) | (with_reducible refine Kd.C_drewN ?_ _) | (with_reducible refine Kd.C_drew ?_))); (case side2 => exact (Kd.R_reads' HO_8.out).2.1); (case side3 => repeat (first | exact (Kd.R_reads' HO281.out).2.2 | (with_reducible refine Kd.C_alloc ?_ _) | (with_reducible refine Kd.C_drewN ?_ _) | (with_reducible refine Kd.C_drew ?_))); (case side4 => exact (Kd.R_reads' HO281.out).2.1); rintro e w' ⟨rfl, ⟨nd, rfl⟩⟩) | ((with_reducible refine gate_dst (N := 80) rfl ?_); (try (refine gate_guard (by rfl) ?_; dsimp only)); refine Kd.R_lit k39 _ 39 ?hg (N := 80) ?hd (xs := ([(⟨7, 0, 1⟩ : S39), (⟨7, 3, 3⟩ : S39), (⟨9, 2, 2⟩ : S39)] : List (S39))) (inner := [.int .i64 7, .int .i64 0, .int .i64 1, .int .i64 7, .int .i64 3, .int .i64 3, .int .i64 9, .int .i64 2, .int .i64 2]) (ok := fun _ => True) (okp := fun _ => True) ?hr ?hp (fun _ hk => hk) trivial (Below.refl _ _) (Nat.le_refl _) (by simp) ?_; (case hd => rfl); (case hg => rfl); (case hr => first | (go_simp; done) | (go_simp; rfl)); (case hp => exact (Reps.c3 (show Kd.M k39 _ _ _ (⟨7, 0, 1⟩ : S39) [.int .i64 7, .int .i64 0, .int .i64 1] from (k39_mkM _ _ _ (⟨7, 0, 1⟩ : S39) )) (Reps.c3 (show Kd.M k39 _ _ _ (⟨7, 3, 3⟩ : S39) [.int .i64 7, .int .i64 3, .int .i64 3] from (k39_mkM _ _ _ (⟨7, 3, 3⟩ : S39) )) (Reps.c3 (show Kd.M k39 _ _ _ (⟨9, 2, 2⟩ : S39) [.int .i64 9, .int .i64 2, .int .i64 2] from (k39_mkM _ _ _ (⟨9, 2, 2⟩ : S39) )) (Reps.none _ _))))); intro v284 w47 ho48 hb hg_ hnew_; clear hg_ hnew_; (first | rw [← Ny283.out] at ho48 | (simp only [Int.reduceToNat] at ho48; rw [← Ny283.out] at ho48)); have n0_ := Aside0.mk (Kd.R_elder' (kr HO_2.out) (Kd.R_base ho48) hb); have n1_ := Aside0.mk (Kd.R_elder' (kr HO_3.out) (Kd.R_base ho48) hb); have n2_ := Aside0.mk (Kd.R_elder' (kr HO_5.out) (Kd.R_base ho48) hb); have n3_ := Aside0.mk (Kd.R_elder' (kr HO_8.out) (Kd.R_base ho48) hb); have n4_ := Aside0.mk (Kd.R_elder' (kr HO_10.out) (Kd.R_base ho48) hb); have n5_ := Aside0.mk (Kd.R_elder' (kr HO269.out) (Kd.R_base ho48) hb); have n6_ := Aside0.mk (Kd.R_elder' (kr HO273.out) (Kd.R_base ho48) hb); have n7_ := Aside0.mk (Kd.R_elder' (kr HO277.out) (Kd.R_base ho48) hb); have n8_ := Aside0.mk (Kd.R_elder' (kr HO281.out) (Kd.R_base ho48) hb); have n9_ := Aside0.mk (Kd.R_lower (Kd.R_new' (Kd.R_new' (Kd.R_new' (Kd.R_new' (Kd.R_new' (Kd.R_new' (Kd.R_new' (Kd.R_new' (Kd.R_new' ho48 (Kd.R_lt (kr HO_2.out))) (Kd.R_lt (kr HO_3.out))) (Kd.R_lt (kr HO_5.out))) (Kd.R_lt (kr HO_8.out))) (Kd.R_lt (kr HO_10.out))) (Kd.R_lt (kr HO269.out))) (Kd.R_lt (kr HO273.out))) (Kd.R_lt (kr HO277.out))) (Kd.R_lt (kr HO281.out))) (below_size (bw))); have n10_ := Aside0.mk (below_step (bw) hb); clear HO_2; clear HO_3; clear HO_5; clear HO_8; clear HO_10; clear HO269; clear HO273; clear HO277; clear HO281; clear HB; have HO_2 := n0_; have HO_3 := n1_; have HO_5 := n2_; have HO_8 := n3_; have HO_10 := n4_; have HO269 := n5_; have HO273 := n6_; have HO277 := n7_; have HO281 := n8_; have HO285 := n9_; have HB := n10_; clear n0_ n1_ n2_ n3_ n4_ n5_ n6_ n7_ n8_ n9_ n10_; clear hb ho48; obtain ⟨Ao49, co49, eo49⟩ := Kd.R_slice HO_10.out; subst eo49; obtain ⟨Ao50, co50, eo50⟩ := Kd.R_slice HO285.out; subst eo50) | (go_at_call 18; (with_reducible refine (worldmintref14_Same.calls kj4 _ _ t263 _ _ y283 t286 _ ?side1 ?side2 ?side3 ?side4 A30.out).mono ?_); (case side1 => repeat (first | exact (Kd.R_reads' HO_10.out).2.2 | (with_reducible refine Kd.C_alloc ?_ _) | (with_reducible refine Kd.C_drewN ?_ _) | (with_reducible refine Kd.C_drew ?_))); (case side2 => exact (Kd.R_reads' HO_10.out).2.1); (case side3 => repeat (first | exact (Kd.R_reads' HO285.out).2.2 | (with_reducible refine Kd.C_alloc ?_ _) | (with_reducible refine Kd.C_drewN ?_ _) | (with_reducible refine Kd.C_drew ?_))); (case side4 => exact (Kd.R_reads' HO285.out).2.1); rintro e w' ⟨rfl, ⟨nd, rfl⟩⟩))
        go_ret
        exact ⟨by first | rfl | (simp [errW_none, errW_some] <;> rfl) | (simp [*, errW_none, errW_some] <;> rfl), bw⟩
       ·replace c29 := Bool.eq_false_iff.mpr c29
        subst c29
        have H1 : (some false) = some r := by rw [if_neg (show ¬ (false = true) by decide)] at H; exact H
        clear H
        have H := H1
        clear H1
        obtain rfl := Option.some.inj H
        go_wp2_with (first | ((with_reducible refine gate_dst (N := 52) rfl ?_); (try (refine gate_guard (by rfl) ?_; dsimp only)); refine Kd.R_lit k39 _ 39 ?hg (N := 52) ?hd (xs := ([(⟨7, 0, 4⟩ : S39)] : List (S39))) (inner := [.int .i64 7, .int .i64 0, .int .i64 4]) (ok := fun _ => True) (okp := fun _ => True) ?hr ?hp (fun _ hk => hk) trivial (Below.refl _ _) (Nat.le_refl _) (by simp) ?_; (case hd => rfl); (case hg => rfl); (case hr => first | (go_simp; done) | (go_simp; rfl)); (case hp => exact (Reps.c3 (show Kd.M k39 _ _ _ (⟨7, 0, 4⟩ : S39) [.int .i64 7, .int .i64 0, .int .i64 4] from (k39_mkM _ _ _ (⟨7, 0, 4⟩ : S39) )) (Reps.none _ _))); intro v268 w51 ho52 hb hg_ hnew_; clear hg_ hnew_; (first | rw [← Ny267.out] at ho52 | (simp only [Int.reduceToNat] at ho52; rw [← Ny267.out] at ho52)); have n0_ := Aside0.mk (Kd.R_elder' (kr HO_2.out) (Kd.R_base ho52) hb); have n1_ := Aside0.mk (Kd.R_elder' (kr HO_3.out) (Kd.R_base ho52) hb); have n2_ := Aside0.mk (Kd.R_elder' (kr HO_5.out) (Kd.R_base ho52) hb); have n3_ := Aside0.mk (Kd.R_elder' (kr HO_8.out) (Kd.R_base ho52) hb); have n4_ := Aside0.mk (Kd.R_elder' (kr HO_10.out) (Kd.R_base ho52) hb); have n5_ := Aside0.mk (Kd.R_lower (Kd.R_new' (Kd.R_new' (Kd.R_new' (Kd.R_new' (Kd.R_new' ho52 (Kd.R_lt (kr HO_2.out))) (Kd.R_lt (kr HO_3.out))) (Kd.R_lt (kr HO_5.out))) (Kd.R_lt (kr HO_8.out))) (Kd.R_lt (kr HO_10.out))) (below_size (bw))); have n6_ := Aside0.mk (below_step (bw) hb); clear HO_2; clear HO_3; clear HO_5; clear HO_8; clear HO_10; clear HB; have HO_2 := n0_; have HO_3 := n1_; have HO_5 := n2_; have HO_8 := n3_; have HO_10 := n4_; have HO269 := n5_; have HB := n6_; clear n0_ n1_ n2_ n3_ n4_ n5_ n6_; clear hb ho52; obtain ⟨Ao53, co53, eo53⟩ := Kd.R_slice HO_2.out; subst eo53; obtain ⟨Ao54, co54, eo54⟩ := Kd.R_slice HO269.out; subst eo54) | ((with_reducible refine gate_callee (f := 18) rfl ?_); refine goesL_ (some 53) rfl rfl Try.func18 (by kernel_rfl) rfl #[.slice Ao53 t242.length co53, .slice Ao54 y267.length co54] rfl (by (try simp only [List.map_toArray, List.map_cons, List.map_nil]); first | done | rfl | (simp only [List.length_drop, List.length_take]; rfl)) ?_; (with_reducible refine (worldmintref14_Same.calls kj4 _ _ t242 _ _ y267 true _ ?side1 ?side2 ?side3 ?side4 A22.out).mono ?_); (case side1 => repeat (first | exact (Kd.R_reads' HO_2.out).2.2 | (with_reducible refine Kd.C_alloc ?_ _) | (with_reducible refine Kd.C_drewN ?_ _) | (with_reducible refine Kd.C_drew ?_))); (case side2 => exact (Kd.R_reads' HO_2.out).2.1); (case side3 => repeat (first | exact (Kd.R_reads' HO269.out).2.2 | (with_reducible refine Kd.C_alloc ?_ _) | (with_reducible refine Kd.C_drewN ?_ _) | (with_reducible refine Kd.C_drew ?_))); (case side4 => exact (Kd.R_reads' HO269.out).2.1); rintro e w' ⟨rfl, ⟨nd, rfl⟩⟩; refine ⟨_, rfl, ?_⟩) | ((with_reducible refine gate_dst (N := 58) rfl ?_); (try (refine gate_guard (by rfl) ?_; dsimp only)); refine Kd.R_lit k39 _ 39 ?hg (N := 58) ?hd (xs := ([(⟨7, 4, 2⟩ : S39), (⟨9, 2, 2⟩ : S39)] : List (S39))) (inner := [.int .i64 7, .int .i64 4, .int .i64 2, .int .i64 9, .int .i64 2, .int .i64 2]) (ok := fun _ => True) (okp := fun _ => True) ?hr ?hp (fun _ hk => hk) trivial (Below.refl _ _) (Nat.le_refl _) (by simp) ?_; (case hd => rfl); (case hg => rfl); (case hr => first | (go_simp; done) | (go_simp; rfl)); (case hp => exact (Reps.c3 (show Kd.M k39 _ _ _ (⟨7, 4, 2⟩ : S39) [.int .i64 7, .int .i64 4, .int .i64 2] from (k39_mkM _ _ _ (⟨7, 4, 2⟩ : S39) )) (Reps.c3 (show Kd.M k39 _ _ _ (⟨9, 2, 2⟩ : S39) [.int .i64 9, .int .i64 2, .int .i64 2] from (k39_mkM _ _ _ (⟨9, 2, 2⟩ : S39) )) (Reps.none _ _)))); intro v272 w55 ho56 hb hg_ hnew_; clear hg_ hnew_; (first | rw [← Ny271.out] at ho56 | (simp only [Int.reduceToNat] at ho56; rw [← Ny271.out] at ho56)); have n0_ := Aside0.mk (Kd.R_elder' (kr HO_2.out) (Kd.R_base ho56) hb); have n1_ := Aside0.mk (Kd.R_elder' (kr HO_3.out) (Kd.R_base ho56) hb); have n2_ := Aside0.mk (Kd.R_elder' (kr HO_5.out) (Kd.R_base ho56) hb); have n3_ := Aside0.mk (Kd.R_elder' (kr HO_8.out) (Kd.R_base ho56) hb); have n4_ := Aside0.mk (Kd.R_elder' (kr HO_10.out) (Kd.R_base ho56) hb); have n5_ := Aside0.mk (Kd.R_elder' (kr HO269.out) (Kd.R_base ho56) hb); have n6_ := Aside0.mk (Kd.R_lower (Kd.R_new' (Kd.R_new' (Kd.R_new' (Kd.R_new' (Kd.R_new' (Kd.R_new' ho56 (Kd.R_lt (kr HO_2.out))) (Kd.R_lt (kr HO_3.out))) (Kd.R_lt (kr HO_5.out))) (Kd.R_lt (kr HO_8.out))) (Kd.R_lt (kr HO_10.out))) (Kd.R_lt (kr HO269.out))) (below_size (bw))); have n7_ := Aside0.mk (below_step (bw) hb); clear HO_2; clear HO_3; clear HO_5; clear HO_8; clear HO_10; clear HO269; clear HB; have HO_2 := n0_; have HO_3 := n1_; have HO_5 := n2_; have HO_8 := n3_; have HO_10 := n4_; have HO269 := n5_; have HO273 := n6_; have HB := n7_; clear n0_ n1_ n2_ n3_ n4_ n5_ n6_ n7_; clear hb ho56; obtain ⟨Ao57, co57, eo57⟩ := Kd.R_slice HO_3.out; subst eo57; obtain ⟨Ao58, co58, eo58⟩ := Kd.R_slice HO273.out; subst eo58) | (go_at_call 18; (with_reducible refine (worldmintref14_Same.calls kj4 _ _ t243 _ _ y271 true _ ?side1 ?side2 ?side3 ?side4 A24.out).mono ?_); (case side1 => repeat (first | exact (Kd.R_reads' HO_3.out).2.2 | (with_reducible refine Kd.C_alloc ?_ _) | (with_reducible refine Kd.C_drewN ?_ _) | (with_reducible refine Kd.C_drew ?_))); (case side2 => exact (Kd.R_reads' HO_3.out).2.1); (case side3 => repeat (first | exact (Kd.R_reads' HO273.out).2.2 | (with_reducible refine Kd.C_alloc ?_ _) | (with_reducible refine Kd.C_drewN ?_ _) | (with_reducible refine Kd.C_drew ?_))); (case side4 => exact (Kd.R_reads' HO273.out).2.1); rintro e w' ⟨rfl, ⟨nd, rfl⟩⟩) | ((with_reducible refine gate_dst (N := 65) rfl ?_); (try (refine gate_guard (by rfl) ?_; dsimp only)); refine Kd.R_lit k39 _ 39 ?hg (N := 65) ?hd (xs := ([(⟨7, 0, 3⟩ : S39), (⟨9, 2, 1⟩ : S39)] : List (S39))) (inner := [.int .i64 7, .int .i64 0, .int .i64 3, .int .i64 9, .int .i64 2, .int .i64 1]) (ok := fun _ => True) (okp := fun _ => True) ?hr ?hp (fun _ hk => hk) trivial (Below.refl _ _) (Nat.le_refl _) (by simp) ?_; (case hd => rfl); (case hg => rfl); (case hr => first | (go_simp; done) | (go_simp; rfl)); (case hp => exact (Reps.c3 (show Kd.M k39 _ _ _ (⟨7, 0, 3⟩ : S39) [.int .i64 7, .int .i64 0, .int .i64 3] from (k39_mkM _ _ _ (⟨7, 0, 3⟩ : S39) )) (Reps.c3 (show Kd.M k39 _ _ _ (⟨9, 2, 1⟩ : S39) [.int .i64 9, .int .i64 2, .int .i64 1] from (k39_mkM _ _ _ (⟨9, 2, 1⟩ : S39) )) (Reps.none _ _)))); intro v276 w59 ho60 hb hg_ hnew_; clear hg_ hnew_; (first | rw [← Ny275.out] at ho60 | (simp only [Int.reduceToNat] at ho60; rw [← Ny275.out] at ho60)); have n0_ := Aside0.mk (Kd.R_elder' (kr HO_2.out) (Kd.R_base ho60) hb); have n1_ := Aside0.mk (Kd.R_elder' (kr HO_3.out) (Kd.R_base ho60) hb); have n2_ := Aside0.mk (Kd.R_elder' (kr HO_5.out) (Kd.R_base ho60) hb); have n3_ := Aside0.mk (Kd.R_elder' (kr HO_8.out) (Kd.R_base ho60) hb); have n4_ := Aside0.mk (Kd.R_elder' (kr HO_10.out) (Kd.R_base ho60) hb); have n5_ := Aside0.mk (Kd.R_elder' (kr HO269.out) (Kd.R_base ho60) hb); have n6_ := Aside0.mk (Kd.R_elder' (kr HO273.out) (Kd.R_base ho60) hb); have n7_ := Aside0.mk (Kd.R_lower (Kd.R_new' (Kd.R_new' (Kd.R_new' (Kd.R_new' (Kd.R_new' (Kd.R_new' (Kd.R_new' ho60 (Kd.R_lt (kr HO_2.out))) (Kd.R_lt (kr HO_3.out))) (Kd.R_lt (kr HO_5.out))) (Kd.R_lt (kr HO_8.out))) (Kd.R_lt (kr HO_10.out))) (Kd.R_lt (kr HO269.out))) (Kd.R_lt (kr HO273.out))) (below_size (bw))); have n8_ := Aside0.mk (below_step (bw) hb); clear HO_2; clear HO_3; clear HO_5; clear HO_8; clear HO_10; clear HO269; clear HO273; clear HB; have HO_2 := n0_; have HO_3 := n1_; have HO_5 := n2_; have HO_8 := n3_; have HO_10 := n4_; have HO269 := n5_; have HO273 := n6_; have HO277 := n7_; have HB := n8_; clear n0_ n1_ n2_ n3_ n4_ n5_ n6_ n7_ n8_; clear hb ho60; obtain ⟨Ao61, co61, eo61⟩ := Kd.R_slice HO_5.out; subst eo61; obtain ⟨Ao62, co62, eo62⟩ := Kd.R_slice HO277.out; subst eo62) | (go_at_call 18; (with_reducible refine (worldmintref14_Same.calls kj4 _ _ t249 _ _ y275 true _ ?side1 ?side2 ?side3 ?side4 A26.out).mono ?_); (case side1 => repeat (first | exact (Kd.R_reads' HO_5.out).2.2 | (with_reducible refine Kd.C_alloc ?_ _) | (with_reducible refine Kd.C_drewN ?_ _) | (with_reducible refine Kd.C_drew ?_))); (case side2 => exact (Kd.R_reads' HO_5.out).2.1); (case side3 => repeat (first | exact (Kd.R_reads' HO277.out).2.2 | (with_reducible refine Kd.C_alloc ?_ _) | (with_reducible refine Kd.C_drewN ?_ _) | (with_reducible refine Kd.C_drew ?_))); (case side4 => exact (Kd.R_reads' HO277.out).2.1); rintro e w' ⟨rfl, ⟨nd, rfl⟩⟩) | ((with_reducible refine gate_dst (N := 72) rfl ?_); (try (refine gate_guard (by rfl) ?_; dsimp only)); refine Kd.R_lit k39 _ 39 ?hg (N := 72) ?hd (xs := ([(⟨7, 5, 1⟩ : S39), (⟨9, 2, 1⟩ : S39)] : List (S39))) (inner := [.int .i64 7, .int .i64 5, .int .i64 1, .int .i64 9, .int .i64 2, .int .i64 1]) (ok := fun _ => True) (okp := fun _ => True) ?hr ?hp (fun _ hk => hk) trivial (Below.refl _ _) (Nat.le_refl _) (by simp) ?_; (case hd => rfl); (case hg => rfl); (case hr => first | (go_simp; done) | (go_simp; rfl)); (case hp => exact (Reps.c3 (show Kd.M k39 _ _ _ (⟨7, 5, 1⟩ : S39) [.int .i64 7, .int .i64 5, .int .i64 1] from (k39_mkM _ _ _ (⟨7, 5, 1⟩ : S39) )) (Reps.c3 (show Kd.M k39 _ _ _ (⟨9, 2, 1⟩ : S39) [.int .i64 9, .int .i64 2, .int .i64 1] from (k39_mkM _ _ _ (⟨9, 2, 1⟩ : S39) )) (Reps.none _ _)))); intro v280 w63 ho64 hb hg_ hnew_; clear hg_ hnew_; (first | rw [← Ny279.out] at ho64 | (simp only [Int.reduceToNat] at ho64; rw [← Ny279.out] at ho64)); have n0_ := Aside0.mk (Kd.R_elder' (kr HO_2.out) (Kd.R_base ho64) hb); have n1_ := Aside0.mk (Kd.R_elder' (kr HO_3.out) (Kd.R_base ho64) hb); have n2_ := Aside0.mk (Kd.R_elder' (kr HO_5.out) (Kd.R_base ho64) hb); have n3_ := Aside0.mk (Kd.R_elder' (kr HO_8.out) (Kd.R_base ho64) hb); have n4_ := Aside0.mk (Kd.R_elder' (kr HO_10.out) (Kd.R_base ho64) hb); have n5_ := Aside0.mk (Kd.R_elder' (kr HO269.out) (Kd.R_base ho64) hb); have n6_ := Aside0.mk (Kd.R_elder' (kr HO273.out) (Kd.R_base ho64) hb); have n7_ := Aside0.mk (Kd.R_elder' (kr HO277.out) (Kd.R_base ho64) hb); have n8_ := Aside0.mk (Kd.R_lower (Kd.R_new' (Kd.R_new' (Kd.R_new' (Kd.R_new' (Kd.R_new' (Kd.R_new' (Kd.R_new' (Kd.R_new' ho64 (Kd.R_lt (kr HO_2.out))) (Kd.R_lt (kr HO_3.out))) (Kd.R_lt (kr HO_5.out))) (Kd.R_lt (kr HO_8.out))) (Kd.R_lt (kr HO_10.out))) (Kd.R_lt (kr HO269.out))) (Kd.R_lt (kr HO273.out))) (Kd.R_lt (kr HO277.out))) (below_size (bw))); have n9_ := Aside0.mk (below_step (bw) hb); clear HO_2; clear HO_3; clear HO_5; clear HO_8; clear HO_10; clear HO269; clear HO273; clear HO277; clear HB; have HO_2 := n0_; have HO_3 := n1_; have HO_5 := n2_; have HO_8 := n3_; have HO_10 := n4_; have HO269 := n5_; have HO273 := n6_; have HO277 := n7_; have HO281 := n8_; have HB := n9_; clear n0_ n1_ n2_ n3_ n4_ n5_ n6_ n7_ n8_ n9_; clear hb ho64; obtain ⟨Ao65, co65, eo65⟩ := Kd.R_slice HO_8.out; subst eo65; obtain ⟨Ao66, co66, eo66⟩ := Kd.R_slice HO281.out; subst eo66) | (go_at_call 18; (with_reducible refine (worldmintref14_Same.calls kj4 _ _ t256 _ _ y279 false _ ?side1 ?side2 ?side3 ?side4 A28.out).mono ?_); (case side1 => repeat (first | exact (Kd.R_reads' HO_8.out).2.2 | (with_reducible refine Kd.C_alloc ?_ _) | (with_reducible refine Kd.C_drewN ?_ _) | (with_reducible refine Kd.C_drew ?_))); (case side2 => exact (Kd.R_reads' HO_8.out).2.1); (case side3 => repeat (first | exact (Kd.R_reads' HO281.out).2.2 | (with_reducible refine Kd.C_alloc ?_ _) | (with_reducible refine Kd.C_drewN ?_ _) | (with_reducible refine Kd.C_drew ?_))); (case side4 => exact (Kd.R_reads' HO281.out).2.1); rintro e w' ⟨rfl, ⟨nd, rfl⟩⟩))
        go_ret
        exact ⟨by first | rfl | (simp [errW_none, errW_some] <;> rfl) | (simp [*, errW_none, errW_some] <;> rfl), bw⟩
      ·replace c27 := Bool.eq_false_iff.mpr c27
       subst c27
       have H1 : (some false) = some r := by rw [if_neg (show ¬ (false = true) by decide)] at H; exact H
       clear H
       have H := H1
       clear H1
       obtain rfl := Option.some.inj H
       go_wp2_with (first | ((with_reducible refine gate_dst (N := 52) rfl ?_); (try (refine gate_guard (by rfl) ?_; dsimp only)); refine Kd.R_lit k39 _ 39 ?hg (N := 52) ?hd (xs := ([(⟨7, 0, 4⟩ : S39)] : List (S39))) (inner := [.int .i64 7, .int .i64 0, .int .i64 4]) (ok := fun _ => True) (okp := fun _ => True) ?hr ?hp (fun _ hk => hk) trivial (Below.refl _ _) (Nat.le_refl _) (by simp) ?_; (case hd => rfl); (case hg => rfl); (case hr => first | (go_simp; done) | (go_simp; rfl)); (case hp => exact (Reps.c3 (show Kd.M k39 _ _ _ (⟨7, 0, 4⟩ : S39) [.int .i64 7, .int .i64 0, .int .i64 4] from (k39_mkM _ _ _ (⟨7, 0, 4⟩ : S39) )) (Reps.none _ _))); intro v268 w67 ho68 hb hg_ hnew_; clear hg_ hnew_; (first | rw [← Ny267.out] at ho68 | (simp only [Int.reduceToNat] at ho68; rw [← Ny267.out] at ho68)); have n0_ := Aside0.mk (Kd.R_elder' (kr HO_2.out) (Kd.R_base ho68) hb); have n1_ := Aside0.mk (Kd.R_elder' (kr HO_3.out) (Kd.R_base ho68) hb); have n2_ := Aside0.mk (Kd.R_elder' (kr HO_5.out) (Kd.R_base ho68) hb); have n3_ := Aside0.mk (Kd.R_elder' (kr HO_8.out) (Kd.R_base ho68) hb); have n4_ := Aside0.mk (Kd.R_elder' (kr HO_10.out) (Kd.R_base ho68) hb); have n5_ := Aside0.mk (Kd.R_lower (Kd.R_new' (Kd.R_new' (Kd.R_new' (Kd.R_new' (Kd.R_new' ho68 (Kd.R_lt (kr HO_2.out))) (Kd.R_lt (kr HO_3.out))) (Kd.R_lt (kr HO_5.out))) (Kd.R_lt (kr HO_8.out))) (Kd.R_lt (kr HO_10.out))) (below_size (bw))); have n6_ := Aside0.mk (below_step (bw) hb); clear HO_2; clear HO_3; clear HO_5; clear HO_8; clear HO_10; clear HB; have HO_2 := n0_; have HO_3 := n1_; have HO_5 := n2_; have HO_8 := n3_; have HO_10 := n4_; have HO269 := n5_; have HB := n6_; clear n0_ n1_ n2_ n3_ n4_ n5_ n6_; clear hb ho68; obtain ⟨Ao69, co69, eo69⟩ := Kd.R_slice HO_2.out; subst eo69; obtain ⟨Ao70, co70, eo70⟩ := Kd.R_slice HO269.out; subst eo70) | ((with_reducible refine gate_callee (f := 18) rfl ?_); refine goesL_ (some 53) rfl rfl Try.func18 (by kernel_rfl) rfl #[.slice Ao69 t242.length co69, .slice Ao70 y267.length co70] rfl (by (try simp only [List.map_toArray, List.map_cons, List.map_nil]); first | done | rfl | (simp only [List.length_drop, List.length_take]; rfl)) ?_; (with_reducible refine (worldmintref14_Same.calls kj4 _ _ t242 _ _ y267 true _ ?side1 ?side2 ?side3 ?side4 A22.out).mono ?_); (case side1 => repeat (first | exact (Kd.R_reads' HO_2.out).2.2 | (with_reducible refine Kd.C_alloc ?_ _) | (with_reducible refine Kd.C_drewN ?_ _) | (with_reducible refine Kd.C_drew ?_))); (case side2 => exact (Kd.R_reads' HO_2.out).2.1); (case side3 => repeat (first | exact (Kd.R_reads' HO269.out).2.2 | (with_reducible refine Kd.C_alloc ?_ _) | (with_reducible refine Kd.C_drewN ?_ _) | (with_reducible refine Kd.C_drew ?_))); (case side4 => exact (Kd.R_reads' HO269.out).2.1); rintro e w' ⟨rfl, ⟨nd, rfl⟩⟩; refine ⟨_, rfl, ?_⟩) | ((with_reducible refine gate_dst (N := 58) rfl ?_); (try (refine gate_guard (by rfl) ?_; dsimp only)); refine Kd.R_lit k39 _ 39 ?hg (N := 58) ?hd (xs := ([(⟨7, 4, 2⟩ : S39), (⟨9, 2, 2⟩ : S39)] : List (S39))) (inner := [.int .i64 7, .int .i64 4, .int .i64 2, .int .i64 9, .int .i64 2, .int .i64 2]) (ok := fun _ => True) (okp := fun _ => True) ?hr ?hp (fun _ hk => hk) trivial (Below.refl _ _) (Nat.le_refl _) (by simp) ?_; (case hd => rfl); (case hg => rfl); (case hr => first | (go_simp; done) | (go_simp; rfl)); (case hp => exact (Reps.c3 (show Kd.M k39 _ _ _ (⟨7, 4, 2⟩ : S39) [.int .i64 7, .int .i64 4, .int .i64 2] from (k39_mkM _ _ _ (⟨7, 4, 2⟩ : S39) )) (Reps.c3 (show Kd.M k39 _ _ _ (⟨9, 2, 2⟩ : S39) [.int .i64 9, .int .i64 2, .int .i64 2] from (k39_mkM _ _ _ (⟨9, 2, 2⟩ : S39) )) (Reps.none _ _)))); intro v272 w71 ho72 hb hg_ hnew_; clear hg_ hnew_; (first | rw [← Ny271.out] at ho72 | (simp only [Int.reduceToNat] at ho72; rw [← Ny271.out] at ho72)); have n0_ := Aside0.mk (Kd.R_elder' (kr HO_2.out) (Kd.R_base ho72) hb); have n1_ := Aside0.mk (Kd.R_elder' (kr HO_3.out) (Kd.R_base ho72) hb); have n2_ := Aside0.mk (Kd.R_elder' (kr HO_5.out) (Kd.R_base ho72) hb); have n3_ := Aside0.mk (Kd.R_elder' (kr HO_8.out) (Kd.R_base ho72) hb); have n4_ := Aside0.mk (Kd.R_elder' (kr HO_10.out) (Kd.R_base ho72) hb); have n5_ := Aside0.mk (Kd.R_elder' (kr HO269.out) (Kd.R_base ho72) hb); have n6_ := Aside0.mk (Kd.R_lower (Kd.R_new' (Kd.R_new' (Kd.R_new' (Kd.R_new' (Kd.R_new' (Kd.R_new' ho72 (Kd.R_lt (kr HO_2.out))) (Kd.R_lt (kr HO_3.out))) (Kd.R_lt (kr HO_5.out))) (Kd.R_lt (kr HO_8.out))) (Kd.R_lt (kr HO_10.out))) (Kd.R_lt (kr HO269.out))) (below_size (bw))); have n7_ := Aside0.mk (below_step (bw) hb); clear HO_2; clear HO_3; clear HO_5; clear HO_8; clear HO_10; clear HO269; clear HB; have HO_2 := n0_; have HO_3 := n1_; have HO_5 := n2_; have HO_8 := n3_; have HO_10 := n4_; have HO269 := n5_; have HO273 := n6_; have HB := n7_; clear n0_ n1_ n2_ n3_ n4_ n5_ n6_ n7_; clear hb ho72; obtain ⟨Ao73, co73, eo73⟩ := Kd.R_slice HO_3.out; subst eo73; obtain ⟨Ao74, co74, eo74⟩ := Kd.R_slice HO273.out; subst eo74) | (go_at_call 18; (with_reducible refine (worldmintref14_Same.calls kj4 _ _ t243 _ _ y271 true _ ?side1 ?side2 ?side3 ?side4 A24.out).mono ?_); (case side1 => repeat (first | exact (Kd.R_reads' HO_3.out).2.2 | (with_reducible refine Kd.C_alloc ?_ _) | (with_reducible refine Kd.C_drewN ?_ _) | (with_reducible refine Kd.C_drew ?_))); (case side2 => exact (Kd.R_reads' HO_3.out).2.1); (case side3 => repeat (first | exact (Kd.R_reads' HO273.out).2.2 | (with_reducible refine Kd.C_alloc ?_ _) | (with_reducible refine Kd.C_drewN ?_ _) | (with_reducible refine Kd.C_drew ?_))); (case side4 => exact (Kd.R_reads' HO273.out).2.1); rintro e w' ⟨rfl, ⟨nd, rfl⟩⟩) | ((with_reducible refine gate_dst (N := 65) rfl ?_); (try (refine gate_guard (by rfl) ?_; dsimp only)); refine Kd.R_lit k39 _ 39 ?hg (N := 65) ?hd (xs := ([(⟨7, 0, 3⟩ : S39), (⟨9, 2, 1⟩ : S39)] : List (S39))) (inner := [.int .i64 7, .int .i64 0, .int .i64 3, .int .i64 9, .int .i64 2, .int .i64 1]) (ok := fun _ => True) (okp := fun _ => True) ?hr ?hp (fun _ hk => hk) trivial (Below.refl _ _) (Nat.le_refl _) (by simp) ?_; (case hd => rfl); (case hg => rfl); (case hr => first | (go_simp; done) | (go_simp; rfl)); (case hp => exact (Reps.c3 (show Kd.M k39 _ _ _ (⟨7, 0, 3⟩ : S39) [.int .i64 7, .int .i64 0, .int .i64 3] from (k39_mkM _ _ _ (⟨7, 0, 3⟩ : S39) )) (Reps.c3 (show Kd.M k39 _ _ _ (⟨9, 2, 1⟩ : S39) [.int .i64 9, .int .i64 2, .int .i64 1] from (k39_mkM _ _ _ (⟨9, 2, 1⟩ : S39) )) (Reps.none _ _)))); intro v276 w75 ho76 hb hg_ hnew_; clear hg_ hnew_; (first | rw [← Ny275.out] at ho76 | (simp only [Int.reduceToNat] at ho76; rw [← Ny275.out] at ho76)); have n0_ := Aside0.mk (Kd.R_elder' (kr HO_2.out) (Kd.R_base ho76) hb); have n1_ := Aside0.mk (Kd.R_elder' (kr HO_3.out) (Kd.R_base ho76) hb); have n2_ := Aside0.mk (Kd.R_elder' (kr HO_5.out) (Kd.R_base ho76) hb); have n3_ := Aside0.mk (Kd.R_elder' (kr HO_8.out) (Kd.R_base ho76) hb); have n4_ := Aside0.mk (Kd.R_elder' (kr HO_10.out) (Kd.R_base ho76) hb); have n5_ := Aside0.mk (Kd.R_elder' (kr HO269.out) (Kd.R_base ho76) hb); have n6_ := Aside0.mk (Kd.R_elder' (kr HO273.out) (Kd.R_base ho76) hb); have n7_ := Aside0.mk (Kd.R_lower (Kd.R_new' (Kd.R_new' (Kd.R_new' (Kd.R_new' (Kd.R_new' (Kd.R_new' (Kd.R_new' ho76 (Kd.R_lt (kr HO_2.out))) (Kd.R_lt (kr HO_3.out))) (Kd.R_lt (kr HO_5.out))) (Kd.R_lt (kr HO_8.out))) (Kd.R_lt (kr HO_10.out))) (Kd.R_lt (kr HO269.out))) (Kd.R_lt (kr HO273.out))) (below_size (bw))); have n8_ := Aside0.mk (below_step (bw) hb); clear HO_2; clear HO_3; clear HO_5; clear HO_8; clear HO_10; clear HO269; clear HO273; clear HB; have HO_2 := n0_; have HO_3 := n1_; have HO_5 := n2_; have HO_8 := n3_; have HO_10 := n4_; have HO269 := n5_; have HO273 := n6_; have HO277 := n7_; have HB := n8_; clear n0_ n1_ n2_ n3_ n4_ n5_ n6_ n7_ n8_; clear hb ho76; obtain ⟨Ao77, co77, eo77⟩ := Kd.R_slice HO_5.out; subst eo77; obtain ⟨Ao78, co78, eo78⟩ := Kd.R_slice HO277.out; subst eo78) | (go_at_call 18; (with_reducible refine (worldmintref14_Same.calls kj4 _ _ t249 _ _ y275 false _ ?side1 ?side2 ?side3 ?side4 A26.out).mono ?_); (case side1 => repeat (first | exact (Kd.R_reads' HO_5.out).2.2 | (with_reducible refine Kd.C_alloc ?_ _) | (with_reducible refine Kd.C_drewN ?_ _) | (with_reducible refine Kd.C_drew ?_))); (case side2 => exact (Kd.R_reads' HO_5.out).2.1); (case side3 => repeat (first | exact (Kd.R_reads' HO277.out).2.2 | (with_reducible refine Kd.C_alloc ?_ _) | (with_reducible refine Kd.C_drewN ?_ _) | (with_reducible refine Kd.C_drew ?_))); (case side4 => exact (Kd.R_reads' HO277.out).2.1); rintro e w' ⟨rfl, ⟨nd, rfl⟩⟩))
       go_ret
       exact ⟨by first | rfl | (simp [errW_none, errW_some] <;> rfl) | (simp [*, errW_none, errW_some] <;> rfl), bw⟩
     ·replace c25 := Bool.eq_false_iff.mpr c25
      subst c25
      have H1 : (some false) = some r := by rw [if_neg (show ¬ (false = true) by decide)] at H; exact H
      clear H
      have H := H1
      clear H1
      obtain rfl := Option.some.inj H
      go_wp2_with (first | ((with_reducible refine gate_dst (N := 52) rfl ?_); (try (refine gate_guard (by rfl) ?_; dsimp only)); refine Kd.R_lit k39 _ 39 ?hg (N := 52) ?hd (xs := ([(⟨7, 0, 4⟩ : S39)] : List (S39))) (inner := [.int .i64 7, .int .i64 0, .int .i64 4]) (ok := fun _ => True) (okp := fun _ => True) ?hr ?hp (fun _ hk => hk) trivial (Below.refl _ _) (Nat.le_refl _) (by simp) ?_; (case hd => rfl); (case hg => rfl); (case hr => first | (go_simp; done) | (go_simp; rfl)); (case hp => exact (Reps.c3 (show Kd.M k39 _ _ _ (⟨7, 0, 4⟩ : S39) [.int .i64 7, .int .i64 0, .int .i64 4] from (k39_mkM _ _ _ (⟨7, 0, 4⟩ : S39) )) (Reps.none _ _))); intro v268 w79 ho80 hb hg_ hnew_; clear hg_ hnew_; (first | rw [← Ny267.out] at ho80 | (simp only [Int.reduceToNat] at ho80; rw [← Ny267.out] at ho80)); have n0_ := Aside0.mk (Kd.R_elder' (kr HO_2.out) (Kd.R_base ho80) hb); have n1_ := Aside0.mk (Kd.R_elder' (kr HO_3.out) (Kd.R_base ho80) hb); have n2_ := Aside0.mk (Kd.R_elder' (kr HO_5.out) (Kd.R_base ho80) hb); have n3_ := Aside0.mk (Kd.R_elder' (kr HO_8.out) (Kd.R_base ho80) hb); have n4_ := Aside0.mk (Kd.R_elder' (kr HO_10.out) (Kd.R_base ho80) hb); have n5_ := Aside0.mk (Kd.R_lower (Kd.R_new' (Kd.R_new' (Kd.R_new' (Kd.R_new' (Kd.R_new' ho80 (Kd.R_lt (kr HO_2.out))) (Kd.R_lt (kr HO_3.out))) (Kd.R_lt (kr HO_5.out))) (Kd.R_lt (kr HO_8.out))) (Kd.R_lt (kr HO_10.out))) (below_size (bw))); have n6_ := Aside0.mk (below_step (bw) hb); clear HO_2; clear HO_3; clear HO_5; clear HO_8; clear HO_10; clear HB; have HO_2 := n0_; have HO_3 := n1_; have HO_5 := n2_; have HO_8 := n3_; have HO_10 := n4_; have HO269 := n5_; have HB := n6_; clear n0_ n1_ n2_ n3_ n4_ n5_ n6_; clear hb ho80; obtain ⟨Ao81, co81, eo81⟩ := Kd.R_slice HO_2.out; subst eo81; obtain ⟨Ao82, co82, eo82⟩ := Kd.R_slice HO269.out; subst eo82) | ((with_reducible refine gate_callee (f := 18) rfl ?_); refine goesL_ (some 53) rfl rfl Try.func18 (by kernel_rfl) rfl #[.slice Ao81 t242.length co81, .slice Ao82 y267.length co82] rfl (by (try simp only [List.map_toArray, List.map_cons, List.map_nil]); first | done | rfl | (simp only [List.length_drop, List.length_take]; rfl)) ?_; (with_reducible refine (worldmintref14_Same.calls kj4 _ _ t242 _ _ y267 true _ ?side1 ?side2 ?side3 ?side4 A22.out).mono ?_); (case side1 => repeat (first | exact (Kd.R_reads' HO_2.out).2.2 | (with_reducible refine Kd.C_alloc ?_ _) | (with_reducible refine Kd.C_drewN ?_ _) | (with_reducible refine Kd.C_drew ?_))); (case side2 => exact (Kd.R_reads' HO_2.out).2.1); (case side3 => repeat (first | exact (Kd.R_reads' HO269.out).2.2 | (with_reducible refine Kd.C_alloc ?_ _) | (with_reducible refine Kd.C_drewN ?_ _) | (with_reducible refine Kd.C_drew ?_))); (case side4 => exact (Kd.R_reads' HO269.out).2.1); rintro e w' ⟨rfl, ⟨nd, rfl⟩⟩; refine ⟨_, rfl, ?_⟩) | ((with_reducible refine gate_dst (N := 58) rfl ?_); (try (refine gate_guard (by rfl) ?_; dsimp only)); refine Kd.R_lit k39 _ 39 ?hg (N := 58) ?hd (xs := ([(⟨7, 4, 2⟩ : S39), (⟨9, 2, 2⟩ : S39)] : List (S39))) (inner := [.int .i64 7, .int .i64 4, .int .i64 2, .int .i64 9, .int .i64 2, .int .i64 2]) (ok := fun _ => True) (okp := fun _ => True) ?hr ?hp (fun _ hk => hk) trivial (Below.refl _ _) (Nat.le_refl _) (by simp) ?_; (case hd => rfl); (case hg => rfl); (case hr => first | (go_simp; done) | (go_simp; rfl)); (case hp => exact (Reps.c3 (show Kd.M k39 _ _ _ (⟨7, 4, 2⟩ : S39) [.int .i64 7, .int .i64 4, .int .i64 2] from (k39_mkM _ _ _ (⟨7, 4, 2⟩ : S39) )) (Reps.c3 (show Kd.M k39 _ _ _ (⟨9, 2, 2⟩ : S39) [.int .i64 9, .int .i64 2, .int .i64 2] from (k39_mkM _ _ _ (⟨9, 2, 2⟩ : S39) )) (Reps.none _ _)))); intro v272 w83 ho84 hb hg_ hnew_; clear hg_ hnew_; (first | rw [← Ny271.out] at ho84 | (simp only [Int.reduceToNat] at ho84; rw [← Ny271.out] at ho84)); have n0_ := Aside0.mk (Kd.R_elder' (kr HO_2.out) (Kd.R_base ho84) hb); have n1_ := Aside0.mk (Kd.R_elder' (kr HO_3.out) (Kd.R_base ho84) hb); have n2_ := Aside0.mk (Kd.R_elder' (kr HO_5.out) (Kd.R_base ho84) hb); have n3_ := Aside0.mk (Kd.R_elder' (kr HO_8.out) (Kd.R_base ho84) hb); have n4_ := Aside0.mk (Kd.R_elder' (kr HO_10.out) (Kd.R_base ho84) hb); have n5_ := Aside0.mk (Kd.R_elder' (kr HO269.out) (Kd.R_base ho84) hb); have n6_ := Aside0.mk (Kd.R_lower (Kd.R_new' (Kd.R_new' (Kd.R_new' (Kd.R_new' (Kd.R_new' (Kd.R_new' ho84 (Kd.R_lt (kr HO_2.out))) (Kd.R_lt (kr HO_3.out))) (Kd.R_lt (kr HO_5.out))) (Kd.R_lt (kr HO_8.out))) (Kd.R_lt (kr HO_10.out))) (Kd.R_lt (kr HO269.out))) (below_size (bw))); have n7_ := Aside0.mk (below_step (bw) hb); clear HO_2; clear HO_3; clear HO_5; clear HO_8; clear HO_10; clear HO269; clear HB; have HO_2 := n0_; have HO_3 := n1_; have HO_5 := n2_; have HO_8 := n3_; have HO_10 := n4_; have HO269 := n5_; have HO273 := n6_; have HB := n7_; clear n0_ n1_ n2_ n3_ n4_ n5_ n6_ n7_; clear hb ho84; obtain ⟨Ao85, co85, eo85⟩ := Kd.R_slice HO_3.out; subst eo85; obtain ⟨Ao86, co86, eo86⟩ := Kd.R_slice HO273.out; subst eo86) | (go_at_call 18; (with_reducible refine (worldmintref14_Same.calls kj4 _ _ t243 _ _ y271 false _ ?side1 ?side2 ?side3 ?side4 A24.out).mono ?_); (case side1 => repeat (first | exact (Kd.R_reads' HO_3.out).2.2 | (with_reducible refine Kd.C_alloc ?_ _) | (with_reducible refine Kd.C_drewN ?_ _) | (with_reducible refine Kd.C_drew ?_))); (case side2 => exact (Kd.R_reads' HO_3.out).2.1); (case side3 => repeat (first | exact (Kd.R_reads' HO273.out).2.2 | (with_reducible refine Kd.C_alloc ?_ _) | (with_reducible refine Kd.C_drewN ?_ _) | (with_reducible refine Kd.C_drew ?_))); (case side4 => exact (Kd.R_reads' HO273.out).2.1); rintro e w' ⟨rfl, ⟨nd, rfl⟩⟩))
      go_ret
      exact ⟨by first | rfl | (simp [errW_none, errW_some] <;> rfl) | (simp [*, errW_none, errW_some] <;> rfl), bw⟩
    ·replace c23 := Bool.eq_false_iff.mpr c23
     subst c23
     have H1 : (some false) = some r := by rw [if_neg (show ¬ (false = true) by decide)] at H; exact H
     clear H
     have H := H1
     clear H1
     obtain rfl := Option.some.inj H
     go_wp2_with (first | ((with_reducible refine gate_dst (N := 52) rfl ?_); (try (refine gate_guard (by rfl) ?_; dsimp only)); refine Kd.R_lit k39 _ 39 ?hg (N := 52) ?hd (xs := ([(⟨7, 0, 4⟩ : S39)] : List (S39))) (inner := [.int .i64 7, .int .i64 0, .int .i64 4]) (ok := fun _ => True) (okp := fun _ => True) ?hr ?hp (fun _ hk => hk) trivial (Below.refl _ _) (Nat.le_refl _) (by simp) ?_; (case hd => rfl); (case hg => rfl); (case hr => first | (go_simp; done) | (go_simp; rfl)); (case hp => exact (Reps.c3 (show Kd.M k39 _ _ _ (⟨7, 0, 4⟩ : S39) [.int .i64 7, .int .i64 0, .int .i64 4] from (k39_mkM _ _ _ (⟨7, 0, 4⟩ : S39) )) (Reps.none _ _))); intro v268 w87 ho88 hb hg_ hnew_; clear hg_ hnew_; (first | rw [← Ny267.out] at ho88 | (simp only [Int.reduceToNat] at ho88; rw [← Ny267.out] at ho88)); have n0_ := Aside0.mk (Kd.R_elder' (kr HO_2.out) (Kd.R_base ho88) hb); have n1_ := Aside0.mk (Kd.R_elder' (kr HO_3.out) (Kd.R_base ho88) hb); have n2_ := Aside0.mk (Kd.R_elder' (kr HO_5.out) (Kd.R_base ho88) hb); have n3_ := Aside0.mk (Kd.R_elder' (kr HO_8.out) (Kd.R_base ho88) hb); have n4_ := Aside0.mk (Kd.R_elder' (kr HO_10.out) (Kd.R_base ho88) hb); have n5_ := Aside0.mk (Kd.R_lower (Kd.R_new' (Kd.R_new' (Kd.R_new' (Kd.R_new' (Kd.R_new' ho88 (Kd.R_lt (kr HO_2.out))) (Kd.R_lt (kr HO_3.out))) (Kd.R_lt (kr HO_5.out))) (Kd.R_lt (kr HO_8.out))) (Kd.R_lt (kr HO_10.out))) (below_size (bw))); have n6_ := Aside0.mk (below_step (bw) hb); clear HO_2; clear HO_3; clear HO_5; clear HO_8; clear HO_10; clear HB; have HO_2 := n0_; have HO_3 := n1_; have HO_5 := n2_; have HO_8 := n3_; have HO_10 := n4_; have HO269 := n5_; have HB := n6_; clear n0_ n1_ n2_ n3_ n4_ n5_ n6_; clear hb ho88; obtain ⟨Ao89, co89, eo89⟩ := Kd.R_slice HO_2.out; subst eo89; obtain ⟨Ao90, co90, eo90⟩ := Kd.R_slice HO269.out; subst eo90) | ((with_reducible refine gate_callee (f := 18) rfl ?_); refine goesL_ (some 53) rfl rfl Try.func18 (by kernel_rfl) rfl #[.slice Ao89 t242.length co89, .slice Ao90 y267.length co90] rfl (by (try simp only [List.map_toArray, List.map_cons, List.map_nil]); first | done | rfl | (simp only [List.length_drop, List.length_take]; rfl)) ?_; (with_reducible refine (worldmintref14_Same.calls kj4 _ _ t242 _ _ y267 false _ ?side1 ?side2 ?side3 ?side4 A22.out).mono ?_); (case side1 => repeat (first | exact (Kd.R_reads' HO_2.out).2.2 | (with_reducible refine Kd.C_alloc ?_ _) | (with_reducible refine Kd.C_drewN ?_ _) | (with_reducible refine Kd.C_drew ?_))); (case side2 => exact (Kd.R_reads' HO_2.out).2.1); (case side3 => repeat (first | exact (Kd.R_reads' HO269.out).2.2 | (with_reducible refine Kd.C_alloc ?_ _) | (with_reducible refine Kd.C_drewN ?_ _) | (with_reducible refine Kd.C_drew ?_))); (case side4 => exact (Kd.R_reads' HO269.out).2.1); rintro e w' ⟨rfl, ⟨nd, rfl⟩⟩; refine ⟨_, rfl, ?_⟩))
     go_ret
     exact ⟨by first | rfl | (simp [errW_none, errW_some] <;> rfl) | (simp [*, errW_none, errW_some] <;> rfl), bw⟩

/-! ### worldmintref14_Add: function 53 -/
def worldmintref14_Add.j0 : Nat → List (S39) → Int → Bool → Int → Int → Int → Option ((List (S39)))
 | 0, _, _, _, _, _, _ => none
 | k + 1, x5, x6, x46, x288000, x288001, x288002 => if x46 = true then (if 0 ≤ (wrap64 (x6 - 1)) then (if (wrap64 (x6 - 1)) < (x5.length : Int) then (some (x5.set ((wrap64 (x6 - 1)) : Int).toNat (⟨(rd_T39 x5 (wrap64 (x6 - 1))).f0, (rd_T39 x5 (wrap64 (x6 - 1))).f1, wrap64 (((rd_T39 x5 (wrap64 (x6 - 1))).f2) + x288002)⟩ : S39))) else (none)) else (none)) else (if x5.length < 5864062014805 then (some (x5 ++ [(⟨x288000, x288001, x288002⟩ : S39)])) else (none))
def worldmintref14_Add.f (k : Nat) (l0 : List (S39)) (a1_0 : Int) (a1_1 : Int) (a1_2 : Int) : Option ((List (S39))) := if ([] : List (S39)).length + l0.length < 5864062014805 then ((some (([] : List (S39)) ++ l0 : List (S39))).bind fun y288 => (if a1_2 = 0 then (some y288) else (if (y288.length : Int) > 0 then (if 0 ≤ (wrap64 ((y288.length : Int) - 1)) then (if (wrap64 ((y288.length : Int) - 1)) < (y288.length : Int) then (if ((rd_T39 y288 (wrap64 ((y288.length : Int) - 1))).f0) = a1_0 then (worldmintref14_Add.j0 k y288 (y288.length : Int) ((wrap64 (((rd_T39 y288 (wrap64 ((y288.length : Int) - 1))).f1) + ((rd_T39 y288 (wrap64 ((y288.length : Int) - 1))).f2))) == a1_1) a1_0 a1_1 a1_2) else (worldmintref14_Add.j0 k y288 (y288.length : Int) false a1_0 a1_1 a1_2)) else (none)) else (none)) else (worldmintref14_Add.j0 k y288 (y288.length : Int) false a1_0 a1_1 a1_2)))) else (none)
def worldmintref14_Add.T6 : Bool × List (List Nat × List Nat) := (true, [([], []), ([0], [0]), ([1], [1]), ([2], [2]), ([2], [2]), ([4, 2], [2, 4]), ([3, 5, 2], [2, 3, 5]), ([6, 2], [2, 6]), ([7, 2], [2, 7]), ([2], [2]), ([9, 2], [2, 9]), ([8, 10, 2], [2, 8, 10]), ([2, 11], [2, 11]), ([12, 2], [12]), ([13], [13]), ([13], [13]), ([15, 13], [13, 15]), ([14, 16, 13], [13, 14, 16]), ([17, 13], [13, 17]), ([18, 13], [13, 18]), ([13], [13]), ([13], [13]), ([21, 13], [13, 21]), ([20, 22, 13], [13, 20, 22]), ([23, 13], [13, 23]), ([24, 13], [13, 24]), ([19, 25, 13], [13, 19, 25]), ([13], [13]), ([27, 13], [13, 27]), ([26, 28, 13], [13, 26, 28]), ([13, 29], [13, 29])])
def worldmintref14_Add.B6 : List Nat := [0, 1, 3, 7, 7, 23, 63, 127, 255, 7, 519, 2047, 4095, 8191, 16383, 16383, 49151, 131071, 262143, 524287, 16383, 16383, 2113535, 7356415, 15745023, 32522239, 67108863, 16383, 134234111, 536870911, 1073741823]
theorem worldmintref14_Add.tab6 : rtab .any (opsOf Try.f53 6) = worldmintref14_Add.T6 := by kernel_rfl
theorem worldmintref14_Add.bits6 : waitsOk worldmintref14_Add.T6.2 worldmintref14_Add.B6 = true := by kernel_rfl
def worldmintref14_Add.T7 : Bool × List (List Nat × List Nat) := (true, [([], []), ([], []), ([1], [1]), ([], []), ([], []), ([4], [4]), ([3, 5], [3, 5]), ([6], [6]), ([7], [7]), ([], []), ([9], [9]), ([8, 10], [8, 10]), ([0, 2, 0, 1, 2, 3, 4, 5, 6, 7, 8, 9, 10, 11], [0, 2]), ([12, 0, 1, 2, 3, 4, 5, 6, 7, 8, 9, 10, 11], [12]), ([13, 11, 0, 1, 2, 3, 4, 5, 6, 7, 8, 9, 10, 11], [11, 13])])
def worldmintref14_Add.B7 : List Nat := [0, 0, 2, 0, 0, 16, 56, 120, 248, 0, 512, 2040, 4095, 8191, 16383]
theorem worldmintref14_Add.tab7 : rtab .any (opsOf Try.f53 7) = worldmintref14_Add.T7 := by kernel_rfl
theorem worldmintref14_Add.bits7 : waitsOk worldmintref14_Add.T7.2 worldmintref14_Add.B7 = true := by kernel_rfl
set_option maxHeartbeats 8000000 in
set_option maxRecDepth 100000 in
theorem worldmintref14_Add.calls (k : Nat) (A0 : Option Addr) (c0 : Nat) (l0 : List (S39)) (a1_0 : Int) (a1_1 : Int) (a1_2 : Int) (r : List (S39)) (w : World) (hr0 : Kd.C k39 w A0 l0.length l0) (hc0 : l0.length ≤ c0) (h : worldmintref14_Add.f k l0 a1_0 a1_1 a1_2 = some r) :
  Calls Try.prog 53 #[.slice A0 l0.length c0, .agg #[.int .i64 a1_0, .int .i64 a1_1, .int .i64 a1_2]] w fun e w' => ∃ v0_ : Value, e = .returned (v0_) ∧ Kd.R k39 39 w' w.heap.size (fun _ => True) v0_ r ∧ Below w.heap.size w w' := by
 have hu39 := Try.underlying39
 have HR0 := Aside0.mk hr0
 have HC0 := Aside0.mk hc0
 clear hr0 hc0
 have HB := Aside0.mk (Below.refl w.heap.size w)
 have H : (if ([] : List (S39)).length + l0.length < 5864062014805 then ((some (([] : List (S39)) ++ l0 : List (S39))).bind fun y288 => (if a1_2 = 0 then (some y288) else (if (y288.length : Int) > 0 then (if 0 ≤ (wrap64 ((y288.length : Int) - 1)) then (if (wrap64 ((y288.length : Int) - 1)) < (y288.length : Int) then (if ((rd_T39 y288 (wrap64 ((y288.length : Int) - 1))).f0) = a1_0 then (worldmintref14_Add.j0 k y288 (y288.length : Int) ((wrap64 (((rd_T39 y288 (wrap64 ((y288.length : Int) - 1))).f1) + ((rd_T39 y288 (wrap64 ((y288.length : Int) - 1))).f2))) == a1_1) a1_0 a1_1 a1_2) else (worldmintref14_Add.j0 k y288 (y288.length : Int) false a1_0 a1_1 a1_2)) else (none)) else (none)) else (worldmintref14_Add.j0 k y288 (y288.length : Int) false a1_0 a1_1 a1_2)))) else (none)) = some r := h
 clear h
 by_cases c3 : ([] : List (S39)).length + l0.length < 5864062014805
 ·rw [if_pos c3] at H
  have LMc3 := Aside0.mk c3
  clear c3
  obtain ⟨y288, hy288⟩ : ∃ y_ : List (S39), y_ = (([] : List (S39)) ++ l0) := ⟨_, rfl⟩
  replace H : (if a1_2 = 0 then (some y288) else (if (y288.length : Int) > 0 then (if 0 ≤ (wrap64 ((y288.length : Int) - 1)) then (if (wrap64 ((y288.length : Int) - 1)) < (y288.length : Int) then (if ((rd_T39 y288 (wrap64 ((y288.length : Int) - 1))).f0) = a1_0 then (worldmintref14_Add.j0 k y288 (y288.length : Int) ((wrap64 (((rd_T39 y288 (wrap64 ((y288.length : Int) - 1))).f1) + ((rd_T39 y288 (wrap64 ((y288.length : Int) - 1))).f2))) == a1_1) a1_0 a1_1 a1_2) else (worldmintref14_Add.j0 k y288 (y288.length : Int) false a1_0 a1_1 a1_2)) else (none)) else (none)) else (worldmintref14_Add.j0 k y288 (y288.length : Int) false a1_0 a1_1 a1_2))) = some r := by first | (rw [hy288]; with_reducible exact H) | (have H2_ := (Option.bind_some _ _).symm.trans H; rw [hy288]; with_reducible exact H2_) | (have H2_ := (Option.bind_some _ _).symm.trans H; with_reducible exact H2_) | with_reducible exact H | (rw [hy288]; exact H) | exact H
  have Ny288 := Aside0.mk hy288
  clear hy288
  by_cases c4 : a1_2 = 0
  ·rw [if_pos c4] at H
   have c4b0 : (a1_2 == 0) = true := beq_iff_eq.mpr c4
   have c4b1 : (a1_2 != 0) = false := bne_eq_false_iff_eq.mpr c4
   clear c4
   obtain rfl := Option.some.inj H
   go_enter Try.func53, Try.ntmps53
   go_wp2_with (first | ((with_reducible refine gate_dst (N := 3) rfl ?_); refine box_event ?hg (N := 3) ?hd (cs := #[.int .i64 a1_0, .int .i64 a1_1, .int .i64 a1_2]) (t := 39) ?hr ?_; (case hd => rfl); (case hg => rfl); (case hr => first | (go_simp; done) | (go_simp; rfl)); intro gb287 hg w5 hbox hb; have n0_ := Aside0.mk (below_step (bw) hb); have n1_ := Aside0.mk (hbox); have n2_ := Aside0.mk ((by rw [hg]; exact (below_size (bw)) : w.heap.size ≤ gb287)); have n3_ := Aside0.mk ((by rw [hg]; exact (below_size (bw)) : w.heap.size ≤ gb287)); clear HB; have HB := n0_; have BK287 := n1_; have GW287 := n2_; have GE287 := n3_; clear n0_ n1_ n2_ n3_; clear hb hbox hg) | ((with_reducible refine gate_builtin (b := .append) (xs := #[.tmp 7, .tmp 8]) rfl ?_); at_builtin; refine Kd.R_append_rows k39 (w0 := w) w.heap.size rfl (.tmp 7) (.tmp 8) 22 39 (.agg #[(.int .i64 0), (.int .i64 0), (.int .i64 0)]) 24 rfl Try.underlying22 info39 rfl (by decide) (by omega) (.slice none 0 0) ([] : List (S39)) l0 _ _ _ (fun k_ => k_ ≠ gb287) (fun _ => False) rfl rfl ?aO ?aR (fun _ _ h => h) (fun _ h => h.elim) ?aF ?aB ?aS ?aL ?_; (case aR => repeat (first | exact (Kd.C_below HR0.out HB.out) | (with_reducible refine Kd.C_alloc ?_ _) | (with_reducible refine Kd.C_drewN ?_ _) | (with_reducible refine Kd.C_drew ?_))); (case aB => exact (by repeat (first | (with_reducible first | exact HB.out | apply below_alloc | apply pw_below_drewN | apply below_drew1 | refine below_set ?_ GE287.out) | exact HB.out))); (case aF => exact (fun k_ hk => Kd.freshB (g := gb287) (o := .cells #[.int .i64 a1_0, .int .i64 a1_1, .int .i64 a1_2] 39 (0, 0)) (kb BK287.out) k_ hk)); (case aO => exact ((Kd.R_nil _ _ _ _ (fun k_ => k_ ≠ gb287)))); (case aS => exact (below_size (by repeat (first | (with_reducible first | exact HB.out | apply below_alloc | apply pw_below_drewN | apply below_drew1 | refine below_set ?_ GE287.out) | exact HB.out)))); (case aL => have := LMc3.out; omega); intro v289 w6 ho hb hg hat; rw [← Ny288.out] at ho; have n0_ := Aside0.mk (blk_grown (g := gb287) (o := .cells #[.int .i64 a1_0, .int .i64 a1_1, .int .i64 a1_2] 39 (0, 0)) (kb BK287.out) hg (by simp [Value.ownBlock])); have n1_ := Aside0.mk (hb); have n2_ := Aside0.mk (ho); clear BK287; clear HB; have BK287 := n0_; have HB := n1_; have HO290 := n2_; clear n0_ n1_ n2_; clear ho hb hg hat; obtain ⟨Ao7, co7, eo7⟩ := Kd.R_slice HO290.out; subst eo7; have hcz8_0 : w6.cell? ⟨gb287, 0, none⟩ = some (.int .i64 a1_0) := (blk_cell BK287.out 0).trans rfl; have hcz8_1 : w6.cell? ⟨gb287, 1, none⟩ = some (.int .i64 a1_1) := (blk_cell BK287.out 1).trans rfl; have hcz8_2 : w6.cell? ⟨gb287, 2, none⟩ = some (.int .i64 a1_2) := (blk_cell BK287.out 2).trans rfl; have hfz8_0 := blk_frozen BK287.out 0; have hfz8_1 := blk_frozen BK287.out 1; have hfz8_2 := blk_frozen BK287.out 2))
   go_ret
   exact ⟨_, by first | rfl | (simp [errW_none, errW_some] <;> rfl) | (simp [*, errW_none, errW_some] <;> rfl), by (with_reducible repeat (first | apply Kd.R_alloc | apply Kd.R_drewN | apply Kd.R_drew)); exact Kd.R_mono HO290.out (fun _ hk => trivial), by repeat (first | (with_reducible first | exact HB.out | apply below_alloc | apply pw_below_drewN | apply below_drew1 | refine below_set ?_ GE287.out) | exact HB.out)⟩
  ·rw [if_neg c4] at H
   have c4b0 : (a1_2 == 0) = false := beq_eq_false_iff_ne.mpr c4
   have c4b1 : (a1_2 != 0) = true := bne_iff_ne.mpr c4
   have HC9 := Aside0.mk H
   clear H
   go_enter Try.func53, Try.ntmps53
   go_upto_region 6 with (first | ((with_reducible refine gate_dst (N := 3) rfl ?_); refine box_event ?hg (N := 3) ?hd (cs := #[.int .i64 a1_0, .int .i64 a1_1, .int .i64 a1_2]) (t := 39) ?hr ?_; (case hd => rfl); (case hg => rfl); (case hr => first | (go_simp; done) | (go_simp; rfl)); intro gb287 hg w10 hbox hb; have n0_ := Aside0.mk (below_step (bw) hb); have n1_ := Aside0.mk (hbox); have n2_ := Aside0.mk ((by rw [hg]; exact (below_size (bw)) : w.heap.size ≤ gb287)); have n3_ := Aside0.mk ((by rw [hg]; exact (below_size (bw)) : w.heap.size ≤ gb287)); clear HB; have HB := n0_; have BK287 := n1_; have GW287 := n2_; have GE287 := n3_; clear n0_ n1_ n2_ n3_; clear hb hbox hg) | ((with_reducible refine gate_builtin (b := .append) (xs := #[.tmp 7, .tmp 8]) rfl ?_); at_builtin; refine Kd.R_append_rows k39 (w0 := w) w.heap.size rfl (.tmp 7) (.tmp 8) 22 39 (.agg #[(.int .i64 0), (.int .i64 0), (.int .i64 0)]) 24 rfl Try.underlying22 info39 rfl (by decide) (by omega) (.slice none 0 0) ([] : List (S39)) l0 _ _ _ (fun k_ => k_ ≠ gb287) (fun _ => False) rfl rfl ?aO ?aR (fun _ _ h => h) (fun _ h => h.elim) ?aF ?aB ?aS ?aL ?_; (case aR => repeat (first | exact (Kd.C_below HR0.out HB.out) | (with_reducible refine Kd.C_alloc ?_ _) | (with_reducible refine Kd.C_drewN ?_ _) | (with_reducible refine Kd.C_drew ?_))); (case aB => exact (by repeat (first | (with_reducible first | exact HB.out | apply below_alloc | apply pw_below_drewN | apply below_drew1 | refine below_set ?_ GE287.out) | exact HB.out))); (case aF => exact (fun k_ hk => Kd.freshB (g := gb287) (o := .cells #[.int .i64 a1_0, .int .i64 a1_1, .int .i64 a1_2] 39 (0, 0)) (kb BK287.out) k_ hk)); (case aO => exact ((Kd.R_nil _ _ _ _ (fun k_ => k_ ≠ gb287)))); (case aS => exact (below_size (by repeat (first | (with_reducible first | exact HB.out | apply below_alloc | apply pw_below_drewN | apply below_drew1 | refine below_set ?_ GE287.out) | exact HB.out)))); (case aL => have := LMc3.out; omega); intro v289 w11 ho hb hg hat; rw [← Ny288.out] at ho; have n0_ := Aside0.mk (blk_grown (g := gb287) (o := .cells #[.int .i64 a1_0, .int .i64 a1_1, .int .i64 a1_2] 39 (0, 0)) (kb BK287.out) hg (by simp [Value.ownBlock])); have n1_ := Aside0.mk (hb); have n2_ := Aside0.mk (ho); clear BK287; clear HB; have BK287 := n0_; have HB := n1_; have HO290 := n2_; clear n0_ n1_ n2_; clear ho hb hg hat; obtain ⟨Ao12, co12, eo12⟩ := Kd.R_slice HO290.out; subst eo12; have hcz13_0 : w11.cell? ⟨gb287, 0, none⟩ = some (.int .i64 a1_0) := (blk_cell BK287.out 0).trans rfl; have hcz13_1 : w11.cell? ⟨gb287, 1, none⟩ = some (.int .i64 a1_1) := (blk_cell BK287.out 1).trans rfl; have hcz13_2 : w11.cell? ⟨gb287, 2, none⟩ = some (.int .i64 a1_2) := (blk_cell BK287.out 2).trans rfl; have hfz13_0 := blk_frozen BK287.out 0; have hfz13_1 := blk_frozen BK287.out 1; have hfz13_2 := blk_frozen BK287.out 2))
   (try simp only [Act.put, List.setIfInBounds_toArray, List.set_cons_zero, List.set_cons_succ])
   go_cut [46] (fun v46 wc => ∃ (kq : Nat) (x46_8 : Bool), v46 = .bool x46_8 ∧ Aside0 (worldmintref14_Add.j0 kq y288 (y288.length : Int) x46_8 a1_0 a1_1 a1_2 = some r) ∧ Aside0 (kq ≤ k) ∧ Aside0 (Kd.R k39 39 wc w.heap.size (fun k_ => k_ ≠ gb287) (.slice Ao12 y288.length co12) y288) ∧ Aside0 (wc.heap[gb287]? = some (.cells #[.int .i64 a1_0, .int .i64 a1_1, .int .i64 a1_2] 39 (0, 0))) ∧ Aside0 (Below w.heap.size w wc))
   case first =>
    have H := HC9.out
    clear HC9
    by_cases c14 : (y288.length : Int) > 0
    ·rw [if_pos c14] at H
     have c14b0 : decide (0 < (y288.length : Int)) = true := decide_eq_true c14
     have c14b1 : decide (0 < y288.length) = true := decide_eq_true (by omega)
     clear c14
     (first | rw [c14b0] | (simp only [i64_w, i32_w]; rw [c14b0]) | skip)
     obtain ⟨ji15, hji15⟩ : ∃ j_ : Int, (wrap64 ((y288.length : Int) - 1)) = j_ := ⟨_, rfl⟩
     replace H : (if 0 ≤ (ji15) then (if (ji15) < (y288.length : Int) then (if ((rd_T39 y288 (ji15)).f0) = a1_0 then (worldmintref14_Add.j0 k y288 (y288.length : Int) ((wrap64 (((rd_T39 y288 (ji15)).f1) + ((rd_T39 y288 (ji15)).f2))) == a1_1) a1_0 a1_1 a1_2) else (worldmintref14_Add.j0 k y288 (y288.length : Int) false a1_0 a1_1 a1_2)) else (none)) else (none)) = some r := by first | (rw [hji15] at H; exact H) | (simp only [hji15] at H ⊢; exact H)
     have hji15w : (IntKind.i64.wrap ((y288.length : Int) - 1)) = ji15 := (i64_w _).trans hji15
     by_cases c16 : 0 ≤ (ji15)
     ·rw [if_pos c16] at H
      have c16b0 : decide (0 ≤ (ji15)) = true := decide_eq_true c16
      clear c16
      by_cases c17 : (ji15) < (y288.length : Int)
      ·rw [if_pos c17] at H
       have c17b0 : decide ((ji15) < (y288.length : Int)) = true := decide_eq_true c17
       clear c17
       by_cases c18 : ((rd_T39 y288 (ji15)).f0) = a1_0
       ·rw [if_pos c18] at H
        have c18b0 : (((rd_T39 y288 (ji15)).f0) == a1_0) = true := beq_iff_eq.mpr c18
        have c18b1 : (((rd_T39 y288 (ji15)).f0) != a1_0) = false := bne_eq_false_iff_eq.mpr c18
        clear c18
        have H' := Aside0.mk H
        clear H
        try go_wp2
        have n0_ := Aside0.mk (Kd.R_drew HO290.out)
        have n1_ := Aside0.mk (blk_drew BK287.out)
        have n2_ := Aside0.mk (below_drew1 HB.out)
        clear HO290
        clear BK287
        clear HB
        have HO290 := n0_
        have BK287 := n1_
        have HB := n2_
        clear n0_ n1_ n2_
        have p291 : 0 ≤ ((ji15) : Int) := oda
        have q291 : (ji15) < (y288.length : Int) := oda
        obtain ⟨ad291, e291, hx291_0, hx291_1, hx291_2⟩ := at_T39 (Kd.R_reads' HO290.out).2.2 (ji15) p291 q291
        cases e291
        replace p291 := eq_true p291
        replace q291 := eq_true q291
        have p292 : 0 ≤ ((ji15) : Int) := oda
        have q292 : (ji15) < (y288.length : Int) := oda
        obtain ⟨ad292, e292, hx292_0, hx292_1, hx292_2⟩ := at_T39 (Kd.R_reads' HO290.out).2.2 (ji15) p292 q292
        obtain rfl : ad291 = ad292 := (by injection e292)
        replace p292 := eq_true p292
        replace q292 := eq_true q292
        have p293 : 0 ≤ ((ji15) : Int) := oda
        have q293 : (ji15) < (y288.length : Int) := oda
        obtain ⟨ad293, e293, hx293_0, hx293_1, hx293_2⟩ := at_T39 (Kd.R_reads' HO290.out).2.2 (ji15) p293 q293
        obtain rfl : ad291 = ad293 := (by injection e293)
        replace p293 := eq_true p293
        replace q293 := eq_true q293
        refine start_ (n := 31) (S := fun w' => w'.cell? ⟨gb287, 0, none⟩ = some (.int .i64 a1_0) ∧ w'.cell? ⟨gb287, 1, none⟩ = some (.int .i64 a1_1) ∧ w'.cell? ⟨gb287, 2, none⟩ = some (.int .i64 a1_2) ∧ w'.cell? (ad291.add (((ji15)).toNat * 3)) = some (.int .i64 ((rd_T39 y288 (ji15)).f0)) ∧ w'.cell? ⟨(ad291.add (((ji15)).toNat * 3)).block, (ad291.add (((ji15)).toNat * 3)).off + 1, none⟩ = some (.int .i64 ((rd_T39 y288 (ji15)).f1)) ∧ w'.cell? ⟨(ad291.add (((ji15)).toNat * 3)).block, (ad291.add (((ji15)).toNat * 3)).off + 2, none⟩ = some (.int .i64 ((rd_T39 y288 (ji15)).f2)) ∧ w'.cell? (ad291.add (((ji15)).toNat * 3)) = some (.int .i64 ((rd_T39 y288 (ji15)).f0)) ∧ w'.cell? ⟨(ad291.add (((ji15)).toNat * 3)).block, (ad291.add (((ji15)).toNat * 3)).off + 1, none⟩ = some (.int .i64 ((rd_T39 y288 (ji15)).f1)) ∧ w'.cell? ⟨(ad291.add (((ji15)).toNat * 3)).block, (ad291.add (((ji15)).toNat * 3)).off + 2, none⟩ = some (.int .i64 ((rd_T39 y288 (ji15)).f2)) ∧ w'.cell? (ad291.add (((ji15)).toNat * 3)) = some (.int .i64 ((rd_T39 y288 (ji15)).f0)) ∧ w'.cell? ⟨(ad291.add (((ji15)).toNat * 3)).block, (ad291.add (((ji15)).toNat * 3)).off + 1, none⟩ = some (.int .i64 ((rd_T39 y288 (ji15)).f1)) ∧ w'.cell? ⟨(ad291.add (((ji15)).toNat * 3)).block, (ad291.add (((ji15)).toNat * 3)).off + 2, none⟩ = some (.int .i64 ((rd_T39 y288 (ji15)).f2))) (ds := []) (bs 31 0) (by kernel_rfl) rfl rfl ⟨(blk_cell BK287.out 0).trans rfl, (blk_cell BK287.out 1).trans rfl, (blk_cell BK287.out 2).trans rfl, hx291_0, hx291_1, hx291_2, hx292_0, hx292_1, hx292_2, hx293_0, hx293_1, hx293_2⟩ (fun hHeld => ?_); refine with_tabW worldmintref14_Add.tab6 worldmintref14_Add.bits6 (fun HT_ HW_ => ?_)
        generalize w11.drew = w19 at HO290 BK287 HB hx291_0 hx291_1 hx291_2 hx292_0 hx292_1 hx292_2 hx293_0 hx293_1 hx293_2 hHeld ⊢
        refine pu 0 16 (bs 31 1) HT_ ?_
        refine pu 1 17 (bs 31 3) HT_ ?_
        refine pu 2 18 (bs 31 7) HT_ ?_
        refine pu 3 19 (bs 31 15) HT_ ?_
        refine pu 4 20 (bs 31 31) HT_ ?_
        refine pu 5 21 (bs 31 63) HT_ ?_
        refine pu 6 22 (bs 31 127) HT_ ?_
        refine pu 7 23 (bs 31 255) HT_ ?_
        refine pu 9 25 (bs 31 767) HT_ ?_
        refine take_ (i := 8) (N := some 24) (v := ?_) (a' := ?_) (bs 31 1023) rfl rfl (take_ofW HT_.out HW_.out (by kernel_rfl)) (fun _ _ _ h => h) (Or.inl ⟨by rfl, ?_⟩) hHeld ?_ ?_
        rotate_left
        ·rintro w' ⟨s0, s1, s2, s3, s4, s5, s6, s7, s8, s9, s10, s11⟩
         go_simp
         with_reducible rfl
        rotate_left
        ·simp only [Act.put, List.setIfInBounds_toArray, List.set_cons_zero, List.set_cons_succ, i64_w, i32_w]
         rfl
        refine take_ (i := 10) (N := some 26) (v := ?_) (a' := ?_) (bs 31 2047) rfl rfl (take_ofW HT_.out HW_.out (by kernel_rfl)) (fun _ _ _ h => h) (Or.inl ⟨by rfl, ?_⟩) hHeld ?_ ?_
        rotate_left
        ·rintro w' ⟨s0, s1, s2, s3, s4, s5, s6, s7, s8, s9, s10, s11⟩
         go_simp
         with_reducible rfl
        rotate_left
        ·simp only [Act.put, List.setIfInBounds_toArray, List.set_cons_zero, List.set_cons_succ, i64_w, i32_w]
         rfl
        refine pu 11 27 (bs 31 4095) HT_ ?_
        refine pu 12 28 (bs 31 8191) HT_ ?_
        refine pu 13 29 (bs 31 16383) HT_ ?_
        refine pu 14 30 (bs 31 32767) HT_ ?_
        refine pu 15 31 (bs 31 65535) HT_ ?_
        refine pu 16 32 (bs 31 131071) HT_ ?_
        refine pu 17 33 (bs 31 262143) HT_ ?_
        refine pu 18 34 (bs 31 524287) HT_ ?_
        refine pu 20 36 (bs 31 1572863) HT_ ?_
        refine pu 21 37 (bs 31 3670015) HT_ ?_
        refine pu 22 38 (bs 31 7864319) HT_ ?_
        refine pu 23 39 (bs 31 16252927) HT_ ?_
        refine pu 24 40 (bs 31 33030143) HT_ ?_
        refine pu 27 43 (bs 31 167247871) HT_ ?_
        refine take_ (i := 19) (N := some 35) (v := ?_) (a' := ?_) (bs 31 167772159) rfl rfl (take_ofW HT_.out HW_.out (by kernel_rfl)) (fun _ _ _ h => h) (Or.inl ⟨by rfl, ?_⟩) hHeld ?_ ?_
        rotate_left
        ·rintro w' ⟨s0, s1, s2, s3, s4, s5, s6, s7, s8, s9, s10, s11⟩
         go_simp
         with_reducible rfl
        rotate_left
        ·simp only [Act.put, List.setIfInBounds_toArray, List.set_cons_zero, List.set_cons_succ, i64_w, i32_w]
         rfl
        refine take_ (i := 25) (N := some 41) (v := ?_) (a' := ?_) (bs 31 201326591) rfl rfl (take_ofW HT_.out HW_.out (by kernel_rfl)) (fun _ _ _ h => h) (Or.inl ⟨by rfl, ?_⟩) hHeld ?_ ?_
        rotate_left
        ·rintro w' ⟨s0, s1, s2, s3, s4, s5, s6, s7, s8, s9, s10, s11⟩
         go_simp
         with_reducible rfl
        rotate_left
        ·simp only [Act.put, List.setIfInBounds_toArray, List.set_cons_zero, List.set_cons_succ, i64_w, i32_w]
         rfl
        refine pu 26 42 (bs 31 268435455) HT_ ?_
        refine take_ (i := 28) (N := some 44) (v := ?_) (a' := ?_) (bs 31 536870911) rfl rfl (take_ofW HT_.out HW_.out (by kernel_rfl)) (fun _ _ _ h => h) (Or.inl ⟨by rfl, ?_⟩) hHeld ?_ ?_
        rotate_left
        ·rintro w' ⟨s0, s1, s2, s3, s4, s5, s6, s7, s8, s9, s10, s11⟩
         go_simp
         with_reducible rfl
        rotate_left
        ·simp only [Act.put, List.setIfInBounds_toArray, List.set_cons_zero, List.set_cons_succ, i64_w, i32_w]
         rfl
        refine pu 29 45 (bs 31 1073741823) HT_ ?_
        refine pu 30 46 (bs 31 2147483647) HT_ ?_
        refine done_ (done_of HT_.out (by kernel_rfl)) ?_
        try go_wp2
        go_meet
        case rel => exact ⟨_, (((wrap64 (((rd_T39 y288 (ji15)).f1) + ((rd_T39 y288 (ji15)).f2))) == a1_1)), (by first | rfl | (simp only [i64_w]; done) | (simp; done) | (simp only [← hji15] <;> (first | rfl | (simp only [i64_w]; done) | simp)) | (simp [*]; done)), H', ⟨by first | omega | exact Nat.le_refl _⟩, ⟨kr HO290.out⟩, ⟨kb BK287.out⟩, ⟨by repeat (first | (with_reducible first | exact HB.out | apply below_alloc | apply pw_below_drewN | apply below_drew1 | refine below_set ?_ GE287.out) | exact HB.out)⟩⟩
       ·rw [if_neg c18] at H
        have c18b0 : (((rd_T39 y288 (ji15)).f0) == a1_0) = false := beq_eq_false_iff_ne.mpr c18
        have c18b1 : (((rd_T39 y288 (ji15)).f0) != a1_0) = true := bne_iff_ne.mpr c18
        have H' := Aside0.mk H
        clear H
        try go_wp2
        have n0_ := Aside0.mk (Kd.R_drew HO290.out)
        have n1_ := Aside0.mk (blk_drew BK287.out)
        have n2_ := Aside0.mk (below_drew1 HB.out)
        clear HO290
        clear BK287
        clear HB
        have HO290 := n0_
        have BK287 := n1_
        have HB := n2_
        clear n0_ n1_ n2_
        have p291 : 0 ≤ ((ji15) : Int) := oda
        have q291 : (ji15) < (y288.length : Int) := oda
        obtain ⟨ad291, e291, hx291_0, hx291_1, hx291_2⟩ := at_T39 (Kd.R_reads' HO290.out).2.2 (ji15) p291 q291
        cases e291
        replace p291 := eq_true p291
        replace q291 := eq_true q291
        refine start_ (n := 31) (S := fun w' => w'.cell? ⟨gb287, 0, none⟩ = some (.int .i64 a1_0) ∧ w'.cell? ⟨gb287, 1, none⟩ = some (.int .i64 a1_1) ∧ w'.cell? ⟨gb287, 2, none⟩ = some (.int .i64 a1_2) ∧ w'.cell? (ad291.add (((ji15)).toNat * 3)) = some (.int .i64 ((rd_T39 y288 (ji15)).f0)) ∧ w'.cell? ⟨(ad291.add (((ji15)).toNat * 3)).block, (ad291.add (((ji15)).toNat * 3)).off + 1, none⟩ = some (.int .i64 ((rd_T39 y288 (ji15)).f1)) ∧ w'.cell? ⟨(ad291.add (((ji15)).toNat * 3)).block, (ad291.add (((ji15)).toNat * 3)).off + 2, none⟩ = some (.int .i64 ((rd_T39 y288 (ji15)).f2))) (ds := []) (bs 31 0) (by kernel_rfl) rfl rfl ⟨(blk_cell BK287.out 0).trans rfl, (blk_cell BK287.out 1).trans rfl, (blk_cell BK287.out 2).trans rfl, hx291_0, hx291_1, hx291_2⟩ (fun hHeld => ?_); refine with_tabW worldmintref14_Add.tab6 worldmintref14_Add.bits6 (fun HT_ HW_ => ?_)
        generalize w11.drew = w20 at HO290 BK287 HB hx291_0 hx291_1 hx291_2 hHeld ⊢
        refine pu 0 16 (bs 31 1) HT_ ?_
        refine pu 1 17 (bs 31 3) HT_ ?_
        refine pu 2 18 (bs 31 7) HT_ ?_
        refine pu 3 19 (bs 31 15) HT_ ?_
        refine pu 4 20 (bs 31 31) HT_ ?_
        refine pu 5 21 (bs 31 63) HT_ ?_
        refine pu 6 22 (bs 31 127) HT_ ?_
        refine pu 7 23 (bs 31 255) HT_ ?_
        refine pu 9 25 (bs 31 767) HT_ ?_
        refine take_ (i := 8) (N := some 24) (v := ?_) (a' := ?_) (bs 31 1023) rfl rfl (take_ofW HT_.out HW_.out (by kernel_rfl)) (fun _ _ _ h => h) (Or.inl ⟨by rfl, ?_⟩) hHeld ?_ ?_
        rotate_left
        ·rintro w' ⟨s0, s1, s2, s3, s4, s5⟩
         go_simp
         with_reducible rfl
        rotate_left
        ·simp only [Act.put, List.setIfInBounds_toArray, List.set_cons_zero, List.set_cons_succ, i64_w, i32_w]
         rfl
        refine take_ (i := 10) (N := some 26) (v := ?_) (a' := ?_) (bs 31 2047) rfl rfl (take_ofW HT_.out HW_.out (by kernel_rfl)) (fun _ _ _ h => h) (Or.inl ⟨by rfl, ?_⟩) hHeld ?_ ?_
        rotate_left
        ·rintro w' ⟨s0, s1, s2, s3, s4, s5⟩
         go_simp
         with_reducible rfl
        rotate_left
        ·simp only [Act.put, List.setIfInBounds_toArray, List.set_cons_zero, List.set_cons_succ, i64_w, i32_w]
         rfl
        refine pu 11 27 (bs 31 4095) HT_ ?_
        refine pu 12 28 (bs 31 8191) HT_ ?_
        refine pu 13 29 (bs 31 16383) HT_ ?_
        refine pure_ (i := 14) (N := some 30) (v := undef) (a' := ?_) (bs 31 32767) rfl rfl (any_of HT_.out (by kernel_rfl)) (fun _ _ _ h => h) (Or.inr ⟨by rfl, rfl⟩) ?_ ?_
        rotate_left
        ·simp only [Act.put, List.setIfInBounds_toArray, List.set_cons_zero, List.set_cons_succ, i64_w, i32_w]
         rfl
        refine pure_ (i := 15) (N := some 31) (v := undef) (a' := ?_) (bs 31 65535) rfl rfl (any_of HT_.out (by kernel_rfl)) (fun _ _ _ h => h) (Or.inr ⟨by rfl, rfl⟩) ?_ ?_
        rotate_left
        ·simp only [Act.put, List.setIfInBounds_toArray, List.set_cons_zero, List.set_cons_succ, i64_w, i32_w]
         rfl
        refine pure_ (i := 16) (N := some 32) (v := undef) (a' := ?_) (bs 31 131071) rfl rfl (any_of HT_.out (by kernel_rfl)) (fun _ _ _ h => h) (Or.inr ⟨by rfl, rfl⟩) ?_ ?_
        rotate_left
        ·simp only [Act.put, List.setIfInBounds_toArray, List.set_cons_zero, List.set_cons_succ, i64_w, i32_w]
         rfl
        refine pure_ (i := 17) (N := some 33) (v := undef) (a' := ?_) (bs 31 262143) rfl rfl (any_of HT_.out (by kernel_rfl)) (fun _ _ _ h => h) (Or.inr ⟨by rfl, rfl⟩) ?_ ?_
        rotate_left
        ·simp only [Act.put, List.setIfInBounds_toArray, List.set_cons_zero, List.set_cons_succ, i64_w, i32_w]
         rfl
        refine pure_ (i := 18) (N := some 34) (v := undef) (a' := ?_) (bs 31 524287) rfl rfl (any_of HT_.out (by kernel_rfl)) (fun _ _ _ h => h) (Or.inr ⟨by rfl, rfl⟩) ?_ ?_
        rotate_left
        ·simp only [Act.put, List.setIfInBounds_toArray, List.set_cons_zero, List.set_cons_succ, i64_w, i32_w]
         rfl
        refine pure_ (i := 19) (N := some 35) (v := undef) (a' := ?_) (bs 31 1048575) rfl rfl (any_of HT_.out (by kernel_rfl)) (fun _ _ _ h => h) (Or.inr ⟨by rfl, rfl⟩) ?_ ?_
        rotate_left
        ·simp only [Act.put, List.setIfInBounds_toArray, List.set_cons_zero, List.set_cons_succ, i64_w, i32_w]
         rfl
        refine pure_ (i := 20) (N := some 36) (v := undef) (a' := ?_) (bs 31 2097151) rfl rfl (any_of HT_.out (by kernel_rfl)) (fun _ _ _ h => h) (Or.inr ⟨by rfl, rfl⟩) ?_ ?_
        rotate_left
        ·simp only [Act.put, List.setIfInBounds_toArray, List.set_cons_zero, List.set_cons_succ, i64_w, i32_w]
         rfl
        refine pure_ (i := 21) (N := some 37) (v := undef) (a' := ?_) (bs 31 4194303) rfl rfl (any_of HT_.out (by kernel_rfl)) (fun _ _ _ h => h) (Or.inr ⟨by rfl, rfl⟩) ?_ ?_
        rotate_left
        ·simp only [Act.put, List.setIfInBounds_toArray, List.set_cons_zero, List.set_cons_succ, i64_w, i32_w]
         rfl
        refine pure_ (i := 22) (N := some 38) (v := undef) (a' := ?_) (bs 31 8388607) rfl rfl (any_of HT_.out (by kernel_rfl)) (fun _ _ _ h => h) (Or.inr ⟨by rfl, rfl⟩) ?_ ?_
        rotate_left
        ·simp only [Act.put, List.setIfInBounds_toArray, List.set_cons_zero, List.set_cons_succ, i64_w, i32_w]
         rfl
        refine pure_ (i := 23) (N := some 39) (v := undef) (a' := ?_) (bs 31 16777215) rfl rfl (any_of HT_.out (by kernel_rfl)) (fun _ _ _ h => h) (Or.inr ⟨by rfl, rfl⟩) ?_ ?_
        rotate_left
        ·simp only [Act.put, List.setIfInBounds_toArray, List.set_cons_zero, List.set_cons_succ, i64_w, i32_w]
         rfl
        refine pure_ (i := 24) (N := some 40) (v := undef) (a' := ?_) (bs 31 33554431) rfl rfl (any_of HT_.out (by kernel_rfl)) (fun _ _ _ h => h) (Or.inr ⟨by rfl, rfl⟩) ?_ ?_
        rotate_left
        ·simp only [Act.put, List.setIfInBounds_toArray, List.set_cons_zero, List.set_cons_succ, i64_w, i32_w]
         rfl
        refine pure_ (i := 25) (N := some 41) (v := undef) (a' := ?_) (bs 31 67108863) rfl rfl (any_of HT_.out (by kernel_rfl)) (fun _ _ _ h => h) (Or.inr ⟨by rfl, rfl⟩) ?_ ?_
        rotate_left
        ·simp only [Act.put, List.setIfInBounds_toArray, List.set_cons_zero, List.set_cons_succ, i64_w, i32_w]
         rfl
        refine pure_ (i := 26) (N := some 42) (v := undef) (a' := ?_) (bs 31 134217727) rfl rfl (any_of HT_.out (by kernel_rfl)) (fun _ _ _ h => h) (Or.inr ⟨by rfl, rfl⟩) ?_ ?_
        rotate_left
        ·simp only [Act.put, List.setIfInBounds_toArray, List.set_cons_zero, List.set_cons_succ, i64_w, i32_w]
         rfl
        refine pure_ (i := 27) (N := some 43) (v := undef) (a' := ?_) (bs 31 268435455) rfl rfl (any_of HT_.out (by kernel_rfl)) (fun _ _ _ h => h) (Or.inr ⟨by rfl, rfl⟩) ?_ ?_
        rotate_left
        ·simp only [Act.put, List.setIfInBounds_toArray, List.set_cons_zero, List.set_cons_succ, i64_w, i32_w]
         rfl
        refine pure_ (i := 28) (N := some 44) (v := undef) (a' := ?_) (bs 31 536870911) rfl rfl (any_of HT_.out (by kernel_rfl)) (fun _ _ _ h => h) (Or.inr ⟨by rfl, rfl⟩) ?_ ?_
        rotate_left
        ·simp only [Act.put, List.setIfInBounds_toArray, List.set_cons_zero, List.set_cons_succ, i64_w, i32_w]
         rfl
        refine pure_ (i := 29) (N := some 45) (v := undef) (a' := ?_) (bs 31 1073741823) rfl rfl (any_of HT_.out (by kernel_rfl)) (fun _ _ _ h => h) (Or.inr ⟨by rfl, rfl⟩) ?_ ?_
        rotate_left
        ·simp only [Act.put, List.setIfInBounds_toArray, List.set_cons_zero, List.set_cons_succ, i64_w, i32_w]
         rfl
        refine pu 30 46 (bs 31 2147483647) HT_ ?_
        refine done_ (done_of HT_.out (by kernel_rfl)) ?_
        try go_wp2
        go_meet
        case rel => exact ⟨_, (false), eqs, H', ⟨by first | omega | exact Nat.le_refl _⟩, ⟨kr HO290.out⟩, ⟨kb BK287.out⟩, ⟨by repeat (first | (with_reducible first | exact HB.out | apply below_alloc | apply pw_below_drewN | apply below_drew1 | refine below_set ?_ GE287.out) | exact HB.out)⟩⟩
      ·rw [if_neg c17] at H
       exact absurd H (by simp)
     ·rw [if_neg c16] at H
      exact absurd H (by simp)
    ·rw [if_neg c14] at H
     have c14b0 : decide (0 < (y288.length : Int)) = false := decide_eq_false c14
     have c14b1 : decide (0 < y288.length) = false := decide_eq_false (by omega)
     clear c14
     (first | rw [c14b0] | (simp only [i64_w, i32_w]; rw [c14b0]) | skip)
     have H' := Aside0.mk H
     clear H
     try go_wp2
     have n0_ := Aside0.mk (Kd.R_drew HO290.out)
     have n1_ := Aside0.mk (blk_drew BK287.out)
     have n2_ := Aside0.mk (below_drew1 HB.out)
     clear HO290
     clear BK287
     clear HB
     have HO290 := n0_
     have BK287 := n1_
     have HB := n2_
     clear n0_ n1_ n2_
     refine start_ (n := 31) (S := fun w' => True) (ds := []) (bs 31 0) (by kernel_rfl) rfl rfl trivial (fun hHeld => ?_); refine with_tabW worldmintref14_Add.tab6 worldmintref14_Add.bits6 (fun HT_ HW_ => ?_)
     generalize w11.drew = w21 at HO290 BK287 HB hHeld ⊢
     refine pu 0 16 (bs 31 1) HT_ ?_
     refine pu 1 17 (bs 31 3) HT_ ?_
     refine pu 2 18 (bs 31 7) HT_ ?_
     refine pure_ (i := 3) (N := some 19) (v := undef) (a' := ?_) (bs 31 15) rfl rfl (any_of HT_.out (by kernel_rfl)) (fun _ _ _ h => h) (Or.inr ⟨by rfl, rfl⟩) ?_ ?_
     rotate_left
     ·simp only [Act.put, List.setIfInBounds_toArray, List.set_cons_zero, List.set_cons_succ, i64_w, i32_w]
      rfl
     refine pure_ (i := 4) (N := some 20) (v := undef) (a' := ?_) (bs 31 31) rfl rfl (any_of HT_.out (by kernel_rfl)) (fun _ _ _ h => h) (Or.inr ⟨by rfl, rfl⟩) ?_ ?_
     rotate_left
     ·simp only [Act.put, List.setIfInBounds_toArray, List.set_cons_zero, List.set_cons_succ, i64_w, i32_w]
      rfl
     refine pure_ (i := 5) (N := some 21) (v := undef) (a' := ?_) (bs 31 63) rfl rfl (any_of HT_.out (by kernel_rfl)) (fun _ _ _ h => h) (Or.inr ⟨by rfl, rfl⟩) ?_ ?_
     rotate_left
     ·simp only [Act.put, List.setIfInBounds_toArray, List.set_cons_zero, List.set_cons_succ, i64_w, i32_w]
      rfl
     refine pure_ (i := 6) (N := some 22) (v := undef) (a' := ?_) (bs 31 127) rfl rfl (any_of HT_.out (by kernel_rfl)) (fun _ _ _ h => h) (Or.inr ⟨by rfl, rfl⟩) ?_ ?_
     rotate_left
     ·simp only [Act.put, List.setIfInBounds_toArray, List.set_cons_zero, List.set_cons_succ, i64_w, i32_w]
      rfl
     refine pure_ (i := 7) (N := some 23) (v := undef) (a' := ?_) (bs 31 255) rfl rfl (any_of HT_.out (by kernel_rfl)) (fun _ _ _ h => h) (Or.inr ⟨by rfl, rfl⟩) ?_ ?_
     rotate_left
     ·simp only [Act.put, List.setIfInBounds_toArray, List.set_cons_zero, List.set_cons_succ, i64_w, i32_w]
      rfl
     refine pure_ (i := 8) (N := some 24) (v := undef) (a' := ?_) (bs 31 511) rfl rfl (any_of HT_.out (by kernel_rfl)) (fun _ _ _ h => h) (Or.inr ⟨by rfl, rfl⟩) ?_ ?_
     rotate_left
     ·simp only [Act.put, List.setIfInBounds_toArray, List.set_cons_zero, List.set_cons_succ, i64_w, i32_w]
      rfl
     refine pure_ (i := 9) (N := some 25) (v := undef) (a' := ?_) (bs 31 1023) rfl rfl (any_of HT_.out (by kernel_rfl)) (fun _ _ _ h => h) (Or.inr ⟨by rfl, rfl⟩) ?_ ?_
     rotate_left
     ·simp only [Act.put, List.setIfInBounds_toArray, List.set_cons_zero, List.set_cons_succ, i64_w, i32_w]
      rfl
     refine pure_ (i := 10) (N := some 26) (v := undef) (a' := ?_) (bs 31 2047) rfl rfl (any_of HT_.out (by kernel_rfl)) (fun _ _ _ h => h) (Or.inr ⟨by rfl, rfl⟩) ?_ ?_
     rotate_left
     ·simp only [Act.put, List.setIfInBounds_toArray, List.set_cons_zero, List.set_cons_succ, i64_w, i32_w]
      rfl
     refine pure_ (i := 11) (N := some 27) (v := undef) (a' := ?_) (bs 31 4095) rfl rfl (any_of HT_.out (by kernel_rfl)) (fun _ _ _ h => h) (Or.inr ⟨by rfl, rfl⟩) ?_ ?_
     rotate_left
     ·simp only [Act.put, List.setIfInBounds_toArray, List.set_cons_zero, List.set_cons_succ, i64_w, i32_w]
      rfl
     refine pu 12 28 (bs 31 8191) HT_ ?_
     refine pu 13 29 (bs 31 16383) HT_ ?_
     refine pure_ (i := 14) (N := some 30) (v := undef) (a' := ?_) (bs 31 32767) rfl rfl (any_of HT_.out (by kernel_rfl)) (fun _ _ _ h => h) (Or.inr ⟨by rfl, rfl⟩) ?_ ?_
     rotate_left
     ·simp only [Act.put, List.setIfInBounds_toArray, List.set_cons_zero, List.set_cons_succ, i64_w, i32_w]
      rfl
     refine pure_ (i := 15) (N := some 31) (v := undef) (a' := ?_) (bs 31 65535) rfl rfl (any_of HT_.out (by kernel_rfl)) (fun _ _ _ h => h) (Or.inr ⟨by rfl, rfl⟩) ?_ ?_
     rotate_left
     ·simp only [Act.put, List.setIfInBounds_toArray, List.set_cons_zero, List.set_cons_succ, i64_w, i32_w]
      rfl
     refine pure_ (i := 16) (N := some 32) (v := undef) (a' := ?_) (bs 31 131071) rfl rfl (any_of HT_.out (by kernel_rfl)) (fun _ _ _ h => h) (Or.inr ⟨by rfl, rfl⟩) ?_ ?_
     rotate_left
     ·simp only [Act.put, List.setIfInBounds_toArray, List.set_cons_zero, List.set_cons_succ, i64_w, i32_w]
      rfl
     refine pure_ (i := 17) (N := some 33) (v := undef) (a' := ?_) (bs 31 262143) rfl rfl (any_of HT_.out (by kernel_rfl)) (fun _ _ _ h => h) (Or.inr ⟨by rfl, rfl⟩) ?_ ?_
     rotate_left
     ·simp only [Act.put, List.setIfInBounds_toArray, List.set_cons_zero, List.set_cons_succ, i64_w, i32_w]
      rfl
     refine pure_ (i := 18) (N := some 34) (v := undef) (a' := ?_) (bs 31 524287) rfl rfl (any_of HT_.out (by kernel_rfl)) (fun _ _ _ h => h) (Or.inr ⟨by rfl, rfl⟩) ?_ ?_
     rotate_left
     ·simp only [Act.put, List.setIfInBounds_toArray, List.set_cons_zero, List.set_cons_succ, i64_w, i32_w]
      rfl
     refine pure_ (i := 19) (N := some 35) (v := undef) (a' := ?_) (bs 31 1048575) rfl rfl (any_of HT_.out (by kernel_rfl)) (fun _ _ _ h => h) (Or.inr ⟨by rfl, rfl⟩) ?_ ?_
     rotate_left
     ·simp only [Act.put, List.setIfInBounds_toArray, List.set_cons_zero, List.set_cons_succ, i64_w, i32_w]
      rfl
     refine pure_ (i := 20) (N := some 36) (v := undef) (a' := ?_) (bs 31 2097151) rfl rfl (any_of HT_.out (by kernel_rfl)) (fun _ _ _ h => h) (Or.inr ⟨by rfl, rfl⟩) ?_ ?_
     rotate_left
     ·simp only [Act.put, List.setIfInBounds_toArray, List.set_cons_zero, List.set_cons_succ, i64_w, i32_w]
      rfl
     refine pure_ (i := 21) (N := some 37) (v := undef) (a' := ?_) (bs 31 4194303) rfl rfl (any_of HT_.out (by kernel_rfl)) (fun _ _ _ h => h) (Or.inr ⟨by rfl, rfl⟩) ?_ ?_
     rotate_left
     ·simp only [Act.put, List.setIfInBounds_toArray, List.set_cons_zero, List.set_cons_succ, i64_w, i32_w]
      rfl
     refine pure_ (i := 22) (N := some 38) (v := undef) (a' := ?_) (bs 31 8388607) rfl rfl (any_of HT_.out (by kernel_rfl)) (fun _ _ _ h => h) (Or.inr ⟨by rfl, rfl⟩) ?_ ?_
     rotate_left
     ·simp only [Act.put, List.setIfInBounds_toArray, List.set_cons_zero, List.set_cons_succ, i64_w, i32_w]
      rfl
     refine pure_ (i := 23) (N := some 39) (v := undef) (a' := ?_) (bs 31 16777215) rfl rfl (any_of HT_.out (by kernel_rfl)) (fun _ _ _ h => h) (Or.inr ⟨by rfl, rfl⟩) ?_ ?_
     rotate_left
     ·simp only [Act.put, List.setIfInBounds_toArray, List.set_cons_zero, List.set_cons_succ, i64_w, i32_w]
      rfl
     refine pure_ (i := 24) (N := some 40) (v := undef) (a' := ?_) (bs 31 33554431) rfl rfl (any_of HT_.out (by kernel_rfl)) (fun _ _ _ h => h) (Or.inr ⟨by rfl, rfl⟩) ?_ ?_
     rotate_left
     ·simp only [Act.put, List.setIfInBounds_toArray, List.set_cons_zero, List.set_cons_succ, i64_w, i32_w]
      rfl
     refine pure_ (i := 25) (N := some 41) (v := undef) (a' := ?_) (bs 31 67108863) rfl rfl (any_of HT_.out (by kernel_rfl)) (fun _ _ _ h => h) (Or.inr ⟨by rfl, rfl⟩) ?_ ?_
     rotate_left
     ·simp only [Act.put, List.setIfInBounds_toArray, List.set_cons_zero, List.set_cons_succ, i64_w, i32_w]
      rfl
     refine pure_ (i := 26) (N := some 42) (v := undef) (a' := ?_) (bs 31 134217727) rfl rfl (any_of HT_.out (by kernel_rfl)) (fun _ _ _ h => h) (Or.inr ⟨by rfl, rfl⟩) ?_ ?_
     rotate_left
     ·simp only [Act.put, List.setIfInBounds_toArray, List.set_cons_zero, List.set_cons_succ, i64_w, i32_w]
      rfl
     refine pure_ (i := 27) (N := some 43) (v := undef) (a' := ?_) (bs 31 268435455) rfl rfl (any_of HT_.out (by kernel_rfl)) (fun _ _ _ h => h) (Or.inr ⟨by rfl, rfl⟩) ?_ ?_
     rotate_left
     ·simp only [Act.put, List.setIfInBounds_toArray, List.set_cons_zero, List.set_cons_succ, i64_w, i32_w]
      rfl
     refine pure_ (i := 28) (N := some 44) (v := undef) (a' := ?_) (bs 31 536870911) rfl rfl (any_of HT_.out (by kernel_rfl)) (fun _ _ _ h => h) (Or.inr ⟨by rfl, rfl⟩) ?_ ?_
     rotate_left
     ·simp only [Act.put, List.setIfInBounds_toArray, List.set_cons_zero, List.set_cons_succ, i64_w, i32_w]
      rfl
     refine pure_ (i := 29) (N := some 45) (v := undef) (a' := ?_) (bs 31 1073741823) rfl rfl (any_of HT_.out (by kernel_rfl)) (fun _ _ _ h => h) (Or.inr ⟨by rfl, rfl⟩) ?_ ?_
     rotate_left
     ·simp only [Act.put, List.setIfInBounds_toArray, List.set_cons_zero, List.set_cons_succ, i64_w, i32_w]
      rfl
     refine pu 30 46 (bs 31 2147483647) HT_ ?_
     refine done_ (done_of HT_.out (by kernel_rfl)) ?_
     try go_wp2
     go_meet
     case rel => exact ⟨_, (false), eqs, H', ⟨by first | omega | exact Nat.le_refl _⟩, ⟨kr HO290.out⟩, ⟨kb BK287.out⟩, ⟨by repeat (first | (with_reducible first | exact HB.out | apply below_alloc | apply pw_below_drewN | apply below_drew1 | refine below_set ?_ GE287.out) | exact HB.out)⟩⟩
   case rest =>
    clear HC9
    try clear c14
    try clear c14b0
    try clear c14b1
    try clear c16
    try clear c17
    try clear c18
    try clear c18b0
    try clear c18b1
    try clear hx291_0
    try clear hx291_1
    try clear hx291_2
    try clear p291
    try clear q291
    obtain ⟨kq, x46_8, rfl, HA, HJ8, HO_5, BK287, HB⟩ := hcut
    cases kq with
    | zero => exact absurd HA.out (by simp [worldmintref14_Add.j0])
    | succ kj8 =>
     have H := HA.out
     clear HA
     simp only [worldmintref14_Add.j0] at H
     by_cases c22 : x46_8 = true
     ·subst c22
      have H1 : (if 0 ≤ (wrap64 ((y288.length : Int) - 1)) then (if (wrap64 ((y288.length : Int) - 1)) < (y288.length : Int) then (some (y288.set ((wrap64 ((y288.length : Int) - 1)) : Int).toNat (⟨(rd_T39 y288 (wrap64 ((y288.length : Int) - 1))).f0, (rd_T39 y288 (wrap64 ((y288.length : Int) - 1))).f1, wrap64 (((rd_T39 y288 (wrap64 ((y288.length : Int) - 1))).f2) + a1_2)⟩ : S39))) else (none)) else (none)) = some r := by rw [if_pos rfl] at H; exact H
      clear H
      have H := H1
      clear H1
      obtain ⟨ji23, hji23⟩ : ∃ j_ : Int, (wrap64 ((y288.length : Int) - 1)) = j_ := ⟨_, rfl⟩
      replace H : (if 0 ≤ (ji23) then (if (ji23) < (y288.length : Int) then (some (y288.set ((ji23) : Int).toNat (⟨(rd_T39 y288 (ji23)).f0, (rd_T39 y288 (ji23)).f1, wrap64 (((rd_T39 y288 (ji23)).f2) + a1_2)⟩ : S39))) else (none)) else (none)) = some r := by first | (rw [hji23] at H; exact H) | (simp only [hji23] at H ⊢; exact H)
      have hji23w : (IntKind.i64.wrap ((y288.length : Int) - 1)) = ji23 := (i64_w _).trans hji23
      by_cases c24 : 0 ≤ (ji23)
      ·rw [if_pos c24] at H
       have c24b0 : decide (0 ≤ (ji23)) = true := decide_eq_true c24
       clear c24
       by_cases c25 : (ji23) < (y288.length : Int)
       ·rw [if_pos c25] at H
        have c25b0 : decide ((ji23) < (y288.length : Int)) = true := decide_eq_true c25
        clear c25
        obtain ⟨y295, hy295⟩ : ∃ y_ : List (S39), y_ = (y288.set ((ji23) : Int).toNat (⟨(rd_T39 y288 (ji23)).f0, (rd_T39 y288 (ji23)).f1, wrap64 (((rd_T39 y288 (ji23)).f2) + a1_2)⟩ : S39)) := ⟨_, rfl⟩
        replace H : (some y295) = some r := by first | (rw [hy295]; with_reducible exact H) | (have H2_ := (Option.bind_some _ _).symm.trans H; rw [hy295]; with_reducible exact H2_) | (have H2_ := (Option.bind_some _ _).symm.trans H; with_reducible exact H2_) | with_reducible exact H | (rw [hy295]; exact H) | exact H
        have Ny295 := Aside0.mk hy295
        clear hy295
        obtain rfl := Option.some.inj H
        try go_wp2
        have n0_ := Aside0.mk (Kd.R_drew HO_5.out)
        have n1_ := Aside0.mk (blk_drew BK287.out)
        have n2_ := Aside0.mk (below_drew1 HB.out)
        clear HO_5
        clear BK287
        clear HB
        have HO_5 := n0_
        have BK287 := n1_
        have HB := n2_
        clear n0_ n1_ n2_
        have p294 : 0 ≤ ((ji23) : Int) := oda
        have q294 : (ji23) < (y288.length : Int) := oda
        obtain ⟨ad294, e294, hx294_0, hx294_1, hx294_2⟩ := at_T39 (Kd.R_reads' HO_5.out).2.2 (ji23) p294 q294
        cases e294
        replace p294 := eq_true p294
        replace q294 := eq_true q294
        have p26 : 0 ≤ ((ji23) : Int) := oda
        have q26 : ((ji23) : Int) < ((y288.length : Int) : Int) := oda
        obtain ⟨go26, co26, eo26, gb26, gl26, cl26, HG26⟩ := Kd.R_form HO_5.out (by omega)
        (first | cases eo26 | (injection eo26 with ea_ en_ ec_; (first | subst ea_ | (injection ea_ with ea_; subst ea_)); subst ec_; clear en_))
        have GB26 := Aside0.mk gb26
        have GG26 := Aside0.mk HG26
        clear gb26 gl26 HG26
        (first | simp only [add_plain] at hx294_0 | skip)
        (first | simp only [add_plain] at hx294_1 | skip)
        (first | simp only [add_plain] at hx294_2 | skip)
        obtain ⟨ce26, hcl26, hM26, hcc26, hfr26⟩ := Kd.R_elem HO_5.out z39 ((ji23) : Int) p26 q26
        obtain rfl := k39_openM hM26
        have hx26_0 : World.cell? _ ⟨go26, ((ji23) : Int).toNat * 3, none⟩ = some (.int .i64 ((rd_T39 y288 (ji23)).f0)) := hcc26 0 _ rfl
        have hx26_1 : World.cell? _ ⟨go26, ((ji23) : Int).toNat * 3 + 1, none⟩ = some (.int .i64 ((rd_T39 y288 (ji23)).f1)) := hcc26 1 _ rfl
        have hx26_2 : World.cell? _ ⟨go26, ((ji23) : Int).toNat * 3 + 2, none⟩ = some (.int .i64 ((rd_T39 y288 (ji23)).f2)) := hcc26 2 _ rfl
        have hf26_0 : World.frozen? _ ⟨go26, ((ji23) : Int).toNat * 3, none⟩ = false := hfr26 0
        have hf26_1 : World.frozen? _ ⟨go26, ((ji23) : Int).toNat * 3 + 1, none⟩ = false := hfr26 1
        have hf26_2 : World.frozen? _ ⟨go26, ((ji23) : Int).toNat * 3 + 2, none⟩ = false := hfr26 2
        clear hcl26 hcc26 hfr26 hM26
        replace p26 := eq_true p26
        replace q26 := eq_true q26
        obtain ⟨ce28, hcl28, hM28, hcc28, hfr28⟩ := Kd.R_elem HO_5.out z39 ((ji23) : Int) (oda) (by have h_ : ((ji23) : Int) < ((y288.length : Int) : Int) := oda; first | exact h_ | (have e_ := (Kd.R_reads' HO_5.out).1; omega) | simpa using h_)
        obtain rfl := k39_openM hM28
        have HP28 := (Kd.R_seg HO_5.out ((ji23) : Int) (oda) (by have h_ : ((ji23) : Int) < ((y288.length : Int) : Int) := oda; first | exact h_ | (have e_ := (Kd.R_reads' HO_5.out).1; omega) | simpa using h_) (seg := [.int .i64 (wrap64 (((rd_T39 y288 (ji23)).f2) + a1_2))]) (j := 2) hcl28 hcc28 (show 3 ≤ 3 from by decide) (x' := (⟨(rd_T39 y288 (ji23)).f0, (rd_T39 y288 (ji23)).f1, wrap64 (((rd_T39 y288 (ji23)).f2) + a1_2)⟩ : S39)) (k39_mkM _ _ _ (⟨(rd_T39 y288 (ji23)).f0, (rd_T39 y288 (ji23)).f1, wrap64 (((rd_T39 y288 (ji23)).f2) + a1_2)⟩ : S39) ) (fun _ hk => hk)).1
        rw [← Ny295.out] at HP28
        have HQ28 := Aside0.mk HP28
        clear hcl28 hcc28 hfr28 hM28 HP28
        refine start_ (n := 15) (S := fun w' => w'.cell? ⟨gb287, 0, none⟩ = some (.int .i64 a1_0) ∧ w'.cell? ⟨gb287, 1, none⟩ = some (.int .i64 a1_1) ∧ w'.cell? ⟨gb287, 2, none⟩ = some (.int .i64 a1_2) ∧ w'.cell? ⟨go26, (((ji23)).toNat * 3), none⟩ = some (.int .i64 ((rd_T39 y288 (ji23)).f0)) ∧ w'.cell? ⟨go26, (((ji23)).toNat * 3) + 1, none⟩ = some (.int .i64 ((rd_T39 y288 (ji23)).f1)) ∧ w'.cell? ⟨go26, (((ji23)).toNat * 3) + 2, none⟩ = some (.int .i64 ((rd_T39 y288 (ji23)).f2))) (ds := [14]) (bs 15 0) (by kernel_rfl) rfl rfl ⟨(blk_cell BK287.out 0).trans rfl, (blk_cell BK287.out 1).trans rfl, (blk_cell BK287.out 2).trans rfl, hx294_0, hx294_1, hx294_2⟩ (fun hHeld => ?_); refine with_tabW worldmintref14_Add.tab7 worldmintref14_Add.bits7 (fun HT_ HW_ => ?_)
        generalize wc.drew = w27 at HO_5 BK287 HB GG26 HQ28 hf26_0 hf26_1 hf26_2 hx26_0 hx26_1 hx26_2 hx294_0 hx294_1 hx294_2 hHeld ⊢
        refine pu 0 47 (bs 15 1) HT_ ?_
        refine pu 1 48 (bs 15 3) HT_ ?_
        refine pu 2 49 (bs 15 7) HT_ ?_
        refine pu 3 50 (bs 15 15) HT_ ?_
        refine pu 4 51 (bs 15 31) HT_ ?_
        refine pu 5 52 (bs 15 63) HT_ ?_
        refine pu 6 53 (bs 15 127) HT_ ?_
        refine pu 7 54 (bs 15 255) HT_ ?_
        refine pu 9 56 (bs 15 767) HT_ ?_
        refine take_ (i := 8) (N := some 55) (v := ?_) (a' := ?_) (bs 15 1023) rfl rfl (take_ofW HT_.out HW_.out (by kernel_rfl)) (fun _ _ _ h => h) (Or.inl ⟨by rfl, ?_⟩) hHeld ?_ ?_
        rotate_left
        ·rintro w' ⟨s0, s1, s2, s3, s4, s5⟩
         go_simp
         with_reducible rfl
        rotate_left
        ·simp only [Act.put, List.setIfInBounds_toArray, List.set_cons_zero, List.set_cons_succ, i64_w, i32_w]
         rfl
        refine take_ (i := 10) (N := some 57) (v := ?_) (a' := ?_) (bs 15 2047) rfl rfl (take_ofW HT_.out HW_.out (by kernel_rfl)) (fun _ _ _ h => h) (Or.inl ⟨by rfl, ?_⟩) hHeld ?_ ?_
        rotate_left
        ·rintro w' ⟨s0, s1, s2, s3, s4, s5⟩
         go_simp
         with_reducible rfl
        rotate_left
        ·simp only [Act.put, List.setIfInBounds_toArray, List.set_cons_zero, List.set_cons_succ, i64_w, i32_w]
         rfl
        refine pu 11 58 (bs 15 4095) HT_ ?_
        refine pu 12 59 (bs 15 8191) HT_ ?_
        refine pu 13 60 (bs 15 16383) HT_ ?_
        refine last_ (i := 14) (N := none) (bs 15 32767) rfl rfl (one_of HT_.out (by kernel_rfl)) (by decide) (fun K hK => ?_)
        refine skip_ (w1 := ?_) (by rfl) rfl ?_ ?_
        rotate_left
        ·go_simp
         rfl
        refine hK.out _ _ ?_
        clear hK K
        refine done_ (done_of HT_.out (by kernel_rfl)) ?_
        try go_wp2
        go_ret
        exact ⟨_, by first | rfl | (simp [errW_none, errW_some] <;> rfl) | (simp only [← hji23]; first | rfl | (simp [errW_none, errW_some] <;> rfl)) | (simp [*, errW_none, errW_some] <;> rfl), by (with_reducible repeat (first | apply Kd.R_alloc | apply Kd.R_drewN | apply Kd.R_drew)); exact Kd.R_mono HQ28.out (fun _ hk => trivial), by repeat (first | (with_reducible first | exact HB.out | apply below_alloc | apply pw_below_drewN | apply below_drew1 | refine below_set ?_ GB26.out | refine below_set ?_ GE287.out) | exact HB.out)⟩
       ·rw [if_neg c25] at H
        exact absurd H (by simp)
      ·rw [if_neg c24] at H
       exact absurd H (by simp)
     ·replace c22 := Bool.eq_false_iff.mpr c22
      subst c22
      have H1 : (if y288.length < 5864062014805 then (some (y288 ++ [(⟨a1_0, a1_1, a1_2⟩ : S39)])) else (none)) = some r := by rw [if_neg (show ¬ (false = true) by decide)] at H; exact H
      clear H
      have H := H1
      clear H1
      by_cases c29 : y288.length < 5864062014805
      ·rw [if_pos c29] at H
       have LMc29 := Aside0.mk c29
       clear c29
       obtain ⟨y296, hy296⟩ : ∃ y_ : List (S39), y_ = (y288 ++ [(⟨a1_0, a1_1, a1_2⟩ : S39)]) := ⟨_, rfl⟩
       replace H : (some y296) = some r := by first | (rw [hy296]; with_reducible exact H) | (have H2_ := (Option.bind_some _ _).symm.trans H; rw [hy296]; with_reducible exact H2_) | (have H2_ := (Option.bind_some _ _).symm.trans H; with_reducible exact H2_) | with_reducible exact H | (rw [hy296]; exact H) | exact H
       have Ny296 := Aside0.mk hy296
       clear hy296
       obtain rfl := Option.some.inj H
       have hcz30_0 : wc.cell? ⟨gb287, 0, none⟩ = some (.int .i64 a1_0) := (blk_cell BK287.out 0).trans rfl
       have hcz30_1 : wc.cell? ⟨gb287, 1, none⟩ = some (.int .i64 a1_1) := (blk_cell BK287.out 1).trans rfl
       have hcz30_2 : wc.cell? ⟨gb287, 2, none⟩ = some (.int .i64 a1_2) := (blk_cell BK287.out 2).trans rfl
       have hfz30_0 := blk_frozen BK287.out 0
       have hfz30_1 := blk_frozen BK287.out 1
       have hfz30_2 := blk_frozen BK287.out 2
       go_wp2_with (first | ((with_reducible refine gate_builtin (b := .append) (xs := #[.tmp 62, .tmp 64]) rfl ?_); at_builtin; refine Kd.R_append k39 (w0 := w) w.heap.size rfl (.tmp 62) (.tmp 64) 22 39 (.agg #[(.int .i64 0), (.int .i64 0), (.int .i64 0)]) 24 rfl Try.underlying22 info39 rfl (by decide) (by omega) (.slice Ao12 y288.length co12) y288 (⟨a1_0, a1_1, a1_2⟩ : S39) [.int .i64 a1_0, .int .i64 a1_1, .int .i64 a1_2] (fun k_ => k_ ≠ gb287) (fun _ => False) rfl rfl ?aP (fun _ hk => hk.elim) ?aF ?aO ?aB ?aS ?aL ?_; (case aP => exact k39_mkM _ _ _ (⟨a1_0, a1_1, a1_2⟩ : S39)); (case aB => exact (by repeat (first | (with_reducible first | exact HB.out | apply below_alloc | apply pw_below_drewN | apply below_drew1 | refine below_set ?_ GE287.out) | exact HB.out))); (case aF => exact (fun k_ hk => Kd.freshB (g := gb287) (o := .cells #[.int .i64 a1_0, .int .i64 a1_1, .int .i64 a1_2] 39 (0, 0)) (kb BK287.out) k_ hk)); (case aO => exact (kr HO_5.out)); (case aS => exact (below_size (by repeat (first | (with_reducible first | exact HB.out | apply below_alloc | apply pw_below_drewN | apply below_drew1 | refine below_set ?_ GE287.out) | exact HB.out)))); (case aL => have := LMc29.out; omega); intro v297 w31 ho hb hg hat; rw [← Ny296.out] at ho; have n0_ := Aside0.mk (blk_grown (g := gb287) (o := .cells #[.int .i64 a1_0, .int .i64 a1_1, .int .i64 a1_2] 39 (0, 0)) (kb BK287.out) hg (Kd.R_away HO_5.out (fun _ hk => hk))); have n1_ := Aside0.mk (hb); have n2_ := Aside0.mk (ho); clear BK287; clear HB; clear HO_5; have BK287 := n0_; have HB := n1_; have HO298 := n2_; clear n0_ n1_ n2_; clear ho hb hg hat))
       go_ret
       exact ⟨_, by first | rfl | (simp [errW_none, errW_some] <;> rfl) | (simp [*, errW_none, errW_some] <;> rfl), by (with_reducible repeat (first | apply Kd.R_alloc | apply Kd.R_drewN | apply Kd.R_drew)); exact Kd.R_mono HO298.out (fun _ hk => trivial), by repeat (first | (with_reducible first | exact HB.out | apply below_alloc | apply pw_below_drewN | apply below_drew1 | refine below_set ?_ GE287.out) | exact HB.out)⟩
      ·rw [if_neg c29] at H
       exact absurd H (by simp)
 ·rw [if_neg c3] at H
  exact absurd H (by simp)

end Go.Proofs.Ytcicjbgfahdejaa.P
