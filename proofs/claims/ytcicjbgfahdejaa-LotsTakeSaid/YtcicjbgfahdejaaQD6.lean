/- This session's own: the law LotsTake, plainly. -/
import Derived.Test.YtcicjbgfahdejaaQD5
import Derived.Test.YtcicjbgfahdejaaQL3
namespace Go.Proofs.Ytcicjbgfahdejaa.P
open Go Go.RowKit Go.Proofs.YtcicjbgfahdejaaW.PrintWords Go.Proofs.YtcicjbgfahdejaaW.PrintLast Go.Proofs.YtcicjbgfahdejaaW.PrintMore
set_option linter.unusedSimpArgs false
set_option linter.unusedVariables false
theorem LotsTake_one (K : Nat) (A : List S39) (x2 : Int) (x7 : List (List S39)) (i j : Nat) (cs : List Int) (hi : i < x7.length) (hA : rd_L2 x7 (i : Int) = A) (hl : A.length ≤ 8) (hcs : cs.length = 2) (hj : j < 4) (hK : 1300 ≤ K) :
    worldmintlaw14_LotsTake.l1 (K + 2) x2 x7 (i : Int) cs (j : Int) = worldmintlaw14_LotsTake.l1 K x2 x7 (i : Int) cs ((j + 1 : Nat) : Int) := by
  obtain ⟨T, t1, t2, t3, t4, _⟩ := Take_eq A (rd cs (Int.tmod (j : Int) 2)) (decide ((j : Int) > 1)) (by omega)
  have hm : 0 ≤ Int.tmod (j : Int) 2 ∧ Int.tmod (j : Int) 2 < 2 := by
    rw [Int.tmod_eq_emod_of_nonneg (by omega)]; omega
  rw [show K + 2 = (K + 1) + 1 by omega]
  conv => lhs; unfold worldmintlaw14_LotsTake.l1
  rw [if_pos (by omega), if_pos (by omega), if_pos (by omega), if_pos hm.1, if_pos (by omega), hA, t1 (K + 1) (by omega), Option.bind_some, t2 (K + 1) (by omega), Option.bind_some, if_pos rfl, ref_Same_eq _ (K + 1) (by omega) (by omega), Option.bind_some, if_pos rfl, ref_Same_eq _ (K + 1) (by omega) (by omega), Option.bind_some]
  unfold worldmintlaw14_LotsTake.j2
  rw [Bool.not_true, if_neg (by decide), w64_1 j (by omega)]
theorem LotsTake_step (K : Nat) (A : List S39) (x2 : Int) (x7 : List (List S39)) (i : Nat) (hi : i < x7.length) (h7 : x7.length = 2) (hA : rd_L2 x7 (i : Int) = A) (hl : A.length ≤ 8) (hK : 1300 ≤ K) :
    worldmintlaw14_LotsTake.l0 (K + 10) x2 x7 (i : Int) = worldmintlaw14_LotsTake.l0 K x2 x7 ((i + 1 : Nat) : Int) := by
  have ht := tot_range A
  obtain ⟨t, h1, h1a, h1b⟩ := Around_some x2 (wrap64 (tot A + 2)) (by rw [w64 (by omega) (by omega)]; omega) (by rw [w64 (by omega) (by omega)]; omega)
  have e0 := LotsTake_one (K + 7) A x2 x7 i 0 [x2, t] hi hA hl rfl (by omega) (by omega)
  have e1 := LotsTake_one (K + 5) A x2 x7 i 1 [x2, t] hi hA hl rfl (by omega) (by omega)
  have e2 := LotsTake_one (K + 3) A x2 x7 i 2 [x2, t] hi hA hl rfl (by omega) (by omega)
  have e3 := LotsTake_one (K + 1) A x2 x7 i 3 [x2, t] hi hA hl rfl (by omega) (by omega)
  rw [show K + 10 = (K + 9) + 1 by omega]
  conv => lhs; unfold worldmintlaw14_LotsTake.l0
  rw [if_pos (by omega), if_pos (by omega), if_pos (by omega), hA, ref_Total_eq A (K + 9) (by omega) (by omega), Option.bind_some, h1, Option.bind_some]
  refine e0.trans (e1.trans (e2.trans (e3.trans ?_)))
  conv => lhs; unfold worldmintlaw14_LotsTake.l1
  rw [if_neg (by omega), w64_1 i (by omega)]
theorem LotsTake_pure (l0 : List S39) (l1 : List Int) (a2 : Int) : ∃ k, worldmintlaw14_LotsTake.f k l0 l1 a2 = some true := by
  obtain ⟨L, hL, hK⟩ := Lots_some l1 0
  refine ⟨2000021, ?_⟩
  unfold worldmintlaw14_LotsTake.f
  rw [few_some, Option.bind_some, hK _ (by omega), Option.bind_some]
  have e1 := LotsTake_step 2000011 (l0.take 5) a2 [l0.take 5, L] 0 (by simp) rfl rfl (by simp only [List.length_take]; omega) (by omega)
  have e2 := LotsTake_step 2000001 L a2 [l0.take 5, L] 1 (by simp) rfl rfl hL (by omega)
  refine e1.trans (e2.trans ?_)
  simp only [worldmintlaw14_LotsTake.l0]
  rw [if_neg (by omega), lives_2000000, Option.bind_some]
end Go.Proofs.Ytcicjbgfahdejaa.P
