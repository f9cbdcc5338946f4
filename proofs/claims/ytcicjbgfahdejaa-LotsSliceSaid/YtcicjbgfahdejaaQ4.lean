/- This session's own: the law LotsSlice, plainly. -/
import Derived.Test.YtcicjbgfahdejaaQ2
import Derived.Test.YtcicjbgfahdejaaQ3
namespace Go.Proofs.Ytcicjbgfahdejaa.P
open Go.RowKit Go.Proofs.YtcicjbgfahdejaaW.PrintWords Go.Proofs.YtcicjbgfahdejaaW.PrintLast Go.Proofs.YtcicjbgfahdejaaW.PrintMore
set_option linter.unusedSimpArgs false
set_option linter.unusedVariables false
--DEFS2
theorem LotsSlice_step (k : Nat) (A : List S39) (x2 x3 : Int) (x9 : List (List S39)) (i : Nat) (hi : i < 2) (h9 : x9.length = 2) (hA : rd_L2 x9 (i : Int) = A) (hl : A.length ≤ 8) (hk : 70 ≤ k) :
    worldmintlaw14_LotsSlice.l0 (k + 2) x2 x3 x9 (i : Int) = worldmintlaw14_LotsSlice.l0 k x2 x3 x9 ((i + 1 : Nat) : Int) := by
  have ht := tot_range A
  obtain ⟨t, h1, h1a, h1b⟩ := Around_some x2 (wrap64 (tot A + 2)) (by rw [w64 (by omega) (by omega)]; omega) (by rw [w64 (by omega) (by omega)]; omega)
  have hw : wrap64 (tot A + 2) = tot A + 2 := w64 (by omega) (by omega)
  have hm : 1 ≤ mx 1 (wrap64 ((wrap64 (tot A - t)) + 2)) ∧ mx 1 (wrap64 ((wrap64 (tot A - t)) + 2)) ≤ 4611686018427387904 := by
    rw [w64 (x := tot A - t) (by omega) (by omega), w64 (by omega) (by omega)]
    have := mx_c 1 (tot A - t + 2)
    omega
  obtain ⟨n, h2, h2a, h2b⟩ := Around_some x3 _ hm.1 hm.2
  have hs := slP_len A x2 x3 (by omega)
  have hs2 := slP_len A t n (by omega)
  simp only [worldmintlaw14_LotsSlice.l0]
  rw [if_pos (by omega), if_pos (by omega), if_pos (by omega), hA, ref_Total_eq A (k + 1) (by omega) (by omega), Option.bind_some, h1, Option.bind_some, lots_Slice_eq A x2 x3 (k + 1) (by omega) (by omega), Option.bind_some,
    ref_Slice_eq A x2 x3 (k + 1) (by omega) (by omega), Option.bind_some, h2, Option.bind_some, lots_Slice_eq A t n (k + 1) (by omega) (by omega), Option.bind_some, Option.bind_some, ref_Slice_eq A t n (k + 1) (by omega) (by omega), Option.bind_some,
    if_pos rfl, if_pos rfl]
  rw [ref_Same_eq _ (k + 1) (by omega) (by omega), Option.bind_some, if_pos rfl, ref_Same_eq _ (k + 1) (by omega) (by omega), Option.bind_some]
  simp only [worldmintlaw14_LotsSlice.j1, Bool.not_true]
  rw [if_neg (by decide), w64_1 i (by omega)]
theorem LotsSlice_pure (l0 : List S39) (l1 : List Int) (a2 a3 : Int) : ∃ k, worldmintlaw14_LotsSlice.f k l0 l1 a2 a3 = some true := by
  obtain ⟨L, hL, hK⟩ := Lots_some l1 0
  refine ⟨115, ?_⟩
  unfold worldmintlaw14_LotsSlice.f
  rw [few_some, Option.bind_some, hK _ (by omega), Option.bind_some]
  have e1 := LotsSlice_step 113 (l0.take 5) a2 a3 [l0.take 5, L] 0 (by omega) rfl rfl (by simp only [List.length_take]; omega) (by omega)
  have e2 := LotsSlice_step 111 L a2 a3 [l0.take 5, L] 1 (by omega) rfl rfl hL (by omega)
  refine e1.trans (e2.trans ?_)
  simp only [worldmintlaw14_LotsSlice.l0]
  rw [if_neg (by omega), lives_110, Option.bind_some]
end Go.Proofs.Ytcicjbgfahdejaa.P
