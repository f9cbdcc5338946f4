/- This session's own: the law LotsStacks, plainly. -/
import Derived.Test.YtcicjbgfahdejaaQA1
import Derived.Test.YtcicjbgfahdejaaQ2
namespace Go.Proofs.Ytcicjbgfahdejaa.P
open Go Go.RowKit Go.Sort Go.Proofs.YtcicjbgfahdejaaW.PrintWords Go.Proofs.YtcicjbgfahdejaaW.PrintLast Go.Proofs.YtcicjbgfahdejaaW.PrintMore
set_option linter.unusedSimpArgs false
set_option linter.unusedVariables false
theorem lots_possible_eq (x : S39) : lots_possible.f x.f0 x.f1 x.f2 = some (possible x) := by
  unfold lots_possible.f possible
  split
  · split
    · split
      · split
        · have e : wrap64 (1099511627776 - x.f2) = 1099511627776 - x.f2 := w64 (by omega) (by omega)
          rw [e]
          congr 1
          apply decide_eq_decide.2
          constructor <;> intro h <;> omega
        · congr 1; symm; apply decide_eq_false; omega
      · congr 1; symm; apply decide_eq_false; omega
    · congr 1; symm; apply decide_eq_false; omega
  · congr 1; symm; apply decide_eq_false; omega
def putP (s : List S39) (x : S39) : List S39 := if valid s = true ∧ possible x = true then jn s x else []
theorem putP_len (s : List S39) (x : S39) (h : s.length ≤ 100) : (putP s x).length ≤ 101 := by
  unfold putP
  split
  · have := (join_len s x (by omega)).2; omega
  · simp
theorem Put_eq (s : List S39) (x : S39) (h : s.length ≤ 100) (k : Nat) (hk : 200 ≤ k) : lots_Put.f k s x.f0 x.f1 x.f2 = some (putP s x) ∧ worldmintref14_Put.f k s x.f0 x.f1 x.f2 = some (putP s x) := by
  obtain ⟨k, rfl⟩ : ∃ q, k = q + 1 := ⟨k - 1, by omega⟩
  unfold putP
  refine ⟨?_, ?_⟩
  · unfold lots_Put.f
    rw [lots_Valid_eq, Option.bind_some]
    cases hv : valid s with
    | false => rw [if_neg (by decide), if_neg (by simp)]; rfl
    | true =>
      rw [if_pos rfl, lots_possible_eq, Option.bind_some]
      simp only [lots_Put.j0]
      cases hp : possible x with
      | false => rfl
      | true =>
        unfold api_Lot_59.f
        rw [Bool.not_true, if_neg (by decide), if_pos (by omega), Option.bind_some, (join_len s x (by omega)).1, Option.bind_some, if_pos ⟨trivial, rfl⟩]
  · unfold worldmintref14_Put.f
    rw [ref_Valid_eq s _ (by omega) (by omega), Option.bind_some, ref_possible, Option.bind_some]
    cases hv : valid s with
    | false => rw [if_neg (by decide), if_neg (by simp)]
    | true =>
      rw [if_pos rfl]
      cases hp : possible x with
      | false => rw [if_neg (by decide), if_neg (by simp)]
      | true =>
        have hx : x.f2 ≠ 0 := by
          unfold possible at hp
          simp only [decide_eq_true_eq] at hp
          omega
        rw [if_pos rfl, ref_Add s x (k + 1) (by omega) (by omega) hx, Option.bind_some, if_pos ⟨rfl, rfl⟩]
theorem Stacks_l1 (x7 : List (List S39)) (B : List S39) (i : Nat) (hi : i < x7.length) (hA : (rd_L2 x7 (i : Int)).length ≤ 100) (hB : B.length ≤ 1000) : ∀ (d j K : Nat), j + d = B.length → 1000 ≤ K → worldmintlaw14_LotsStacks.l1 (K + d) x7 B (i : Int) (j : Int) = worldmintlaw14_LotsStacks.l1 K x7 B (i : Int) (B.length : Int) := by
  intro d
  induction d with
  | zero =>
    intro j K hj hK
    obtain rfl : j = B.length := by omega
    rfl
  | succ d ih =>
    intro j K hj hK
    have hlt : j < B.length := by omega
    obtain ⟨p1, p2⟩ := Put_eq (rd_L2 x7 (i : Int)) (rd_T39 B (j : Int)) hA (K + d) (by omega)
    have hl := putP_len (rd_L2 x7 (i : Int)) (rd_T39 B (j : Int)) hA
    rw [show K + (d + 1) = (K + d) + 1 by omega]
    conv => lhs; unfold worldmintlaw14_LotsStacks.l1
    rw [if_pos (by omega), if_pos (by omega), if_pos (by omega), if_pos (by omega), p1, Option.bind_some, p2, Option.bind_some, ref_Same_eq _ (K + d) (by omega) (by omega), Option.bind_some, if_pos rfl, w64_1 j (by omega)]
    exact ih (j + 1) K (by omega) hK
theorem Stacks_step (K : Nat) (x7 : List (List S39)) (B : List S39) (i : Nat) (h7 : x7.length = 3) (hi : i < 3) (hA : (rd_L2 x7 (i : Int)).length ≤ 100) (hB : B.length ≤ 1000) (hK : 1000 ≤ K) :
    worldmintlaw14_LotsStacks.l0 (K + (B.length + 3)) x7 B (i : Int) = worldmintlaw14_LotsStacks.l0 K x7 B ((i + 1 : Nat) : Int) := by
  have e := Stacks_l1 x7 B i (by omega) hA hB B.length 0 (K + 1) (by omega) (by omega)
  rw [show K + (B.length + 3) = ((K + 1 + B.length) + 1) + 1 by omega]
  generalize hF : K + 1 + B.length = F at *
  conv => lhs; unfold worldmintlaw14_LotsStacks.l0
  rw [if_pos (by omega), if_pos (by omega), if_pos (by omega), lots_Valid_eq, Option.bind_some, ref_Valid_eq _ (F + 1) (by omega) (by omega), Option.bind_some, if_neg (by simp), lots_Total_eq _ (F + 1) (by omega) (by omega), Option.bind_some, ref_Total_eq _ (F + 1) (by omega) (by omega), Option.bind_some]
  conv => lhs; unfold worldmintlaw14_LotsStacks.j1
  rw [if_neg (by simp)]
  refine Eq.trans e ?_
  conv => lhs; unfold worldmintlaw14_LotsStacks.l1
  rw [if_neg (by omega), w64_1 i (by omega)]
theorem LotsStacks_pure (l0 : List S39) (a0 a1 a2 : Int) (l2 : List Int) : ∃ k, worldmintlaw14_LotsStacks.f k l0 a0 a1 a2 l2 = some true := by
  obtain ⟨A, lA, hA⟩ := Lots_some l2 0
  obtain ⟨A', lA', hA'⟩ := Lots_some l2 5
  obtain ⟨B, lB, hB⟩ := Lots_some l2 9
  obtain ⟨N, hN⟩ : ∃ N : Nat, N = 2000000 := ⟨_, rfl⟩
  have lv : worldmintlaw14_lives.f N = some true := by rw [hN]; exact lives_2000000
  have hlB : ([(⟨a0, a1, a2⟩ : S39)] ++ B).length = B.length + 1 := by simp
  have S := fun K i => Stacks_step K [l0.take 5, A, A'] ([(⟨a0, a1, a2⟩ : S39)] ++ B) i rfl
  generalize hBB : [(⟨a0, a1, a2⟩ : S39)] ++ B = BB at *
  have r0 : rd_L2 [l0.take 5, A, A'] ((0 : Nat) : Int) = l0.take 5 := rfl
  have r1 : rd_L2 [l0.take 5, A, A'] ((1 : Nat) : Int) = A := rfl
  have r2 : rd_L2 [l0.take 5, A, A'] ((2 : Nat) : Int) = A' := rfl
  have s0 := S (N + 1 + (BB.length + 3) + (BB.length + 3)) 0 (by omega) (by rw [r0, List.length_take]; omega) (by omega) (by omega)
  have s1 := S (N + 1 + (BB.length + 3)) 1 (by omega) (by rw [r1]; omega) (by omega) (by omega)
  have s2 := S (N + 1) 2 (by omega) (by rw [r2]; omega) (by omega) (by omega)
  refine ⟨N + 1 + (BB.length + 3) + (BB.length + 3) + (BB.length + 3), ?_⟩
  unfold worldmintlaw14_LotsStacks.f
  rw [few_some, Option.bind_some, hA _ (by omega), Option.bind_some, hA' _ (by omega), Option.bind_some, Option.bind_some, hB _ (by omega), Option.bind_some, if_pos (by simp; omega), hBB]
  refine Eq.trans s0 (s1.trans (s2.trans ?_))
  conv => lhs; unfold worldmintlaw14_LotsStacks.l0
  rw [if_neg (by omega), lv, Option.bind_some]
end Go.Proofs.Ytcicjbgfahdejaa.P
