/- This session's own: slices.Grow of the nil slice of lots (with which slices.Concat begins). -/
import Derived.Test.YtcicjbgfahdejaaEV
import Derived.WalkSpells
import Derived.Lib.AppendZeros

namespace Go.Proofs.Ytcicjbgfahdejaa.P
open Go.RowKit Go.Proofs.YtcicjbgfahdejaaW.PrintWords Go.Proofs.YtcicjbgfahdejaaW.PrintLast Go.Proofs.YtcicjbgfahdejaaW.PrintMore
set_option linter.unusedSimpArgs false
set_option linter.unusedVariables false
def api_Lot_84.f (n : Int) : Option (List S39) := if 0 ≤ n ∧ n ≤ 1000000000000 then some [] else none
set_option maxRecDepth 100000 in
theorem api_Lot_84.calls (a1 : Int) (r : List S39) (w : World) (h : api_Lot_84.f a1 = some r) :
    Calls Try.prog 84 #[.slice none 0 0, .int .i64 a1] w fun e w' => ∃ v0_ : Value, e = .returned v0_ ∧ Kd.R k39 39 w' w.heap.size (fun _ => True) v0_ r ∧ Below w.heap.size w w' := by
  unfold api_Lot_84.f at h
  by_cases hl : 0 ≤ a1 ∧ a1 ≤ 1000000000000
  · rw [if_pos hl] at h
    obtain rfl := Option.some.inj h
    clear h
    obtain ⟨n, rfl⟩ := Int.eq_ofNat_of_zero_le hl.1
    have hn := hl.2
    clear hl
    rcases Nat.eq_zero_or_pos n with h0 | h0
    · subst h0
      go_enter Try.func84, Try.ntmps84
      go_wp2
      go_ret
      exact ⟨_, rfl, Kd.R_nil _ _ _ _ _, Below.refl _ _⟩
    · obtain ⟨i0, hi, hz0, hz1, hz2⟩ : ∃ i, Try.prog.info? 39 = some i ∧ i.zero = some (.agg #[(.int .i64 0), (.int .i64 0), (.int .i64 0)]) ∧ i.size = 3 ∧ i.bytes = 24 := by
        have h1 := info39
        revert h1
        cases Try.prog.info? 39 with
        | none => simp
        | some i => intro h1; simp only [Option.map_some, Option.some.injEq, Prod.mk.injEq] at h1; exact ⟨i, rfl, h1.1, h1.2.1, h1.2.2⟩
      have happ := Lib.run_append_nil_zeros (P := Try.prog) w 22 3 22 39 i0 (.agg #[(.int .i64 0), (.int .i64 0), (.int .i64 0)]) .i64 .i64 Try.underlying22 (by kernel_rfl) hi hz0 n h0 (by rw [hz1]; decide) (by omega) (by rw [hz2]; omega)
      generalize hcap : grownCap w n 0 39 = cap2 at happ
      have hcapge : n ≤ cap2 := by rw [← hcap]; exact grownCap_ge w _ 0 39
      have hcaple : cap2 ≤ maxLen := by rw [← hcap]; exact grownCap_le_maxLen w _ 0 39 (by unfold maxLen; omega)
      go_enter Try.func84, Try.ntmps84
      go_wp2_with (at_builtin; refine Lib.wpList_append_run _ rfl _ _ _ _ rfl _ _ rfl rfl _ _ happ ?_)
      go_ret
      refine ⟨_, rfl, ⟨fun _ _ => trivial, [], ⟨by simp, .inr ⟨w.heap.size, cap2, _, rfl, Nat.le_refl _, heap_alloc_new w _, Nat.zero_le _, hcaple, ?_, by simp⟩⟩, Reps.none _ _⟩, below_drew1 (below_alloc (Below.refl _ _) _)⟩
      show (Builtin.zeroCells _ n ++ Builtin.zeroCells _ (cap2 - n)).size = cap2 * 3
      simp only [Array.size_append, size_zeroCells, List.size_toArray, List.length_cons, List.length_nil]
      omega
  · rw [if_neg hl] at h
    exact absurd h (by simp)
end Go.Proofs.Ytcicjbgfahdejaa.P
