/- This session's own: slices.Clone of a slice of lots is walked. -/
import Derived.Test.YtcicjbgfahdejaaEV
import Derived.WalkSpells

namespace Go.Proofs.Ytcicjbgfahdejaa.P
open Go.RowKit Go.Proofs.YtcicjbgfahdejaaW.PrintWords Go.Proofs.YtcicjbgfahdejaaW.PrintLast Go.Proofs.YtcicjbgfahdejaaW.PrintMore
set_option linter.unusedSimpArgs false
set_option linter.unusedVariables false
def api_Lot_59.f (l : List S39) : Option (List S39) := if l.length < 5864062014805 then some l else none
theorem api_Lot_59.calls (A0 : Option Addr) (c0 : Nat) (l0 : List (S39)) (r : List S39) (w : World) (hr0 : Kd.C k39 w A0 l0.length l0) (hc0 : l0.length ≤ c0) (h : api_Lot_59.f l0 = some r) :
    Calls Try.prog 59 #[.slice A0 l0.length c0] w fun e w' => ∃ v0_ : Value, e = .returned v0_ ∧ Kd.R k39 39 w' w.heap.size (fun _ => True) v0_ r ∧ Below w.heap.size w w' := by
  unfold api_Lot_59.f at h
  by_cases hl : l0.length < 5864062014805
  · rw [if_pos hl] at h
    obtain rfl := Option.some.inj h
    clear h
    have HR0 := Aside0.mk hr0
    have HC0 := Aside0.mk hc0
    have LM := Aside0.mk hl
    clear hr0 hc0 hl
    have HB := Aside0.mk (Below.refl w.heap.size w)
    have e1 := fun wx A n c => Lib.run_eql_slice_nil (P := Try.prog) wx 22 A n c
    cases A0 with
    | none =>
      have hn : l0 = [] := by
        have h := HR0.out.2.2
        rcases Nat.eq_zero_or_pos l0.length with h0 | h0
        · exact List.length_eq_zero_iff.1 h0
        · obtain ⟨_, h1, _⟩ := h h0
          exact absurd h1 (by simp)
      subst hn
      go_enter Try.func59, Try.ntmps59
      go_wp2
      go_ret
      exact ⟨_, rfl, Kd.R_nil _ _ _ _ _, Below.refl _ _⟩
    | some ad =>
      have HB1 := Aside0.mk (below_alloc (Below.refl w.heap.size w) (.cells #[] 39))
      have HO1 : Aside0 (Kd.R k39 39 (w.alloc (.cells #[] 39)) w.heap.size (fun _ => True) (.slice (some ⟨w.heap.size, 0, none⟩) 0 0) []) :=
        ⟨fun _ _ => trivial, OwnRow.lit w w.heap.size (inner := []) (ps := ([] : List S39)) (Reps.none _ _) (Nat.le_refl _) (by simp)⟩
      go_enter Try.func59, Try.ntmps59
      go_wp2_with ((with_reducible refine gate_builtin (b := .append) (xs := #[.tmp 5, .tmp 6]) rfl ?_); at_builtin; refine Kd.R_append_rows k39 (w0 := w) w.heap.size rfl (.tmp 5) (.tmp 6) 22 39 (.agg #[(.int .i64 0), (.int .i64 0), (.int .i64 0)]) 24 rfl Try.underlying22 info39 rfl (by decide) (by omega) (.slice (some ⟨w.heap.size, 0, none⟩) 0 0) ([] : List S39) l0 _ _ _ (fun _ => True) (fun _ => False) rfl rfl HO1.out ?aR (fun _ _ h => h) (fun _ h => h.elim) (fun _ _ => trivial) HB1.out ?aS ?aL ?_; (case aR => exact Kd.C_alloc HR0.out _); (case aS => exact below_size HB1.out); (case aL => have := LM.out; simp only [List.length_nil]; omega); intro v214 w6 ho hb hg hat; have n0_ := Aside0.mk hb; have n2_ := Aside0.mk ho; clear ho hb hg hat)
      go_ret
      exact ⟨_, rfl, n2_.out, n0_.out⟩
  · rw [if_neg hl] at h
    exact absurd h (by simp)
end Go.Proofs.Ytcicjbgfahdejaa.P
