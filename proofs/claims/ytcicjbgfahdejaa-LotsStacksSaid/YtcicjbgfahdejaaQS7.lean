/- This session's own: generated lots are possible; how many units a set has; Has. -/
import Derived.Test.YtcicjbgfahdejaaQS6
namespace Go.Proofs.Ytcicjbgfahdejaa.P
open Go Go.RowKit Go.Sort Go.Proofs.YtcicjbgfahdejaaW.PrintWords Go.Proofs.YtcicjbgfahdejaaW.PrintLast Go.Proofs.YtcicjbgfahdejaaW.PrintMore
set_option linter.unusedSimpArgs false
set_option linter.unusedVariables false
def okG (x : S39) : Prop := 0 ≤ x.f0 ∧ x.f0 < 4 ∧ 0 ≤ x.f1 ∧ x.f1 ≤ 549755813888 ∧ 1 ≤ x.f2 ∧ x.f2 ≤ 549755813888
theorem Lots_good (l : List Int) (a : Int) : ∃ L : List S39, L.length ≤ 8 ∧ (∀ x ∈ L, okG x) ∧ ∀ k, 34 ≤ k → worldmintref14_Lots.f k l a = some L := by
  obtain ⟨t, ht0, ht1, ht⟩ := Pick_some l a 8 (by omega) (by omega)
  have key : ∀ (d i : Nat) (out : List S39), i + d = 8 → out.length = i → (∀ x ∈ out, okG x) → ∃ L : List S39, L.length ≤ 8 ∧ (∀ x ∈ L, okG x) ∧ ∀ k, 4 * d + 2 ≤ k → worldmintref14_Lots.l0 k l a out (i : Int) = some L := by
    intro d
    induction d with
    | zero =>
      intro i out hi ho hg
      refine ⟨out, by omega, hg, fun k hk => ?_⟩
      obtain ⟨k, rfl⟩ : ∃ q, k = q + 1 := ⟨k - 1, by omega⟩
      simp only [worldmintref14_Lots.l0]
      rw [ht k (by omega), Option.bind_some, if_neg (by omega)]
    | succ d ih =>
      intro i out hi ho hg
      have snoc : ∀ x, okG x → ∀ y ∈ out ++ [x], okG y := fun x hx y hy => by
        rcases List.mem_append.1 hy with e | e
        · exact hg y e
        · rw [List.mem_singleton] at e; exact e ▸ hx
      by_cases hit : (i : Int) < t
      · obtain ⟨t1, a1, b1, h1⟩ := Pick_some l (wrap64 ((wrap64 (a + (wrap64 (3 * (i : Int))))) + 1)) 4 (by omega) (by omega)
        obtain ⟨t2, a2, b2, h2⟩ := Pick_some l (wrap64 ((wrap64 (a + (wrap64 (3 * (i : Int))))) + 2)) 12 (by omega) (by omega)
        obtain ⟨t3, a3, b3, h3⟩ := Pick_some l (wrap64 ((wrap64 (a + (wrap64 (3 * (i : Int))))) + 3)) 5 (by omega) (by omega)
        obtain ⟨t4, _, _, h4⟩ := Pick_some l (wrap64 ((wrap64 (a + (wrap64 (3 * (i : Int))))) + 3)) 29 (by omega) (by omega)
        obtain ⟨t5, _, _, h5⟩ := Pick_some l (wrap64 ((wrap64 (a + (wrap64 (3 * (i : Int))))) + 2)) 5 (by omega) (by omega)
        have jj : ∀ n : Int, 1 ≤ n → n ≤ 549755813888 → ∃ L : List S39, L.length ≤ 8 ∧ (∀ x ∈ L, okG x) ∧ ∀ k, 4 * d + 3 ≤ k → worldmintref14_Lots.j1 k l a out (i : Int) t1 t2 n = some L := by
          intro n hn0 hn1
          by_cases hp : (out.length : Int) > 0
          · by_cases h50 : t5 = 0
            · have e : wrap64 ((out.length : Int) - 1) = (out.length : Int) - 1 := w64 (by omega) (by omega)
              have hz : okG (rd_T39 out ((out.length : Int) - 1)) := by
                rw [show (out.length : Int) - 1 = ((out.length - 1 : Nat) : Int) by omega, rd39_nat out _ (by omega)]
                exact hg _ (List.getElem_mem _)
              have hx : okG ⟨(rd_T39 out ((out.length : Int) - 1)).f0, mn (wrap64 ((rd_T39 out ((out.length : Int) - 1)).f1 + (rd_T39 out ((out.length : Int) - 1)).f2)) 549755813888, n⟩ := by
                unfold okG at hz ⊢
                rw [w64 (by omega) (by omega)]
                have := mn_le ((rd_T39 out ((out.length : Int) - 1)).f1 + (rd_T39 out ((out.length : Int) - 1)).f2) 549755813888
                simp only
                omega
              obtain ⟨L, hL, hG, hK⟩ := ih (i + 1) (out ++ [(⟨(rd_T39 out ((out.length : Int) - 1)).f0, mn (wrap64 (((rd_T39 out ((out.length : Int) - 1)).f1) + ((rd_T39 out ((out.length : Int) - 1)).f2))) 549755813888, n⟩ : S39)]) (by omega) (by simp [ho]) (snoc _ hx)
              refine ⟨L, hL, hG, fun k hk => ?_⟩
              obtain ⟨k, rfl⟩ : ∃ q, k = q + 1 := ⟨k - 1, by omega⟩
              have := hK k (by omega)
              simp only [worldmintref14_Lots.j1]
              rw [if_pos hp, h5 k (by omega), Option.bind_some, if_pos h50, e, if_pos (by omega), if_pos (by omega), if_pos (by omega), w64_1 i (by omega)]
              exact this
            · obtain ⟨L, hL, hG, hK⟩ := ih (i + 1) (out ++ [(⟨t1, t2, n⟩ : S39)]) (by omega) (by simp [ho]) (snoc _ ⟨a1, by simp only; omega, a2, by simp only; omega, hn0, hn1⟩)
              refine ⟨L, hL, hG, fun k hk => ?_⟩
              obtain ⟨k, rfl⟩ : ∃ q, k = q + 1 := ⟨k - 1, by omega⟩
              have := hK k (by omega)
              simp only [worldmintref14_Lots.j1]
              rw [if_pos hp, h5 k (by omega), Option.bind_some, if_neg h50, if_pos (by omega), w64_1 i (by omega)]
              exact this
          · obtain ⟨L, hL, hG, hK⟩ := ih (i + 1) (out ++ [(⟨t1, t2, n⟩ : S39)]) (by omega) (by simp [ho]) (snoc _ ⟨a1, by simp only; omega, a2, by simp only; omega, hn0, hn1⟩)
            refine ⟨L, hL, hG, fun k hk => ?_⟩
            obtain ⟨k, rfl⟩ : ∃ q, k = q + 1 := ⟨k - 1, by omega⟩
            have := hK k (by omega)
            simp only [worldmintref14_Lots.j1]
            rw [if_neg hp, if_pos (by omega), w64_1 i (by omega)]
            exact this
        by_cases h40 : t4 = 0
        · obtain ⟨L, hL, hG, hK⟩ := jj 549755813888 (by omega) (by omega)
          refine ⟨L, hL, hG, fun k hk => ?_⟩
          obtain ⟨k, rfl⟩ : ∃ q, k = q + 1 := ⟨k - 1, by omega⟩
          have := hK k (by omega)
          simp only [worldmintref14_Lots.l0]
          rw [ht k (by omega), Option.bind_some, if_pos hit, h1 k (by omega), Option.bind_some, h2 k (by omega), Option.bind_some, h3 k (by omega), Option.bind_some, h4 k (by omega), Option.bind_some, if_pos h40]
          exact this
        · obtain ⟨L, hL, hG, hK⟩ := jj (wrap64 (1 + t3)) (by rw [w64 (by omega) (by omega)]; omega) (by rw [w64 (by omega) (by omega)]; omega)
          refine ⟨L, hL, hG, fun k hk => ?_⟩
          obtain ⟨k, rfl⟩ : ∃ q, k = q + 1 := ⟨k - 1, by omega⟩
          have := hK k (by omega)
          simp only [worldmintref14_Lots.l0]
          rw [ht k (by omega), Option.bind_some, if_pos hit, h1 k (by omega), Option.bind_some, h2 k (by omega), Option.bind_some, h3 k (by omega), Option.bind_some, h4 k (by omega), Option.bind_some, if_neg h40]
          exact this
      · refine ⟨out, by omega, hg, fun k hk => ?_⟩
        obtain ⟨k, rfl⟩ : ∃ q, k = q + 1 := ⟨k - 1, by omega⟩
        simp only [worldmintref14_Lots.l0]
        rw [ht k (by omega), Option.bind_some, if_neg hit]
  obtain ⟨L, hL, hG, hK⟩ := key 8 0 [] (by omega) rfl (by simp)
  exact ⟨L, hL, hG, fun k hk => hK k (by omega)⟩
theorem good_V {L : List S39} (hl : L.length ≤ 8) (h : ∀ x ∈ L, okG x) : V 8 L :=
  ⟨⟨fun x hx => by have := h x hx; unfold okG at this; omega⟩, fun x hx => by have := h x hx; unfold okG at this; omega, hl⟩
/-! ### how many units -/
open Classical in
noncomputable def c1 (P : Int → Prop) : Nat → Int
  | 0 => 0
  | n + 1 => c1 P n + if P (n : Int) then 1 else 0
noncomputable def c2 (P : Int → Int → Prop) (M : Nat) : Nat → Int
  | 0 => 0
  | n + 1 => c2 P M n + c1 (P (n : Int)) M
theorem c1_congr {P Q : Int → Prop} (h : ∀ i, P i ↔ Q i) (n : Nat) : c1 P n = c1 Q n := by rw [show P = Q from funext fun i => propext (h i)]
theorem c2_congr {P Q : Int → Int → Prop} (h : ∀ f i, P f i ↔ Q f i) (M n : Nat) : c2 P M n = c2 Q M n := by rw [show P = Q from funext fun f => funext fun i => propext (h f i)]
theorem c1_or (P Q : Int → Prop) : ∀ n, c1 (fun i => P i ∨ Q i) n + c1 (fun i => P i ∧ Q i) n = c1 P n + c1 Q n
  | 0 => rfl
  | n + 1 => by
    have := c1_or P Q n
    simp only [c1]
    by_cases hp : P (n : Int) <;> by_cases hq : Q (n : Int) <;> simp [hp, hq] <;> omega
theorem c2_or (P Q : Int → Int → Prop) (M : Nat) : ∀ n, c2 (fun f i => P f i ∨ Q f i) M n + c2 (fun f i => P f i ∧ Q f i) M n = c2 P M n + c2 Q M n
  | 0 => rfl
  | n + 1 => by
    have h1 := c2_or P Q M n
    have h2 := c1_or (P (n : Int)) (Q (n : Int)) M
    simp only [c2]
    omega
theorem c1_none {P : Int → Prop} (h : ∀ i, ¬ P i) : ∀ n, c1 P n = 0
  | 0 => rfl
  | n + 1 => by simp only [c1]; rw [c1_none h n, if_neg (h _)]; rfl
theorem c2_none {P : Int → Int → Prop} (h : ∀ f i, ¬ P f i) (M : Nat) : ∀ n, c2 P M n = 0
  | 0 => rfl
  | n + 1 => by simp only [c2]; rw [c2_none h M n, c1_none (h _)]; rfl
theorem c1_between (a b : Int) (h0 : 0 ≤ a) (hab : a ≤ b) : ∀ n : Nat, c1 (fun i => a ≤ i ∧ i < b) n = if (n : Int) ≤ a then 0 else if (n : Int) ≤ b then (n : Int) - a else b - a
  | 0 => by simp only [c1]; rw [if_pos (by omega)]
  | n + 1 => by
    simp only [c1]
    rw [c1_between a b h0 hab n]
    by_cases h1 : (n : Int) < a
    · rw [if_pos (by omega), if_neg (by omega), if_pos (by omega)]; rfl
    · by_cases h2 : (n : Int) < b
      · rw [if_pos (show a ≤ (n : Int) ∧ (n : Int) < b from ⟨by omega, h2⟩), if_neg (show ¬ (((n + 1 : Nat) : Int) ≤ a) by omega), if_pos (show ((n + 1 : Nat) : Int) ≤ b by omega)]
        by_cases h3 : (n : Int) ≤ a
        · rw [if_pos h3]; omega
        · rw [if_neg h3, if_pos (by omega)]; omega
      · rw [if_neg (show ¬ (a ≤ (n : Int) ∧ (n : Int) < b) by omega), if_neg (show ¬ (((n + 1 : Nat) : Int) ≤ a) by omega), if_neg (show ¬ (((n + 1 : Nat) : Int) ≤ b) by omega)]
        by_cases h3 : (n : Int) ≤ a
        · rw [if_pos h3]; omega
        · rw [if_neg h3]
          by_cases h4 : (n : Int) ≤ b
          · rw [if_pos h4]; omega
          · rw [if_neg h4]; omega
theorem c2_lot (x : S39) (M : Nat) (h1 : 0 ≤ x.f1) (h2 : 0 ≤ x.f2) (h3 : x.f1 + x.f2 ≤ (M : Int)) (h0 : 0 ≤ x.f0) : ∀ F : Nat, c2 (In x) M F = if x.f0 < (F : Int) then x.f2 else 0
  | 0 => by simp only [c2]; rw [if_neg (by omega)]
  | F + 1 => by
    simp only [c2]
    rw [c2_lot x M h1 h2 h3 h0 F]
    by_cases e : x.f0 = (F : Int)
    · have : c1 (In x (F : Int)) M = x.f2 := by
        rw [c1_congr (Q := fun i => x.f1 ≤ i ∧ i < x.f1 + x.f2) (fun i => by unfold In; simp [e]), c1_between _ _ h1 (by omega)]
        by_cases h : (M : Int) ≤ x.f1
        · rw [if_pos h]; omega
        · rw [if_neg h]
          by_cases h' : (M : Int) ≤ x.f1 + x.f2
          · rw [if_pos h']; omega
          · rw [if_neg h']; omega
      rw [this, if_neg (by omega), if_pos (by omega)]
      omega
    · rw [c1_none (fun i h => e h.1)]
      by_cases h : x.f0 < (F : Int)
      · rw [if_pos h, if_pos (by omega)]; omega
      · rw [if_neg h, if_neg (by omega)]; rfl
/-- The sum of the numbers of a set is the number of its units. -/
theorem c2_NF (M F : Nat) (hM : (M : Int) = 1099511627776) : ∀ l : List S39, NF l → okS l → (∀ x ∈ l, x.f0 < (F : Int)) → c2 (U l) M F = sumN l
  | [], _, _, _ => c2_none (fun f i => U_nil f i) M F
  | x :: l, hn, hk, hF => by
    have hx := hk.cons.1
    have h1 := c2_or (In x) (U l) M F
    rw [c2_none (P := fun f i => In x f i ∧ U l f i) (fun f i h => hn.disjoint h.1 h.2), c2_NF M F hM l hn.cons.2.1 hk.cons.2 (fun y hy => hF y (List.mem_cons_of_mem _ hy)), c2_lot x M (by omega) (by omega) (by omega) (by omega), if_pos (hF x (List.mem_cons_self ..))] at h1
    rw [c2_congr (Q := fun f i => In x f i ∨ U l f i) (fun f i => U_cons x l f i), sumN_cons]
    omega
theorem tot_sum {n : Nat} {l : List S39} (h : V n l) (hn : n ≤ 4096) : tot l = sumN l := by
  obtain ⟨h1, h2⟩ := valid_mem (h.valid hn)
  have := wfold_valid l 0 0 (fun x hx => ⟨(h2 x hx).2.2.1, (h2 x hx).2.2.2.1⟩) (by omega) (by omega)
  unfold tot sumN
  rw [if_pos (h.valid hn)]
  omega
/-! ### Has -/
def hasB (l : List S39) (f i : Int) : Bool := l.any fun x => x.f0 == f && (decide (x.f1 ≤ i) && decide (i < x.f1 + x.f2))
theorem hasB_iff (l : List S39) (f i : Int) : hasB l f i = true ↔ U l f i := by
  unfold hasB U In
  rw [List.any_eq_true]
  constructor
  · rintro ⟨x, hx, h⟩; simp at h; exact ⟨x, hx, h.1, h.2.1, h.2.2⟩
  · rintro ⟨x, hx, h⟩; exact ⟨x, hx, by simp [h.1, h.2.1, h.2.2]⟩
theorem Has_l0 (l : List S39) (f a : Int) (hk : okS l) (hl : l.length < 1000000) : ∀ (d i k : Nat), i + d = l.length → 2 * d < k → worldmintref14_Has.l0 k l f a (i : Int) = some (hasB (l.drop i) f a) := by
  intro d
  induction d with
  | zero =>
    intro i k hi hd
    obtain ⟨k, rfl⟩ : ∃ q, k = q + 1 := ⟨k - 1, by omega⟩
    have e : l.drop i = [] := List.drop_eq_nil_of_le (by omega)
    simp only [worldmintref14_Has.l0]
    rw [if_neg (by omega), e]
    rfl
  | succ d ih =>
    intro i k hi hd
    obtain ⟨k, rfl⟩ : ∃ q, k = q + 2 := ⟨k - 2, by omega⟩
    have hlt : i < l.length := by omega
    have hx := hk.ok _ (List.getElem_mem hlt)
    rw [← rd39_nat l i hlt] at hx
    have I := ih (i + 1) k (by omega) (by omega)
    have J : ∀ b : Bool, worldmintref14_Has.j1 (k + 1) l f a (i : Int) b = some (b || hasB (l.drop (i + 1)) f a) := by
      intro b
      simp only [worldmintref14_Has.j1]
      cases b
      · rw [if_neg (by decide), w64_1 i (by omega), I]; rfl
      · rw [if_pos rfl]; rfl
    have e : hasB (l.drop i) f a = ((rd_T39 l (i : Int)).f0 == f && (decide ((rd_T39 l (i : Int)).f1 ≤ a) && decide (a < (rd_T39 l (i : Int)).f1 + (rd_T39 l (i : Int)).f2)) || hasB (l.drop (i + 1)) f a) := by
      rw [drop_cons l i hlt]; rfl
    rw [e, show k + 2 = (k + 1) + 1 by omega]
    generalize hK : k + 1 = K at *
    simp only [worldmintref14_Has.l0]
    rw [if_pos (by omega), if_pos (by omega)]
    generalize rd_T39 l (i : Int) = x at *
    rw [w64 (x := x.f1 + x.f2) (by omega) (by omega)]
    by_cases h0 : x.f0 = f
    · rw [if_pos h0]
      by_cases h1 : x.f1 ≤ a
      · rw [if_pos h1, J, h0, decide_eq_true h1]; simp
      · rw [if_neg h1, J, decide_eq_false h1]; simp
    · rw [if_neg h0, J, show (x.f0 == f) = false from beq_eq_false_iff_ne.2 h0]; simp
theorem Has_eq (l : List S39) (f a : Int) (hk : okS l) (hl : l.length < 100000) (k : Nat) (h : 200001 ≤ k) : worldmintref14_Has.f k l f a = some (hasB l f a) := by
  have := Has_l0 l f a hk (by omega) l.length 0 k (by omega) (by omega)
  rw [List.drop_zero] at this
  exact this
end Go.Proofs.Ytcicjbgfahdejaa.P
