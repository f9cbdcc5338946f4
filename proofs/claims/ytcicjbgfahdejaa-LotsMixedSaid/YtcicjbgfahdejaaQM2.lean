/- This session's own: what Take takes from a set, and what it leaves. -/
import Derived.Test.YtcicjbgfahdejaaQM1
namespace Go.Proofs.Ytcicjbgfahdejaa.P
open Go Go.RowKit Go.Sort Go.Proofs.YtcicjbgfahdejaaW.PrintWords Go.Proofs.YtcicjbgfahdejaaW.PrintLast Go.Proofs.YtcicjbgfahdejaaW.PrintMore
set_option linter.unusedSimpArgs false
set_option linter.unusedVariables false
def tkA : List S39 → List Int → List S39
  | x :: xs, c :: cs => (if c = 0 then [] else [⟨x.f0, x.f1, c⟩]) ++ tkA xs cs
  | _, _ => []
def tkB : List S39 → List Int → List S39
  | x :: xs, c :: cs => (if x.f2 - c = 0 then [] else [⟨x.f0, x.f1 + c, x.f2 - c⟩]) ++ tkB xs cs
  | _, _ => []
theorem tkA_cons (x : S39) (l : List S39) (c : Int) (cs : List Int) : tkA (x :: l) (c :: cs) = (if c = 0 then [] else [⟨x.f0, x.f1, c⟩]) ++ tkA l cs := rfl
theorem tkB_cons (x : S39) (l : List S39) (c : Int) (cs : List Int) : tkB (x :: l) (c :: cs) = (if x.f2 - c = 0 then [] else [⟨x.f0, x.f1 + c, x.f2 - c⟩]) ++ tkB l cs := rfl
/-- Each number lies in its lot. -/
inductive Fit : List S39 → List Int → Prop
  | nil : Fit [] []
  | cons {x : S39} {c : Int} {l : List S39} {cs : List Int} : 0 ≤ c → c ≤ x.f2 → Fit l cs → Fit (x :: l) (c :: cs)
theorem fit_of : ∀ (l : List S39) (c : List Int), c.length = l.length → (∀ j (hj : j < l.length), 0 ≤ c.getD j 0 ∧ c.getD j 0 ≤ l[j].f2) → Fit l c
  | [], [], _, _ => .nil
  | [], c :: cs, h, _ => by simp at h
  | x :: l, [], h, _ => by simp at h
  | x :: l, c :: cs, h, hj => by
    have h0 := hj 0 (by simp)
    simp only [List.getD_cons_zero, List.getElem_cons_zero] at h0
    exact .cons h0.1 h0.2 (fit_of l cs (by simpa using h) (fun j hjl => by have := hj (j + 1) (by simpa using hjl); simpa using this))
theorem opt_fold (c : Prop) [Decidable c] (a : List S39) (p : S39) : (if c then a else jn a p) = (if c then [] else [p]).foldl jn a := by split <;> rfl
theorem tk_eq : ∀ (l : List S39) (c : List Int) (a b : List S39), okS l → Fit l c → tk l c a b = ((tkA l c).foldl jn a, (tkB l c).foldl jn b)
  | [], [], a, b, _, _ => rfl
  | x :: l, c :: cs, a, b, hk, hf => by
    cases hf with
    | cons h0 h1 hf =>
      have hx := hk.cons.1
      rw [tk, w64 (x := x.f1 + c) (by omega) (by omega), w64 (x := x.f2 - c) (by omega) (by omega), tk_eq l cs _ _ hk.cons.2 hf]
      rw [tkA_cons, tkB_cons, List.foldl_append, List.foldl_append]
      unfold sm
      simp only
      rw [opt_fold, opt_fold]
  | [], c :: cs, _, _, _, hf => by cases hf
  | x :: l, [], _, _, _, hf => by cases hf
theorem opt_nf {c : Prop} [Decidable c] {x : S39} (h : ¬ c → 1 ≤ x.f2) : NF (if c then [] else [x]) := by
  split
  · exact NF.nil
  · exact NF.single (h ‹_›)
theorem U_opt' (c : Prop) [Decidable c] (x : S39) (f i : Int) : U (if c then [] else [x]) f i ↔ ¬ c ∧ In x f i := by
  split
  · rename_i h; simp [h, U_nil]
  · rename_i h; rw [U_single]; simp [h]
theorem sumN_opt (c : Prop) [Decidable c] (x : S39) (h : c → x.f2 = 0) : sumN (if c then [] else [x]) = x.f2 := by
  split
  · rename_i g; simp [sumN, h g]
  · simp [sumN]
/-- What is taken and what is left: sets, apart, together the lots. -/
structure TK (l : List S39) (A B : List S39) : Prop where
  nA : NF l → NF A
  nB : NF l → NF B
  pA : ∀ y ∈ A, ∃ x ∈ l, part x y ∧ 1 ≤ y.f2
  pB : ∀ y ∈ B, ∃ x ∈ l, part x y ∧ 1 ≤ y.f2
  un : ∀ f i, U l f i ↔ U A f i ∨ U B f i
  ap : NF l → ∀ f i, U A f i → ¬ U B f i
theorem tk_all : ∀ (l : List S39) (c : List Int), okS l → Fit l c → TK l (tkA l c) (tkB l c) ∧ sumN (tkA l c) = c.sum ∧ sumN (tkB l c) = sumN l - c.sum ∧ (tkA l c).length ≤ l.length ∧ (tkB l c).length ≤ l.length
  | [], [], _, _ => ⟨⟨fun _ => NF.nil, fun _ => NF.nil, by simp [tkA], by simp [tkB], fun f i => by simp [tkA, tkB, U_nil], fun _ f i h => absurd h (U_nil _ _)⟩, by simp [tkA, sumN], by simp [tkB, sumN], by simp [tkA], by simp [tkB]⟩
  | [], c :: cs, _, hf => by cases hf
  | x :: l, [], _, hf => by cases hf
  | x :: l, c :: cs, hk, hf => by
    cases hf with
    | cons h0 h1 hf =>
      obtain ⟨t, s1, s2, l1, l2⟩ := tk_all l cs hk.cons.2 hf
      have hx := hk.cons.1
      have pA' : ∀ y ∈ (if c = 0 then [] else [(⟨x.f0, x.f1, c⟩ : S39)]), part x y ∧ 1 ≤ y.f2 := fun y hy => by
        split at hy
        · simp at hy
        · rw [List.mem_singleton] at hy; subst hy; exact ⟨⟨rfl, Int.le_refl _, by simp only; omega⟩, by simp only; omega⟩
      have pB' : ∀ y ∈ (if x.f2 - c = 0 then [] else [(⟨x.f0, x.f1 + c, x.f2 - c⟩ : S39)]), part x y ∧ 1 ≤ y.f2 := fun y hy => by
        split at hy
        · simp at hy
        · rw [List.mem_singleton] at hy; subst hy; exact ⟨⟨rfl, by simp only; omega, by simp only; omega⟩, by simp only; omega⟩
      have after : NF (x :: l) → ∀ {P Q : List S39}, (∀ y ∈ P, part x y ∧ 1 ≤ y.f2) → (∀ y ∈ Q, ∃ z ∈ l, part z y ∧ 1 ≤ y.f2) → ∀ a ∈ P, ∀ b ∈ Q, bef a b := fun hn {P Q} hP hQ a ha b hb => by
        obtain ⟨z, hz, g, _⟩ := hQ b hb
        have := hn.cons.2.2 z hz
        have g2 := (hP a ha).1
        unfold part at g g2
        unfold bef at *
        omega
      have inx : ∀ f i, In x f i ↔ U (if c = 0 then [] else [(⟨x.f0, x.f1, c⟩ : S39)]) f i ∨ U (if x.f2 - c = 0 then [] else [(⟨x.f0, x.f1 + c, x.f2 - c⟩ : S39)]) f i := fun f i => by
        rw [U_opt', U_opt']
        unfold In
        simp only
        omega
      have disj : ∀ f i, U (if c = 0 then [] else [(⟨x.f0, x.f1, c⟩ : S39)]) f i → ¬ U (if x.f2 - c = 0 then [] else [(⟨x.f0, x.f1 + c, x.f2 - c⟩ : S39)]) f i := fun f i => by
        rw [U_opt', U_opt']
        unfold In
        simp only
        omega
      refine ⟨⟨fun hn => ?_, fun hn => ?_, fun y hy => ?_, fun y hy => ?_, fun f i => ?_, fun hn f i g1 g2 => ?_⟩, ?_, ?_, ?_, ?_⟩
      · exact NF.append (opt_nf (fun h => by simp only; omega)) (t.nA hn.cons.2.1) (after hn pA' t.pA)
      · exact NF.append (opt_nf (fun h => by simp only; omega)) (t.nB hn.cons.2.1) (after hn pB' t.pB)
      · rcases List.mem_append.1 hy with e | e
        · exact ⟨x, List.mem_cons_self .., pA' y e⟩
        · obtain ⟨z, hz, g⟩ := t.pA y e; exact ⟨z, List.mem_cons_of_mem _ hz, g⟩
      · rcases List.mem_append.1 hy with e | e
        · exact ⟨x, List.mem_cons_self .., pB' y e⟩
        · obtain ⟨z, hz, g⟩ := t.pB y e; exact ⟨z, List.mem_cons_of_mem _ hz, g⟩
      · rw [tkA_cons, tkB_cons, U_cons, U_append, U_append, t.un, inx]
        constructor
        · rintro ((g | g) | (g | g))
          · exact .inl (.inl g)
          · exact .inr (.inl g)
          · exact .inl (.inr g)
          · exact .inr (.inr g)
        · rintro ((g | g) | (g | g))
          · exact .inl (.inl g)
          · exact .inr (.inl g)
          · exact .inl (.inr g)
          · exact .inr (.inr g)
      · rw [tkA_cons, U_append] at g1
        rw [tkB_cons, U_append] at g2
        rcases g1 with g1 | g1 <;> rcases g2 with g2 | g2
        · exact disj f i g1 g2
        · exact hn.disjoint ((inx f i).2 (.inl g1)) ((t.un f i).2 (.inr g2))
        · exact hn.disjoint ((inx f i).2 (.inr g2)) ((t.un f i).2 (.inl g1))
        · exact t.ap hn.cons.2.1 f i g1 g2
      · rw [tkA_cons, sumN_append, s1, sumN_opt (c = 0) ⟨x.f0, x.f1, c⟩ (fun h => h), List.sum_cons]
      · rw [tkB_cons, sumN_append, s2, sumN_opt (x.f2 - c = 0) ⟨x.f0, x.f1 + c, x.f2 - c⟩ (fun h => h), List.sum_cons, sumN_cons]
        simp only
        omega
      · rw [tkA_cons, List.length_append, List.length_cons]
        have : (if c = 0 then [] else [(⟨x.f0, x.f1, c⟩ : S39)]).length ≤ 1 := by split <;> simp
        omega
      · rw [tkB_cons, List.length_append, List.length_cons]
        have : (if x.f2 - c = 0 then [] else [(⟨x.f0, x.f1 + c, x.f2 - c⟩ : S39)]).length ≤ 1 := by split <;> simp
        omega
theorem part_V {n : Nat} {l A : List S39} (h : V n l) (hA : ∀ y ∈ A, ∃ x ∈ l, part x y ∧ 1 ≤ y.f2) (hl : A.length ≤ l.length) : V n A :=
  ⟨⟨fun y hy => by obtain ⟨x, hx, g, g2⟩ := hA y hy; have := h.ok.ok x hx; unfold part at g; omega⟩, fun y hy => by obtain ⟨x, hx, g, g2⟩ := hA y hy; have := h.fl x hx; unfold part at g; omega, Nat.le_trans hl h.len⟩
theorem okX_of {n : Nat} {l : List S39} (h : V n l) : ∀ x ∈ l, okX x := fun x hx => by have := h.ok.ok x hx; unfold okX; omega
/-- Take from a set. -/
theorem Take_set (l : List S39) (n : Int) (mixed : Bool) (hn : NF l) (hV : V 8 l) (h0 : 0 ≤ n) (h1 : n ≤ 1099511627776) (h2 : n ≤ sumN l) :
    ∃ c : List Int, c.length = l.length ∧ Fit l c ∧ c.sum = n ∧ (∀ k, 200 ≤ k → lots_counts.f k l n mixed = some c) ∧ (∀ k, 250 ≤ k → lots_Take.f k l n mixed = some (tkA l c, tkB l c, 0)) := by
  have hlen := hV.len
  have ht : tot l = sumN l := tot_sum hV (by omega)
  have hw : (wts l).sum = sumN l := rfl
  obtain ⟨T, t1, t2, t3, t4, t5⟩ := Take_eq l n mixed (by omega)
  obtain ⟨e0, c, hc, hc2, e1⟩ := t5 (hV.valid (by omega)) h0 h1 (by omega)
  obtain ⟨g1, g2, g3⟩ := counts_spec l n mixed (by omega) (okX_of hV) h0 h1 (by omega) c hc2
  have hf := fit_of l c hc g2
  obtain ⟨tk1, tk2, tk3, tk4, tk5⟩ := tk_all l c hV.ok hf
  have vA := part_V hV tk1.pA tk4
  have vB := part_V hV tk1.pB tk5
  have hnA := tk1.nA hn
  have hnB := tk1.nB hn
  have lA := vA.len
  have lB := vB.len
  have jA := joins_NF (tkA l c) [] (by simpa using hnA) (by simpa using vA.ok) (by rw [List.nil_append]; omega)
  have jB := joins_NF (tkB l c) [] (by simpa using hnB) (by simpa using vB.ok) (by rw [List.nil_append]; omega)
  rw [List.nil_append] at jA jB
  rw [tk_eq l c [] [] hV.ok hf, jA, jB] at e1
  have eT : T = (tkA l c, tkB l c, 0) := by
    obtain ⟨a, b, d⟩ := T
    simp only at e0 e1
    cases e1
    rw [e0]
  exact ⟨c, hc, hf, g1, hc2, fun k hk => by rw [t1 k hk, eT]⟩
end Go.Proofs.Ytcicjbgfahdejaa.P
