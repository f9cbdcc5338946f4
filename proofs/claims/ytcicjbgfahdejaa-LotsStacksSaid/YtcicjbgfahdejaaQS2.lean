/- This session's own: lots.set computes the normal form. -/
import Derived.Test.YtcicjbgfahdejaaQS1
import Derived.Sort.AssemblyPlain
namespace Go.Proofs.Ytcicjbgfahdejaa.P
open Go Go.RowKit Go.Sort Go.Proofs.YtcicjbgfahdejaaW.PrintWords Go.Proofs.YtcicjbgfahdejaaW.PrintLast Go.Proofs.YtcicjbgfahdejaaW.PrintMore
set_option linter.unusedSimpArgs false
set_option linter.unusedVariables false
def lex (x y : S39) : Prop := x.f0 < y.f0 ∨ x.f0 = y.f0 ∧ x.f1 ≤ y.f1
theorem sortL_spec (l : List S39) (h : l.all okLot = true) : (sortL l h).Perm l ∧ (sortL l h).Pairwise lex := by
  unfold sortL
  generalize hd : (toP l h).toArray = d
  have hdl : d.toList = toP l h := by rw [← hd]
  obtain ⟨⟨p1, p2, p3⟩, hs⟩ := pdq_sorts (ltOf cfL) swoL d 0 d.size (Lib.bitLen d.size) true true (Nat.zero_le _) (Nat.le_refl _) (Or.inl rfl)
  generalize hr : pdq (ltOf cfL) d 0 d.size (Lib.bitLen d.size) true true = r at *
  have he : ∀ t : Array PLot, t.size = d.size → t.extract 0 d.size = t := fun t ht => by
    rw [← ht]; exact Array.extract_size
  rw [he r p1, he d rfl, hdl] at p3
  refine ⟨?_, ?_⟩
  · have := p3.map (·.1)
    rw [toP_val] at this
    exact this
  · refine List.pairwise_iff_getElem.2 (fun i j hi hj hij => ?_)
    simp only [List.length_map, Array.length_toList] at hi hj
    have := hs i j (Nat.zero_le _) hij (by omega)
    rw [ltL, decide_eq_false_iff_not, getElem!_pos r i hi, getElem!_pos r j hj] at this
    simp only [List.getElem_map, Array.getElem_toList]
    unfold lex
    omega
/-! ### merging -/
def ms : S39 → List S39 → List S39
  | c, [] => [c]
  | c, x :: xs => if c.f0 = x.f0 ∧ x.f1 ≤ c.f1 + c.f2 then ms ⟨c.f0, c.f1, mx (c.f1 + c.f2) (x.f1 + x.f2) - c.f1⟩ xs else c :: ms x xs
theorem mx_le (a b : Int) : a ≤ mx a b ∧ b ≤ mx a b ∧ (mx a b = a ∨ mx a b = b) := by unfold mx; split <;> omega
theorem mn_le (a b : Int) : mn a b ≤ a ∧ mn a b ≤ b ∧ (mn a b = a ∨ mn a b = b) := by unfold mn; split <;> omega
theorem ms_ok : ∀ (xs : List S39) (c : S39), (c :: xs).Pairwise lex → okS (c :: xs) → NF (ms c xs) ∧ okS (ms c xs) ∧ (∀ f i, U (ms c xs) f i ↔ U (c :: xs) f i) ∧ (∀ z ∈ ms c xs, lex c z) ∧ (ms c xs).length ≤ xs.length + 1
  | [], c, _, hk => ⟨NF.single hk.cons.1.2.2.1, hk, fun f i => Iff.rfl, fun z hz => by rw [ms, List.mem_singleton] at hz; subst hz; exact .inr ⟨rfl, Int.le_refl _⟩, by simp [ms]⟩
  | x :: xs, c, hp, hk => by
    obtain ⟨hp1, hp2⟩ := List.pairwise_cons.1 hp
    obtain ⟨hc, hk2⟩ := hk.cons
    have hx := hk2.cons.1
    have hcx := hp1 x (List.mem_cons_self ..)
    unfold ms
    by_cases h : c.f0 = x.f0 ∧ x.f1 ≤ c.f1 + c.f2
    · rw [if_pos h]
      have hm := mx_le (c.f1 + c.f2) (x.f1 + x.f2)
      generalize hM : mx (c.f1 + c.f2) (x.f1 + x.f2) = M at *
      have hx1 : c.f1 ≤ x.f1 := by unfold lex at hcx; omega
      obtain ⟨r1, r2, r3, r4, r5⟩ := ms_ok xs ⟨c.f0, c.f1, M - c.f1⟩ (List.pairwise_cons.2 ⟨fun y hy => hp1 y (List.mem_cons_of_mem _ hy), (List.pairwise_cons.1 hp2).2⟩)
        ⟨fun y hy => by
          rcases List.mem_cons.1 hy with e | e
          · subst e; simp only; omega
          · exact hk2.cons.2.ok y e⟩
      refine ⟨r1, r2, fun f i => ?_, r4, by simp only [List.length_cons]; omega⟩
      rw [r3, U_cons, U_cons, U_cons, ← or_assoc]
      refine or_congr ?_ Iff.rfl
      unfold In
      simp only
      constructor
      · rintro ⟨g1, g2, g3⟩
        by_cases hlt : i < c.f1 + c.f2
        · exact .inl ⟨g1, g2, hlt⟩
        · exact .inr ⟨by omega, by omega, by omega⟩
      · rintro (⟨g1, g2, g3⟩ | ⟨g1, g2, g3⟩)
        · exact ⟨g1, g2, by omega⟩
        · exact ⟨by omega, by omega, by omega⟩
    · rw [if_neg h]
      obtain ⟨r1, r2, r3, r4, r5⟩ := ms_ok xs x hp2 hk2
      refine ⟨NF.mk' hc.2.2.1 r1 (fun y hy => ?_), ⟨fun y hy => ?_⟩, fun f i => ?_, fun z hz => ?_, by simp only [List.length_cons]; omega⟩
      · have := r4 y hy
        unfold lex at this hcx
        unfold bef
        omega
      · rcases List.mem_cons.1 hy with e | e
        · exact e ▸ hc
        · exact r2.ok y e
      · rw [U_cons, r3, U_cons, U_cons, U_cons]
      · rcases List.mem_cons.1 hz with e | e
        · subst e; exact .inr ⟨rfl, Int.le_refl _⟩
        · have := r4 z e
          unfold lex at *
          omega
theorem lots_set_l0 (s : List S39) (hl : s.length ≤ 4611686018427387904) (hs : s.length < 5864062014805) (hk : okS s) : ∀ (d i : Nat) (pre : List S39) (c : S39), i + d = s.length → (0 ≤ c.f0 ∧ 0 ≤ c.f1 ∧ 1 ≤ c.f2 ∧ c.f1 + c.f2 ≤ 1099511627776) → (c :: s.drop i).Pairwise lex → pre.length + 1 ≤ i → ∀ k,
    lots_set.l0 (k + 2 * d + 1) (pre ++ [c]) s (s.length : Int) (i : Int) = some (pre ++ ms c (s.drop i)) := by
  intro d
  induction d with
  | zero =>
    intro i pre c hi hc hp hpre k
    simp only [lots_set.l0]
    have e1 : s.drop i = [] := List.drop_eq_nil_of_le (by omega)
    rw [if_neg (by omega), e1, ms]
  | succ d ih =>
    intro i pre c hi hc hp hpre k
    have hlt : i < s.length := by omega
    rw [show k + 2 * (d + 1) + 1 = ((k + 2 * d + 1) + 1) + 1 by omega]
    generalize hK : k + 2 * d + 1 = K
    have e1 : wrap64 (((pre ++ [c]).length : Int) - 1) = (pre.length : Int) := by rw [List.length_append, List.length_singleton]; unfold wrap64; omega
    have e2 : rd_T39 (pre ++ [c]) (pre.length : Int) = c := by rw [rd39_nat _ _ (by simp)]; exact List.getElem_concat_length rfl _
    have hx : okS (rd_T39 s (i : Int) :: s.drop (i + 1)) := by
      rw [← drop_cons s i hlt]
      exact ⟨fun y hy => hk.ok y (List.mem_of_mem_drop hy)⟩
    rw [drop_cons s i hlt] at hp ⊢
    have hxx := hx.cons.1
    have hcx := (List.pairwise_cons.1 hp).1 _ (List.mem_cons_self ..)
    have e3 : wrap64 (c.f1 + c.f2) = c.f1 + c.f2 := w64 (by omega) (by omega)
    have e4 : wrap64 ((rd_T39 s (i : Int)).f1 + (rd_T39 s (i : Int)).f2) = (rd_T39 s (i : Int)).f1 + (rd_T39 s (i : Int)).f2 := w64 (by omega) (by omega)
    simp only [lots_set.l0]
    rw [if_pos (by omega), if_pos (by omega), if_pos (by omega), if_pos (by rw [List.length_append, List.length_singleton]; omega), e1, if_pos (by omega), if_pos (by rw [List.length_append, List.length_singleton]; omega), e2]
    generalize hX : rd_T39 s (i : Int) = x at *
    have gN : ¬ (c.f0 = x.f0 ∧ x.f1 ≤ c.f1 + c.f2) → lots_set.j1 (K + 1) (pre ++ [c]) ((pre ++ [c]).length : Int) s (s.length : Int) (i : Int) false x.f0 x.f1 x.f2 = some (pre ++ ms c (x :: s.drop (i + 1))) := by
      intro h
      simp only [lots_set.j1]
      rw [if_neg (by decide), if_pos (by rw [List.length_append, List.length_singleton]; omega), w64_1 i (by omega)]
      have := ih (i + 1) (pre ++ [c]) x (by omega) hxx (List.pairwise_cons.1 hp).2 (by rw [List.length_append, List.length_singleton]; omega) k
      rw [hK] at this
      rw [show ms c (x :: s.drop (i + 1)) = c :: ms x (s.drop (i + 1)) by rw [ms, if_neg h]]
      rw [show pre ++ c :: ms x (s.drop (i + 1)) = pre ++ [c] ++ ms x (s.drop (i + 1)) by simp]
      exact this
    by_cases h0 : c.f0 = x.f0
    · rw [if_pos h0]
      simp only [lots_end.f, Option.bind_some, e3]
      by_cases h1 : x.f1 ≤ c.f1 + c.f2
      · rw [decide_eq_true h1]
        simp only [lots_set.j1]
        have hm := mx_le (c.f1 + c.f2) (x.f1 + x.f2)
        have hx1 : c.f1 ≤ x.f1 := by unfold lex at hcx; omega
        rw [if_pos trivial, e1, if_pos (by omega), if_pos (by rw [List.length_append, List.length_singleton]; omega), e2]
        rw [show lots_end.f c.f0 c.f1 c.f2 = some (c.f1 + c.f2) from congrArg some e3, Option.bind_some, show lots_end.f x.f0 x.f1 x.f2 = some (x.f1 + x.f2) from congrArg some e4, Option.bind_some]
        rw [w64 (x := mx (c.f1 + c.f2) (x.f1 + x.f2) - c.f1) (by omega) (by omega), w64_1 i (by omega), Int.toNat_natCast, List.set_append_right _ _ (by omega), Nat.sub_self, List.set_cons_zero]
        rw [show ms c (x :: s.drop (i + 1)) = ms ⟨c.f0, c.f1, mx (c.f1 + c.f2) (x.f1 + x.f2) - c.f1⟩ (s.drop (i + 1)) by rw [ms, if_pos ⟨h0, h1⟩], ← hK]
        refine ih (i + 1) pre ⟨c.f0, c.f1, mx (c.f1 + c.f2) (x.f1 + x.f2) - c.f1⟩ (by omega) (by simp only; omega) (List.pairwise_cons.2 ⟨fun y hy => (List.pairwise_cons.1 hp).1 y (List.mem_cons_of_mem _ hy), (List.pairwise_cons.1 (List.pairwise_cons.1 hp).2).2⟩) (by omega) k
      · rw [decide_eq_false h1]
        exact gN (fun h => h1 h.2)
    · rw [if_neg h0]
      exact gN (fun h => h0 h.1)
theorem set_eq (l : List S39) (hk : okS l) (hl : l.length ≤ 1000000) (hf : ∀ x ∈ l, x.f0 ≤ 9223372036854775807) : ∃ s : List S39, NF s ∧ okS s ∧ (∀ f i, U s f i ↔ U l f i) ∧ s.length ≤ l.length ∧ ∀ k, 2 * l.length + 3 ≤ k → lots_set.f k l = some s := by
  have hall : l.all okLot = true := List.all_eq_true.2 (fun x hx => by
    have := hk.ok x hx
    have := hf x hx
    unfold okLot
    simp only [decide_eq_true_eq]
    omega)
  obtain ⟨hp, hs⟩ := sortL_spec l hall
  have hks : okS (sortL l hall) := ⟨fun x hx => hk.ok x (hp.mem_iff.1 hx)⟩
  have hlen := hp.length_eq
  have hU : ∀ f i, U (sortL l hall) f i ↔ U l f i := fun f i => ⟨fun ⟨x, hx, h⟩ => ⟨x, hp.mem_iff.1 hx, h⟩, fun ⟨x, hx, h⟩ => ⟨x, hp.mem_iff.2 hx, h⟩⟩
  have e0 : ∀ k, lots_set.f k l = lots_set.l0 k [] (sortL l hall) (l.length : Int) 0 := fun k => by
    unfold lots_set.f api_Lot_59.f api_Lot_80.f
    rw [if_pos (by omega), Option.bind_some, dif_pos hall, if_pos (by omega), Option.bind_some]
  generalize sortL l hall = s at *
  rw [← hlen] at e0
  cases hsl : s with
  | nil =>
    subst hsl
    refine ⟨[], NF.nil, okS.nil, hU, by simp, fun k hk => ?_⟩
    obtain ⟨k, rfl⟩ : ∃ q, k = q + 1 := ⟨k - 1, by omega⟩
    rw [e0]
    simp only [lots_set.l0]
    rw [if_neg (by simp)]
  | cons c xs =>
    obtain ⟨r1, r2, r3, r4, r5⟩ := ms_ok xs c (hsl ▸ hs) (hsl ▸ hks)
    refine ⟨ms c xs, r1, r2, fun f i => by rw [r3, ← hsl]; exact hU f i, by rw [← hlen, hsl]; exact r5, fun k hk => ?_⟩
    rw [e0]
    have hl1 : s.length = xs.length + 1 := by rw [hsl]; rfl
    have hc := (hsl ▸ hks : okS (c :: xs)).cons.1
    obtain ⟨k, rfl⟩ : ∃ q, k = ((q + 2 * xs.length + 1) + 1) + 1 := ⟨k - 2 * xs.length - 3, by omega⟩
    have e2 : rd_T39 s (0 : Int) = c := by rw [hsl]; rfl
    have := lots_set_l0 s (by omega) (by omega) hks xs.length 1 [] c (by omega) hc (by rw [hsl]; exact hsl ▸ hs) (by simp) k
    generalize k + 2 * xs.length + 1 = K at *
    simp only [lots_set.l0]
    rw [if_pos (by omega), if_pos (by omega), if_pos (by omega), if_neg (by simp), e2]
    simp only [lots_set.j1]
    rw [if_neg (by decide), if_pos (by simp), show wrap64 (0 + 1) = ((1 : Nat) : Int) by unfold wrap64; omega]
    rw [hsl] at this ⊢
    exact this
end Go.Proofs.Ytcicjbgfahdejaa.P
