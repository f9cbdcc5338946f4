/- This session's own: the operations on sets, the program's and the reference's, compute the same. -/
import Derived.Test.YtcicjbgfahdejaaQS5
namespace Go.Proofs.Ytcicjbgfahdejaa.P
open Go Go.RowKit Go.Sort Go.Proofs.YtcicjbgfahdejaaW.PrintWords Go.Proofs.YtcicjbgfahdejaaW.PrintLast Go.Proofs.YtcicjbgfahdejaaW.PrintMore
set_option linter.unusedSimpArgs false
set_option linter.unusedVariables false
theorem subs_len_flat (x1 : List S39) (hk : okS x1) : ∀ l : List S39, okS l → (l.flatMap fun x => subs x1 [x]).length ≤ l.length * (1 + x1.length)
  | [], _ => by simp
  | x :: l, h => by
    have h1 := (subs_ok x1 [x] hk (NF.single h.cons.1.2.2.1) ⟨fun w hw => by rw [List.mem_singleton] at hw; exact hw ▸ h.cons.1⟩).2.2.2
    have h2 := subs_len_flat x1 hk l h.cons.2
    rw [List.flatMap_cons, List.length_append, List.length_cons, Nat.add_mul]
    rw [List.length_singleton] at h1
    omega
theorem ref_Without_l0 (x0 x1 : List S39) (h0 : okS x0) (h1 : okS x1) (l0 : x0.length ≤ 4096) (l1 : x1.length ≤ 4096) : ∀ (d i : Nat) (out : List S39), i + d = x0.length → okS out → out.length + d * (1 + x1.length) ≤ 100000000 → ∀ K, (d + 1) * (5 * x1.length + 20) ≤ K → worldmintref14_Without.l0 K x0 x1 out (i : Int) = some (((x0.drop i).flatMap fun x => subs x1 [x]).foldl jn out) := by
  intro d
  induction d with
  | zero =>
    intro i out hi ho hlen K hK
    have e : x0.drop i = [] := List.drop_eq_nil_of_le (by omega)
    obtain ⟨K, rfl⟩ : ∃ q, K = q + 1 := ⟨K - 1, by omega⟩
    simp only [worldmintref14_Without.l0]
    rw [if_neg (by omega), e]
    rfl
  | succ d ih =>
    intro i out hi ho hlen K hK
    have hlt : i < x0.length := by omega
    have hd : x0.drop i = x0[i] :: x0.drop (i + 1) := List.drop_eq_getElem_cons hlt
    have hx := h0.ok _ (List.getElem_mem hlt)
    have hrd := rd39_nat x0 i hlt
    rw [Nat.add_mul, Nat.one_mul] at hK
    rw [Nat.add_mul, Nat.one_mul] at hlen
    rw [hd, List.flatMap_cons, List.foldl_append]
    generalize x0[i] = x at *
    have hok1 : okS [x] := ⟨fun w hw => by rw [List.mem_singleton] at hw; exact hw ▸ hx⟩
    obtain ⟨r1, r2, r3, r4⟩ := subs_ok x1 [x] h1 (NF.single hx.2.2.1) hok1
    rw [List.length_singleton] at r4
    obtain ⟨q1, q2, _, _⟩ := joins_all (subs x1 [x]) out ho r2 (by omega)
    obtain ⟨k, rfl⟩ : ∃ k, K = ((k + (subs x1 [x]).length + 1) + 3 * x1.length + 10 + x1.length) + 1 := ⟨K - (subs x1 [x]).length - 4 * x1.length - 12, by omega⟩
    have a1 := ref_Without_l1 x0 x1 out i h1 (by omega) x1.length 0 [x] (by omega) (NF.single hx.2.2.1) hok1 (by simp) (k + (subs x1 [x]).length + 1)
    rw [List.drop_zero] at a1
    have a2 := ref_Without_l2 x0 x1 i (subs x1 [x]) (by omega) r2 (by omega) (subs x1 [x]).length 0 out (by omega) ho (by omega) (k + 3 * x1.length + 9) (by omega)
    rw [List.drop_zero] at a2
    generalize hF : (k + (subs x1 [x]).length + 1) + 3 * x1.length + 10 + x1.length = F at *
    simp only [worldmintref14_Without.l0]
    rw [if_pos (by omega), if_pos (by omega), hrd]
    refine Eq.trans a1 ?_
    rw [show k + (subs x1 [x]).length + 1 + 3 * x1.length + 9 = k + 3 * x1.length + 9 + (subs x1 [x]).length + 1 + 1 - 1 by omega]
    have e : k + 3 * x1.length + 9 + (subs x1 [x]).length + 1 + 1 - 1 = (k + 3 * x1.length + 9) + (subs x1 [x]).length + 1 := by omega
    rw [e]
    refine Eq.trans a2 ?_
    rw [w64_1 i (by omega)]
    refine ih (i + 1) _ (by omega) q1 (by omega) _ ?_
    generalize (d + 1) * (5 * x1.length + 20) = Q at *
    omega
theorem ref_Without_eq (x0 x1 : List S39) (h0 : okS x0) (h1 : okS x1) (l0 : x0.length ≤ 300) (l1 : x1.length ≤ 300) (k : Nat) (hk : 500000 ≤ k) : worldmintref14_Without.f k x0 x1 = some ((x0.flatMap fun x => subs x1 [x]).foldl jn []) := by
  unfold worldmintref14_Without.f
  have v0 := (okS_valid x0).2 ⟨by omega, h0⟩
  have v1 := (okS_valid x1).2 ⟨by omega, h1⟩
  rw [ref_Valid_eq x0 k (by omega) (by omega), Option.bind_some, ref_Valid_eq x1 k (by omega) (by omega), Option.bind_some, v0, v1, if_pos rfl]
  obtain ⟨k, rfl⟩ : ∃ q, k = q + 1 := ⟨k - 1, by omega⟩
  simp only [worldmintref14_Without.j0]
  rw [Bool.not_true, if_neg (by decide)]
  have hb1 : x0.length * (1 + x1.length) ≤ 300 * 301 := Nat.mul_le_mul l0 (by omega)
  have hb2 : (x0.length + 1) * (5 * x1.length + 20) ≤ 301 * 1520 := Nat.mul_le_mul (by omega) (by omega)
  have := ref_Without_l0 x0 x1 h0 h1 (by omega) (by omega) x0.length 0 [] (by omega) okS.nil (by simp; omega) k (by omega)
  rw [List.drop_zero] at this
  exact this
/-- What is left of a lot is the same by both. -/
theorem pc_subs (S x1 : List S39) (x : S39) (hS : Good1 S) (hU : ∀ f i, U S f i ↔ U x1 f i) (h1 : okS x1) (hx : ok1 x) (fx : x.f0 ≤ 9223372036854775807) (hl : S.length ≤ 1000000) : pc S false x = subs x1 [x] := by
  have hx' := hx
  unfold ok1 at hx'
  obtain ⟨a1, a2, a3⟩ := pc_units (pc_ok S x hS.nf hS.ok hx hS.fl fx hl).2 false
  obtain ⟨b1, b2, b3, _⟩ := subs_ok x1 [x] h1 (NF.single hx'.2.2.1) ⟨fun w hw => by rw [List.mem_singleton] at hw; exact hw ▸ hx⟩
  refine NF.unique a1 b1 (fun f i => ?_)
  rw [a3, b3, U_single, hU]
  simp
theorem flatMap_congr' {l : List S39} {g h : S39 → List S39} (e : ∀ x ∈ l, g x = h x) : l.flatMap g = l.flatMap h := by
  induction l with
  | nil => rfl
  | cons x l ih => rw [List.flatMap_cons, List.flatMap_cons, e x (List.mem_cons_self ..), ih (fun y hy => e y (List.mem_cons_of_mem _ hy))]
/-! ### both, side by side -/
structure V (n : Nat) (a : List S39) : Prop where
  ok : okS a
  fl : fl a
  len : a.length ≤ n
theorem V.valid {n : Nat} {a : List S39} (h : V n a) (hn : n ≤ 4096) : valid a = true := (okS_valid a).2 ⟨by have := h.len; omega, h.ok⟩
theorem set_good {n : Nat} {a : List S39} (h : V n a) (hn : n ≤ 300) : ∃ r, Good1 r ∧ (∀ f i, U r f i ↔ U a f i) ∧ r.length ≤ a.length ∧ ∀ k, 10000 ≤ k → lots_set.f k a = some r := by
  have hl := h.len
  obtain ⟨r, h1, h2, h3, h4, h5⟩ := set_eq a h.ok (by omega) h.fl
  refine ⟨r, ⟨h1, h2, fun x hx => ?_⟩, h3, h4, fun k hk => h5 k (by omega)⟩
  have := h2.ok x hx
  obtain ⟨y, hy, g1, g2, g3⟩ := (h3 x.f0 x.f1).1 ⟨x, hx, rfl, by omega, by omega⟩
  have := h.fl y hy
  omega
theorem Set_both {n : Nat} {a : List S39} (h : V n a) (hn : n ≤ 300) : ∃ r, Good1 r ∧ (∀ f i, U r f i ↔ U a f i) ∧ r.length ≤ a.length ∧ (∀ k, 1000000 ≤ k → lots_set.f k a = some r) ∧ (∀ k, 1000000 ≤ k → lots_Set.f k a = some r) ∧ (∀ k, 1000000 ≤ k → worldmintref14_Set.f k a = some r) := by
  have hl := h.len
  obtain ⟨r, h1, h2, h3, h4⟩ := set_good h hn
  obtain ⟨r', g1, g2, g3, g4⟩ := ref_Set_eq a (h.valid (by omega)) h.fl
  obtain rfl : r = r' := NF.unique h1.nf g1.nf (fun f i => by rw [h2, g2])
  refine ⟨r, h1, h2, h3, fun k hk => h4 k (by omega), fun k hk => ?_, fun k hk => g4 k (by omega)⟩
  unfold lots_Set.f
  rw [lots_Valid_eq, Option.bind_some, if_pos (h.valid (by omega)), h4 k (by omega), Option.bind_some]
theorem concat_eq (a b : List S39) (h : a.length + b.length ≤ 1000) (k : Nat) (hk : 10 ≤ k) : api_Lot_65.f k [a, b] = some (a ++ b) := by
  obtain ⟨k, rfl⟩ : ∃ q, k = q + 6 := ⟨k - 6, by omega⟩
  have r0 : rd_L2 [a, b] 0 = a := rfl
  have r1 : rd_L2 [a, b] 1 = b := rfl
  have w1 : wrap64 (0 + 1) = 1 := by unfold wrap64; omega
  have w2 : wrap64 (1 + 1) = 2 := by unfold wrap64; omega
  have w3 : wrap64 (0 + (a.length : Int)) = (a.length : Int) := by unfold wrap64; omega
  have w4 : wrap64 ((a.length : Int) + (b.length : Int)) = (a.length : Int) + (b.length : Int) := by unfold wrap64; omega
  have l2 : (([a, b] : List (List S39)).length : Int) = 2 := rfl
  unfold api_Lot_65.f
  unfold api_Lot_65.l0
  rw [l2, if_pos (by omega), if_pos (by omega), if_pos (by omega), r0, w3, if_neg (by omega), w1]
  unfold api_Lot_65.l0
  rw [if_pos (by omega), if_pos (by omega), l2, if_pos (by omega), r1, w4, if_neg (by omega), w2]
  unfold api_Lot_65.l0
  rw [if_neg (by omega)]
  unfold api_Lot_84.f
  rw [if_pos (by omega), Option.bind_some, l2]
  unfold api_Lot_65.l1
  rw [if_pos (by omega), if_pos (by omega), l2, if_pos (by omega), r0, if_pos (by simp; omega), w1, List.nil_append]
  unfold api_Lot_65.l1
  rw [if_pos (by omega), if_pos (by omega), l2, if_pos (by omega), r1, if_pos (by omega), w2]
  unfold api_Lot_65.l1
  rw [if_neg (by omega)]
theorem fl_append {a b : List S39} (ha : fl a) (hb : fl b) : fl (a ++ b) := fun x hx => by
  rcases List.mem_append.1 hx with e | e
  · exact ha x e
  · exact hb x e
theorem Union_both {n m : Nat} {a b : List S39} (ha : V n a) (hb : V m b) (hn : n + m ≤ 300) : ∃ r, Good1 r ∧ (∀ f i, U r f i ↔ U a f i ∨ U b f i) ∧ r.length ≤ a.length + b.length ∧ (∀ k, 1000000 ≤ k → lots_Union.f k a b = some r) ∧ (∀ k, 1000000 ≤ k → worldmintref14_Union.f k a b = some r) := by
  have la := ha.len
  have lb := hb.len
  have va := ha.valid (by omega)
  have vb := hb.valid (by omega)
  obtain ⟨r, h1, h2, h3, h4⟩ := set_good (n := n + m) (a := a ++ b) ⟨ha.ok.append hb.ok, fl_append ha.fl hb.fl, by rw [List.length_append]; omega⟩ (by omega)
  obtain ⟨s, s1, s2, s3, s4⟩ := ref_Set_eq a va ha.fl
  obtain ⟨r', g1, g2, g3, g4⟩ := ref_Union_l0 b hb.ok hb.fl (by omega) a.length b.length 0 s (by omega) s1 (by omega) (by omega)
  rw [List.drop_zero] at g2
  obtain rfl : r = r' := NF.unique h1.nf g1.nf (fun f i => by rw [h2, g2, U_append, s2])
  refine ⟨r, h1, fun f i => by rw [h2, U_append], by rw [List.length_append] at h3; exact h3, fun k hk => ?_, fun k hk => ?_⟩
  · obtain ⟨k, rfl⟩ : ∃ q, k = q + 1 := ⟨k - 1, by omega⟩
    unfold lots_Union.f
    rw [lots_Valid_eq, Option.bind_some, if_pos va, lots_Valid_eq, Option.bind_some, vb]
    simp only [lots_Union.j0]
    rw [Bool.not_true, if_neg (by decide), concat_eq a b (by omega) k (by omega), Option.bind_some, h4 k (by omega), Option.bind_some]
  · obtain ⟨k, rfl⟩ : ∃ q, k = (q + 2 * (a.length + b.length) + 2 + b.length) + 1 := ⟨k - 2 * (a.length + b.length) - 3 - b.length, by omega⟩
    have := g4 k
    generalize k + 2 * (a.length + b.length) + 2 + b.length = K at *
    unfold worldmintref14_Union.f
    rw [ref_Valid_eq a _ (by omega) (by omega), Option.bind_some, ref_Valid_eq b _ (by omega) (by omega), Option.bind_some, va, vb, if_pos rfl]
    simp only [worldmintref14_Union.j0]
    rw [Bool.not_true, if_neg (by decide), s4 K (by omega), Option.bind_some]
    exact this
theorem Without_both {n m : Nat} {a b : List S39} (ha : V n a) (hb : V m b) (hn : n ≤ 150) (hm : m ≤ 150) : ∃ S, Good1 S ∧ (∀ f i, U S f i ↔ U b f i) ∧ S.length ≤ b.length ∧ Chosen a S false (a.flatMap (pc S false)) ∧ (a.flatMap (pc S false)) = (a.flatMap fun x => subs b [x]) ∧ (∀ k, 1000000 ≤ k → lots_Without.f k a b = some ((a.flatMap (pc S false)).foldl jn [])) ∧ (∀ k, 500000 ≤ k → worldmintref14_Without.f k a b = some ((a.flatMap (pc S false)).foldl jn [])) := by
  have la := ha.len
  have lb := hb.len
  have va := ha.valid (by omega)
  have vb := hb.valid (by omega)
  obtain ⟨S, h1, h2, h3, h4⟩ := set_good hb (by omega)
  have e : (a.flatMap (pc S false)) = (a.flatMap fun x => subs b [x]) := flatMap_congr' (fun x hx => pc_subs S b x h1 h2 hb.ok (ha.ok.ok x hx) (ha.fl x hx) (by omega))
  refine ⟨S, h1, h2, h3, flat_chosen a S false h1.nf h1.ok ha.ok h1.fl ha.fl (by omega), e, fun k hk => ?_, fun k hk => ?_⟩
  · obtain ⟨k, rfl⟩ : ∃ q, k = q + 1 := ⟨k - 1, by omega⟩
    unfold lots_Without.f
    rw [lots_Valid_eq, Option.bind_some, if_pos va, lots_Valid_eq, Option.bind_some, vb]
    simp only [lots_Without.j0]
    rw [Bool.not_true, if_neg (by decide), h4 k (by omega), Option.bind_some, chosen_eq a S false h1.nf h1.ok ha.ok h1.fl ha.fl (by omega) (by omega), Option.bind_some]
  · rw [e]
    exact ref_Without_eq a b ha.ok hb.ok (by omega) (by omega) k hk
theorem Minus_both {n m : Nat} {a b : List S39} (ha : V n a) (hb : V m b) (hn : n ≤ 150) (hm : m ≤ 150) : ∃ r, Good1 r ∧ (∀ f i, U r f i ↔ U a f i ∧ ¬ U b f i) ∧ r.length ≤ a.length + b.length ∧ (∀ k, 1000000 ≤ k → lots_Minus.f k a b = some r) ∧ (∀ k, 1000000 ≤ k → worldmintref14_Minus.f k a b = some r) := by
  have la := ha.len
  have lb := hb.len
  have va := ha.valid (by omega)
  have vb := hb.valid (by omega)
  obtain ⟨A, a1, a2, a3, a4, _, a5⟩ := Set_both ha (by omega)
  obtain ⟨S, h1, h2, h3, h4⟩ := set_good hb (by omega)
  have hA : V n A := ⟨a1.ok, a1.fl, by omega⟩
  obtain ⟨c1, c2, c3, c4⟩ := flat_chosen A S false h1.nf h1.ok a1.ok h1.fl a1.fl (by omega)
  have hN := c2 a1.nf
  have hb2 : A.length * (2 * S.length + 1) ≤ 150 * 301 := Nat.mul_le_mul (by omega) (by omega)
  have hfl := flat_len S false A
  have ej := joins_NF (A.flatMap (pc S false)) [] (by simpa using hN) (by simpa using c1) (by simp only [List.nil_append]; omega)
  rw [List.nil_append] at ej
  have e : (A.flatMap (pc S false)) = (A.flatMap fun x => subs b [x]) := flatMap_congr' (fun x hx => pc_subs S b x h1 h2 hb.ok (a1.ok.ok x hx) (a1.fl x hx) (by omega))
  obtain ⟨d1, d2, d3, d4⟩ := subs_ok b A hb.ok a1.nf a1.ok
  have eL : A.flatMap (pc S false) = subs b A := NF.unique hN d1 (fun f i => by rw [c3, d3, h2]; simp)
  refine ⟨A.flatMap (pc S false), ⟨hN, c1, c4⟩, fun f i => by rw [c3, a2, h2]; simp, by rw [eL]; omega, fun k hk => ?_, fun k hk => ?_⟩
  · obtain ⟨k, rfl⟩ : ∃ q, k = q + 1 := ⟨k - 1, by omega⟩
    obtain ⟨A', a1', a2', a3', a4'⟩ := set_good ha (by omega)
    have eA : A' = A := NF.unique a1'.nf a1.nf (fun f i => by rw [a2', a2])
    unfold lots_Minus.f
    rw [lots_Valid_eq, Option.bind_some, if_pos va, lots_Valid_eq, Option.bind_some, vb]
    simp only [lots_Minus.j0]
    rw [Bool.not_true, if_neg (by decide), a4' k (by omega), Option.bind_some, eA, h4 k (by omega), Option.bind_some, chosen_eq A S false h1.nf h1.ok a1.ok h1.fl a1.fl (by omega) (by omega), Option.bind_some, ej]
  · unfold worldmintref14_Minus.f
    rw [a5 k hk, Option.bind_some, ref_Without_eq A b a1.ok hb.ok (by omega) (by omega) k (by omega), Option.bind_some, ← e, ej]
theorem Meet_both {n m : Nat} {a b : List S39} (ha : V n a) (hb : V m b) (hn : n + m ≤ 150) : ∃ r, Good1 r ∧ (∀ f i, U r f i ↔ U a f i ∧ U b f i) ∧ r.length ≤ 2 * a.length + b.length ∧ (∀ k, 1000000 ≤ k → lots_Meet.f k a b = some r) ∧ (∀ k, 1000000 ≤ k → worldmintref14_Meet.f k a b = some r) := by
  have la := ha.len
  have lb := hb.len
  have va := ha.valid (by omega)
  have vb := hb.valid (by omega)
  obtain ⟨M, m1, m2, m3, m4, m5⟩ := Minus_both ha hb (by omega) (by omega)
  obtain ⟨R, r1, r2, r3, r4, r5⟩ := Minus_both ha (b := M) (m := n + m) ⟨m1.ok, m1.fl, by omega⟩ (by omega) (by omega)
  obtain ⟨A, a1, a2, a3, a4⟩ := set_good ha (by omega)
  obtain ⟨S, h1, h2, h3, h4⟩ := set_good hb (by omega)
  obtain ⟨c1, c2, c3, c4⟩ := flat_chosen A S true h1.nf h1.ok a1.ok h1.fl a1.fl (by omega)
  have hN := c2 a1.nf
  have hb2 : A.length * (2 * S.length + 1) ≤ 150 * 301 := Nat.mul_le_mul (by omega) (by omega)
  have hfl := flat_len S true A
  have ej := joins_NF (A.flatMap (pc S true)) [] (by simpa using hN) (by simpa using c1) (by simp only [List.nil_append]; omega)
  rw [List.nil_append] at ej
  have hRU : ∀ f i, U R f i ↔ U a f i ∧ U b f i := fun f i => by
    rw [r2, m2]
    constructor
    · rintro ⟨g1, g2⟩
      refine ⟨g1, Classical.byContradiction (fun h => g2 ⟨g1, h⟩)⟩
    · rintro ⟨g1, g2⟩
      exact ⟨g1, fun h => h.2 g2⟩
  have eR : A.flatMap (pc S true) = R := NF.unique hN r1.nf (fun f i => by rw [c3, hRU, a2, h2]; simp)
  refine ⟨R, r1, hRU, by omega, fun k hk => ?_, fun k hk => ?_⟩
  · obtain ⟨k, rfl⟩ : ∃ q, k = q + 1 := ⟨k - 1, by omega⟩
    unfold lots_Meet.f
    rw [lots_Valid_eq, Option.bind_some, if_pos va, lots_Valid_eq, Option.bind_some, vb]
    simp only [lots_Meet.j0]
    rw [Bool.not_true, if_neg (by decide), a4 k (by omega), Option.bind_some, h4 k (by omega), Option.bind_some, chosen_eq A S true h1.nf h1.ok a1.ok h1.fl a1.fl (by omega) (by omega), Option.bind_some, ej, eR]
  · unfold worldmintref14_Meet.f
    rw [ref_Valid_eq b k (by omega) (by omega), Option.bind_some, vb, if_pos rfl, m5 k hk, Option.bind_some, r5 k hk, Option.bind_some]
theorem nil_iff {r : List S39} (h : okS r) : r = [] ↔ ∀ f i, ¬ U r f i := by
  constructor
  · rintro rfl f i; exact U_nil f i
  · intro hn
    cases r with
    | nil => rfl
    | cons x r => exact absurd ⟨x, List.mem_cons_self .., rfl, by omega, by have := h.cons.1; omega⟩ (hn x.f0 x.f1)
theorem Within_both {n m : Nat} {a b : List S39} (ha : V n a) (hb : V m b) (hn : n ≤ 150) (hm : m ≤ 150) : ∃ w : Bool, (w = true ↔ ∀ f i, U a f i → U b f i) ∧ (∀ k, 1000000 ≤ k → lots_Within.f k a b = some w) ∧ (∀ k, 1000000 ≤ k → worldmintref14_Within.f k a b = some w) := by
  have la := ha.len
  have lb := hb.len
  have va := ha.valid (by omega)
  have vb := hb.valid (by omega)
  obtain ⟨M, m1, m2, m3, m4, m5⟩ := Minus_both ha hb hn hm
  refine ⟨(M.length : Int) == 0, ?_, fun k hk => ?_, fun k hk => ?_⟩
  · have : ((M.length : Int) == 0) = true ↔ M = [] := by
      rw [beq_iff_eq]
      constructor
      · intro h; exact List.eq_nil_of_length_eq_zero (by omega)
      · rintro rfl; rfl
    rw [this, nil_iff m1.ok]
    constructor
    · intro h f i hu
      exact Classical.byContradiction (fun hb => h f i ((m2 f i).2 ⟨hu, hb⟩))
    · intro h f i hu
      have := (m2 f i).1 hu
      exact this.2 (h f i this.1)
  · unfold lots_Within.f
    rw [lots_Valid_eq, Option.bind_some, if_pos va, lots_Valid_eq, Option.bind_some, if_pos vb, m4 k hk, Option.bind_some]
  · unfold worldmintref14_Within.f
    rw [ref_Valid_eq a k (by omega) (by omega), Option.bind_some, ref_Valid_eq b k (by omega) (by omega), Option.bind_some, if_pos va, if_pos vb, m5 k hk, Option.bind_some]
end Go.Proofs.Ytcicjbgfahdejaa.P
