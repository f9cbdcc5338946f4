/- This session's own: the law LotsAlgebra, plainly. -/
import Derived.Test.YtcicjbgfahdejaaQS7
import Derived.Test.YtcicjbgfahdejaaQL3
namespace Go.Proofs.Ytcicjbgfahdejaa.P
open Go Go.RowKit Go.Sort Go.Proofs.YtcicjbgfahdejaaW.PrintWords Go.Proofs.YtcicjbgfahdejaaW.PrintLast Go.Proofs.YtcicjbgfahdejaaW.PrintMore
set_option linter.unusedSimpArgs false
set_option linter.unusedVariables false
theorem Total_eq {n : Nat} {l : List S39} (h : V n l) (hn : n ≤ 4096) (k : Nat) (hk : 10000 ≤ k) : lots_Total.f k l = some (sumN l) := by
  have := h.len
  rw [lots_Total_eq l k (by omega) (by omega), tot_sum h hn]
theorem sumN_range {n : Nat} {l : List S39} (h : V n l) (hn : n ≤ 4096) : 0 ≤ sumN l ∧ sumN l ≤ 4503599627370496 := by rw [← tot_sum h hn]; exact tot_range _
theorem Same_eq {n : Nat} {l : List S39} (h : l.length ≤ n) (hn : n ≤ 4096) (k : Nat) (hk : 10000 ≤ k) : worldmintref14_Same.f k l l = some true := ref_Same_eq l k (by omega) (by omega)
def gone (S : List S39) (l : List S39) : Int := (l.map fun x => sumN (pc S true x)).sum
theorem gone_sum (S : List S39) (hS : Good1 S) (hl : S.length ≤ 1000000) : ∀ l : List S39, okS l → fl l → sumN (l.flatMap (pc S false)) + gone S l = sumN l ∧ 0 ≤ gone S l
  | [], _, _ => by simp [gone, sumN]
  | x :: l, hk, hf => by
    have ih := gone_sum S hS hl l hk.cons.2 (fl_cons hf).2
    have hp := (pc_ok S x hS.nf hS.ok hk.cons.1 hS.fl (fl_cons hf).1 hl).2
    have h1 := hp.sum
    have h2 : 0 ≤ sumN (pc S true x) := by
      have : ∀ l : List S39, (∀ y ∈ l, 1 ≤ y.f2) → 0 ≤ sumN l := fun l => by
        induction l with
        | nil => intro _; simp [sumN]
        | cons y l ih => intro h; have := ih (fun z hz => h z (List.mem_cons_of_mem _ hz)); have := h y (List.mem_cons_self ..); rw [sumN_cons]; omega
      exact this _ hp.nT.pos
    have e : gone S (x :: l) = sumN (pc S true x) + gone S l := by simp [gone]
    rw [List.flatMap_cons, sumN_append, sumN_cons, e]
    omega
theorem slice1 (A : List S39) (i : Nat) (h : i < A.length) : (A.take (i + 1)).drop i = [A[i]] := by
  rw [take_snoc39 A i h, List.drop_append_of_le_length (by simp; omega), List.drop_eq_nil_of_le (by simp; omega)]
  rfl
theorem Algebra_l0 {A B C x10 x11 x12 S : List S39} (vA : V 8 A) (vB : V 8 B) (hS : Good1 S) (hU : ∀ f i, U S f i ↔ U B f i) (hl : S.length ≤ 1000) : ∀ (d i K : Nat) (acc : Int), i + d = A.length → 1000000 ≤ K → 0 ≤ acc → acc ≤ 4503599627370496 * i →
    worldmintlaw14_LotsAlgebra.l0 (K + d) A B C x10 x11 x12 acc (i : Int) = worldmintlaw14_LotsAlgebra.l0 K A B C x10 x11 x12 (acc + gone S (A.drop i)) (A.length : Int) := by
  intro d
  have la := vA.len
  induction d with
  | zero =>
    intro i K acc hi hK _ _
    have e : A.drop i = [] := List.drop_eq_nil_of_le (by omega)
    obtain rfl : i = A.length := by omega
    rw [e]
    simp [gone]
  | succ d ih =>
    intro i K acc hi hK h0 h1
    have hlt : i < A.length := by omega
    have hd : A.drop i = A[i] :: A.drop (i + 1) := List.drop_eq_getElem_cons hlt
    have hx := vA.ok.ok _ (List.getElem_mem hlt)
    have hfx := vA.fl _ (List.getElem_mem hlt)
    have es := slice1 A i hlt
    rw [hd]
    generalize A[i] = x at *
    have vx : V 1 [x] := ⟨⟨fun w hw => by rw [List.mem_singleton] at hw; exact hw ▸ hx⟩, fun w hw => by rw [List.mem_singleton] at hw; exact hw ▸ hfx, by simp⟩
    obtain ⟨r, r1, r2, r3, r4, _⟩ := Meet_both vx vB (by omega)
    have hp := (pc_ok S x hS.nf hS.ok hx hS.fl hfx (by omega)).2
    obtain ⟨p1, p2, p3⟩ := pc_units hp true
    have er : r = pc S true x := NF.unique r1.nf p1 (fun f i => by rw [r2, p3, U_single, hU]; simp)
    have lb := vB.len
    have vr : V 20 r := ⟨r1.ok, r1.fl, by simp at r3; omega⟩
    have hr := sumN_range vr (by omega)
    have eg : gone S (x :: A.drop (i + 1)) = sumN r + gone S (A.drop (i + 1)) := by rw [er]; simp [gone]
    rw [show K + (d + 1) = (K + d) + 1 by omega]
    conv => lhs; unfold worldmintlaw14_LotsAlgebra.l0
    rw [if_pos (by omega), if_pos (by omega), w64_1 i (by omega), if_pos (by omega), if_pos (by omega), Int.toNat_natCast, Int.toNat_natCast, es, r4 (K + d) (by omega), Option.bind_some, Total_eq vr (by omega) (K + d) (by omega), Option.bind_some, w64 (by omega) (by omega)]
    rw [ih (i + 1) K (acc + sumN r) (by omega) hK (by omega) (by omega), eg, Int.add_assoc]
theorem LotsAlgebra_pure (l0 l1 l2 : List Int) : ∃ k, worldmintlaw14_LotsAlgebra.f k l0 l1 l2 = some true := by
  obtain ⟨A, lA, gA, hA⟩ := Lots_good l0 0
  obtain ⟨B, lB, gB, hB⟩ := Lots_good l1 0
  obtain ⟨C, lC, gC, hC⟩ := Lots_good l2 0
  have vA := good_V lA gA
  have vB := good_V lB gB
  have vC := good_V lC gC
  obtain ⟨m, m1, m2, m3, m4, _⟩ := Minus_both vA vB (by omega) (by omega)
  obtain ⟨n, n1, n2, n3, n4, _⟩ := Minus_both vB vA (by omega) (by omega)
  have vm : V 16 m := ⟨m1.ok, m1.fl, by omega⟩
  have vn : V 16 n := ⟨n1.ok, n1.fl, by omega⟩
  obtain ⟨u, u1, u2, u3, u4, _⟩ := Union_both vm vn (by omega)
  obtain ⟨e, e1, e2, e3, e4, _⟩ := Meet_both vA vB (by omega)
  have vu : V 32 u := ⟨u1.ok, u1.fl, by omega⟩
  have ve : V 24 e := ⟨e1.ok, e1.fl, by omega⟩
  obtain ⟨p, p1, p2, p3, p4, _⟩ := Union_both vu ve (by omega)
  obtain ⟨t, t1, t2, t3, t4, _⟩ := Minus_both vm vC (by omega) (by omega)
  obtain ⟨S, S1, S2, S3, c, _, w4, _⟩ := Without_both vA vB (by omega) (by omega)
  have hfl := flat_len S false A
  have hb2 : A.length * (2 * S.length + 1) ≤ 8 * 17 := Nat.mul_le_mul (by omega) (by omega)
  obtain ⟨q1, q2, q3, q4⟩ := joins_all (A.flatMap (pc S false)) [] okS.nil c.ok (by rw [List.length_nil]; omega)
  obtain ⟨g1, g2⟩ := gone_sum S S1 (by omega) A vA.ok vA.fl
  rw [List.length_nil] at q2
  have q5 : sumN ((A.flatMap (pc S false)).foldl jn []) = sumN (A.flatMap (pc S false)) := by unfold sumN; rw [q4]; simp
  have vw : V 136 ((A.flatMap (pc S false)).foldl jn []) := ⟨q1, fun x hx => by
    have := q1.ok x hx
    rcases (q3 x.f0 x.f1).1 ⟨x, hx, rfl, by omega, by omega⟩ with g | ⟨y, hy, g⟩
    · exact absurd g (U_nil _ _)
    · have := c.flows y hy
      unfold In at g
      omega, by omega⟩
  have wU : ∀ f i, U ((A.flatMap (pc S false)).foldl jn []) f i → U A f i := fun f i h => by
    rcases (q3 f i).1 h with g | g
    · exact absurd g (U_nil _ _)
    · exact ((c.units f i).1 g).1
  generalize hw : (A.flatMap (pc S false)).foldl jn [] = w at *
  obtain ⟨ab, ab1, ab2, ab3, ab4, _⟩ := Union_both vA vB (by omega)
  obtain ⟨bc, bc1, bc2, bc3, bc4, _⟩ := Union_both vB vC (by omega)
  have vbc : V 16 bc := ⟨bc1.ok, bc1.fl, by omega⟩
  obtain ⟨t', t1', t2', t3', t4', _⟩ := Minus_both vA vbc (by omega) (by omega)
  obtain ⟨y, y1, y2, y3, y4, _⟩ := Meet_both vA vbc (by omega)
  obtain ⟨z, z1, z2, z3, z4, _⟩ := Meet_both vA vC (by omega)
  have vz : V 24 z := ⟨z1.ok, z1.fl, by omega⟩
  obtain ⟨v, v1, v2, v3, v4, _⟩ := Union_both ve vz (by omega)
  obtain ⟨W, W1, W2, _⟩ := Within_both vw vA (by omega) (by omega)
  have ep : p = ab := NF.unique p1.nf ab1.nf (fun f i => by
    rw [p2, u2, m2, n2, e2, ab2]
    constructor
    · rintro ((g | g) | g)
      · exact .inl g.1
      · exact .inr g.1
      · exact .inl g.1
    · by_cases ha : U A f i <;> by_cases hb : U B f i <;> simp [ha, hb])
  have et : t = t' := NF.unique t1.nf t1'.nf (fun f i => by rw [t2, m2, t2', bc2]; by_cases ha : U A f i <;> by_cases hb : U B f i <;> simp [ha, hb])
  have ey : y = v := NF.unique y1.nf v1.nf (fun f i => by rw [y2, bc2, v2, e2, z2]; by_cases ha : U A f i <;> simp [ha])
  have hWt : W = true := W1.2 wU
  subst ep et ey hWt
  obtain ⟨N, hN⟩ : ∃ N : Nat, N = 2000000 := ⟨_, rfl⟩
  have lv : worldmintlaw14_lives.f N = some true := by rw [hN]; exact lives_2000000
  refine ⟨N + 1 + A.length, ?_⟩
  unfold worldmintlaw14_LotsAlgebra.f
  rw [hA _ (by omega), Option.bind_some, hB _ (by omega), Option.bind_some, hC _ (by omega), Option.bind_some, m4 _ (by omega), Option.bind_some, n4 _ (by omega), Option.bind_some, u4 _ (by omega), Option.bind_some, e4 _ (by omega), Option.bind_some, p4 _ (by omega), Option.bind_some, Option.bind_some, t4 _ (by omega), Option.bind_some, w4 _ (by omega), Option.bind_some]
  have L := Algebra_l0 (C := C) (x10 := p) (x11 := t) (x12 := w) vA vB S1 S2 (by omega) A.length 0 (N + 1) 0 (by omega) (by omega) (by omega) (by omega)
  rw [List.drop_zero, Int.zero_add] at L
  refine Eq.trans L ?_
  have r1 := sumN_range vw (by omega)
  have r2 := sumN_range vA (by omega)
  conv => lhs; unfold worldmintlaw14_LotsAlgebra.l0
  rw [if_neg (by omega), ab4 N (by omega), Option.bind_some, Same_eq (n := 100) (by omega) (by omega) N (by omega), Option.bind_some, if_pos rfl, bc4 N (by omega), Option.bind_some, t4' N (by omega), Option.bind_some, Same_eq (n := 100) (by omega) (by omega) N (by omega), Option.bind_some, if_pos rfl, Option.bind_some, y4 N (by omega), Option.bind_some, e4 N (by omega), Option.bind_some, z4 N (by omega), Option.bind_some, v4 N (by omega), Option.bind_some, Same_eq (n := 100) (by omega) (by omega) N (by omega), Option.bind_some, if_pos rfl, Total_eq vw (by omega) N (by omega), Option.bind_some, Total_eq vA (by omega) N (by omega), Option.bind_some, w64 (by omega) (by omega), if_pos (by omega), W2 N (by omega), Option.bind_some, if_pos rfl, lv, Option.bind_some]
end Go.Proofs.Ytcicjbgfahdejaa.P
