/- This session's own: the law LotsMixed, plainly. -/
import Derived.Test.YtcicjbgfahdejaaQM2
import Derived.Test.YtcicjbgfahdejaaQA1
namespace Go.Proofs.Ytcicjbgfahdejaa.P
open Go Go.RowKit Go.Sort Go.Proofs.YtcicjbgfahdejaaW.PrintWords Go.Proofs.YtcicjbgfahdejaaW.PrintLast Go.Proofs.YtcicjbgfahdejaaW.PrintMore
set_option linter.unusedSimpArgs false
set_option linter.unusedVariables false
def ren : List S39 → Nat → List S39
  | [], _ => []
  | x :: xs, i => ⟨10 + (i : Int), x.f1, x.f2⟩ :: ren xs (i + 1)
theorem ren_len : ∀ (l : List S39) (i : Nat), (ren l i).length = l.length
  | [], _ => rfl
  | x :: l, i => by simp [ren, ren_len l]
theorem ren_ok : ∀ (l : List S39) (i : Nat), (∀ x ∈ l, okG x) → i + l.length ≤ 1000 → NF (ren l i) ∧ ∀ y ∈ ren l i, 10 + (i : Int) ≤ y.f0 ∧ y.f0 ≤ 1010 ∧ 0 ≤ y.f1 ∧ 1 ≤ y.f2 ∧ y.f1 + y.f2 ≤ 1099511627776
  | [], _, _, _ => ⟨NF.nil, by simp [ren]⟩
  | x :: l, i, h, hl => by
    simp only [List.length_cons] at hl
    have hx := h x (List.mem_cons_self ..)
    obtain ⟨h1, h2⟩ := ren_ok l (i + 1) (fun y hy => h y (List.mem_cons_of_mem _ hy)) (by omega)
    unfold okG at hx
    refine ⟨NF.mk' (by simp only; omega) h1 (fun y hy => ?_), fun y hy => ?_⟩
    · have := h2 y hy
      left
      simp only
      omega
    · rcases List.mem_cons.1 hy with e | e
      · subst e; simp only; omega
      · have := h2 y e; omega
theorem Mixed_l0 (a : Int) (A : List S39) (hl : A.length ≤ 8) : ∀ (d i K : Nat) (s : List S39), i + d = A.length → s.length = i → worldmintlaw14_LotsMixed.l0 (K + d) a A s (i : Int) = worldmintlaw14_LotsMixed.l0 K a A (s ++ ren (A.drop i) i) (A.length : Int) := by
  intro d
  induction d with
  | zero =>
    intro i K s hi hs
    obtain rfl : i = A.length := by omega
    rw [List.drop_length]
    simp [ren]
  | succ d ih =>
    intro i K s hi hs
    have hlt : i < A.length := by omega
    rw [drop_cons A i hlt, show K + (d + 1) = (K + d) + 1 by omega]
    conv => lhs; unfold worldmintlaw14_LotsMixed.l0
    rw [if_pos (by omega), if_pos (by omega), if_pos (by omega), w64 (x := 10 + (i : Int)) (by omega) (by omega), w64_1 i (by omega), ih (i + 1) K _ (by omega) (by simp [hs])]
    simp [ren]
theorem tkA_meet : ∀ (l : List S39) (c : List Int), NF l → okS l → Fit l c → ∀ (i : Nat) (hi : i < l.length) (f j : Int), (U (tkA l c) f j ∧ In l[i] f j) ↔ (f = l[i].f0 ∧ l[i].f1 ≤ j ∧ j < l[i].f1 + c.getD i 0)
  | [], _, _, _, _, i, hi, _, _ => by simp at hi
  | x :: l, [], _, _, hf, _, _, _, _ => by cases hf
  | x :: l, c :: cs, hn, hk, hf, i, hi, f, j => by
    cases hf with
    | cons h0 h1 hf =>
      obtain ⟨tk1, _, _, _, _⟩ := tk_all l cs hk.cons.2 hf
      rw [tkA_cons, U_append, U_opt']
      cases i with
      | zero =>
        simp only [List.getElem_cons_zero, List.getD_cons_zero]
        constructor
        · rintro ⟨g | g, g2⟩
          · unfold In at g g2; simp only at g; omega
          · exact absurd ((tk1.un f j).2 (.inl g)) (hn.disjoint g2)
        · rintro ⟨g1, g2, g3⟩
          refine ⟨.inl ⟨by omega, ?_⟩, ?_⟩
          · unfold In; simp only; omega
          · unfold In; omega
      | succ i =>
        simp only [List.getElem_cons_succ, List.getD_cons_succ]
        have hi' : i < l.length := by simpa using hi
        have ih := tkA_meet l cs hn.cons.2.1 hk.cons.2 hf i hi' f j
        rw [← ih]
        constructor
        · rintro ⟨g | g, g2⟩
          · exfalso
            have hx : In x f j := by unfold In at *; simp only at g; omega
            exact hn.disjoint hx ⟨l[i], List.getElem_mem hi', g2⟩
          · exact ⟨g, g2⟩
        · rintro ⟨g1, g2⟩
          exact ⟨.inr g1, g2⟩
theorem Part_eq (n w S : Int) (hn0 : 0 ≤ n) (hn1 : n ≤ 1099511627776) (hw0 : 0 ≤ w) (hw1 : w ≤ 1099511627776) (hwS : w ≤ S) (hS : 1 ≤ S) (hS1 : S ≤ 1152921504606846976) (k : Nat) (hk : 30 ≤ k) : share_Part.f k n w S = some (n * w / S, 0) := by
  obtain ⟨g0, g1, g2, g3, g4, g5⟩ := div_small hn0 hn1 hw0 hw1 hwS hS
  obtain ⟨k, rfl⟩ : ∃ q, k = q + 1 := ⟨k - 1, by omega⟩
  unfold share_Part.f share_amount.f share_large.f
  rw [if_pos hn0, Option.bind_some, decide_eq_true hn1, if_pos rfl, if_pos hw0, Option.bind_some, decide_eq_true (show w ≤ 1152921504606846976 by omega), if_pos rfl, if_pos (show S ≥ 0 by omega), Option.bind_some, decide_eq_true hS1, if_pos rfl]
  simp only [share_Part.j0]
  rw [if_neg (by simp; omega), divide_eq n w S hn0 (by omega) hw0 (by omega) (by omega) (by omega) g1 (by omega) k (by omega), Option.bind_some]
  simp only
  rw [if_pos (decide_eq_true (by omega))]
theorem Ceil_eq (n w S : Int) (hn0 : 0 ≤ n) (hn1 : n ≤ 1099511627776) (hw0 : 0 ≤ w) (hw1 : w ≤ 1099511627776) (hwS : w ≤ S) (hS : 1 ≤ S) (hS1 : S ≤ 1152921504606846976) (k : Nat) (hk : 30 ≤ k) : share_Ceil.f k n w S = some (if 0 < n * w % S then n * w / S + 1 else n * w / S, 0) := by
  obtain ⟨g0, g1, g2, g3, g4, g5⟩ := div_small hn0 hn1 hw0 hw1 hwS hS
  unfold share_Ceil.f
  rw [Part_eq n w S hn0 hn1 hw0 hw1 hwS hS hS1 k hk, Option.bind_some, if_pos rfl, divide_eq n w S hn0 (by omega) hw0 (by omega) (by omega) (by omega) g1 (by omega) k (by omega), Option.bind_some]
  obtain ⟨k, rfl⟩ : ∃ q, k = q + 1 := ⟨k - 1, by omega⟩
  simp only
  by_cases h : n * w % S > 0
  · have hd := Int.mul_ediv_add_emod (n * w) S
    have hnw : n * w ≤ S * n := by rw [Int.mul_comm S]; exact Int.mul_le_mul_of_nonneg_left hwS hn0
    have : S * (n * w / S) < S * n := by omega
    have := Int.lt_of_mul_lt_mul_left this (by omega)
    rw [if_pos h, if_pos h, w64 (by omega) (by omega)]
    simp only [share_Ceil.j0]
    rw [if_neg (by omega)]
  · rw [if_neg h, if_neg h]
    simp only [share_Ceil.j0]
    rw [if_neg (by omega)]
theorem Mixed_l1 {s : List S39} {c : List Int} {n : Int} (hn : NF s) (hV : V 8 s) (hf : Fit s c) (n0 : 0 ≤ n) (n1 : n ≤ 1099511627776) (hS : 1 ≤ sumN s) (hc : ∀ j (hj : j < s.length), c.getD j 0 = n * s[j].f2 / sumN s ∨ (c.getD j 0 = n * s[j].f2 / sumN s + 1 ∧ 0 < n * s[j].f2 % sumN s)) (hcn : ∀ j (hj : j < s.length), 0 ≤ c.getD j 0 ∧ c.getD j 0 ≤ s[j].f2) :
    ∀ (d i K : Nat), i + d = s.length → 1000000 ≤ K → worldmintlaw14_LotsMixed.l1 (K + 2 * d) s (sumN s) n (tkA s c) (i : Int) = worldmintlaw14_LotsMixed.l1 K s (sumN s) n (tkA s c) (s.length : Int) := by
  have la := hV.len
  obtain ⟨tk1, _, _, tk4, _⟩ := tk_all s c hV.ok hf
  have vA := part_V hV tk1.pA tk4
  have hSr := sumN_range hV (by omega)
  have hwt := sum_le_of (wts s) (fun w h => by obtain ⟨x, hx, rfl⟩ := List.mem_map.1 h; have := hV.ok.ok x hx; omega)
  intro d
  induction d with
  | zero =>
    intro i K hi hK
    obtain rfl : i = s.length := by omega
    rfl
  | succ d ih =>
    intro i K hi hK
    have hlt : i < s.length := by omega
    have hx := hV.ok.ok _ (List.getElem_mem hlt)
    have hfx := hV.fl _ (List.getElem_mem hlt)
    have es := slice1 s i hlt
    have hrd := rd39_nat s i hlt
    have hci := hc i hlt
    have hcni := hcn i hlt
    have hmt := tkA_meet s c hn hV.ok hf i hlt
    have hwS : (s[i]).f2 ≤ sumN s := hwt.2 _ (List.mem_map.2 ⟨_, List.getElem_mem hlt, rfl⟩)
    generalize s[i] = x at *
    generalize hcv : c.getD i 0 = ci at *
    have vx : V 1 [x] := ⟨⟨fun w hw => by rw [List.mem_singleton] at hw; exact hw ▸ hx⟩, fun w hw => by rw [List.mem_singleton] at hw; exact hw ▸ hfx, by simp⟩
    obtain ⟨r, r1, r2, r3, r4, _⟩ := Meet_both vA vx (by omega)
    have er : r = if ci = 0 then [] else [⟨x.f0, x.f1, ci⟩] := NF.unique r1.nf (opt_nf (fun h => by simp only; omega)) (fun f j => by
      rw [r2, U_single, hmt, U_opt']
      unfold In
      simp only
      omega)
    have lA := vA.len
    have vr : V 20 r := ⟨r1.ok, r1.fl, by simp at r3; omega⟩
    have hsr : sumN r = ci := by rw [er, sumN_opt (ci = 0) ⟨x.f0, x.f1, ci⟩ (fun h => h)]
    rw [show K + 2 * (d + 1) = ((K + 2 * d) + 1) + 1 by omega]
    conv => lhs; unfold worldmintlaw14_LotsMixed.l1
    rw [if_pos (by omega), if_pos (by omega), w64_1 i (by omega), if_pos (by omega), if_pos (by omega), Int.toNat_natCast, Int.toNat_natCast, es, r4 _ (by omega), Option.bind_some, Total_eq vr (by omega) _ (by omega), Option.bind_some, hrd, hsr,
      Part_eq n x.f2 (sumN s) n0 n1 (by omega) (by omega) hwS hS (by omega) _ (by omega), Option.bind_some, Ceil_eq n x.f2 (sumN s) n0 n1 (by omega) (by omega) hwS hS (by omega) _ (by omega), Option.bind_some, if_pos rfl, if_pos rfl]
    simp only
    rw [if_neg (by omega)]
    have hhi : decide (ci > if 0 < n * x.f2 % sumN s then n * x.f2 / sumN s + 1 else n * x.f2 / sumN s) = false := decide_eq_false (by split <;> omega)
    rw [hhi]
    unfold worldmintlaw14_LotsMixed.j2
    rw [if_neg (by decide), w64_1 i (by omega)]
    exact ih (i + 1) K (by omega) hK
theorem LotsMixed_pure (l0 : List Int) (a1 : Int) : ∃ k, worldmintlaw14_LotsMixed.f k l0 a1 = some true := by
  obtain ⟨A, lA, gA, hA⟩ := Lots_good l0 0
  obtain ⟨h1, h2⟩ := ren_ok A 0 gA (by omega)
  have hlen := ren_len A 0
  have hV : V 8 (ren A 0) := ⟨⟨fun x hx => by have := h2 x hx; omega⟩, fun x hx => by have := h2 x hx; omega, by omega⟩
  have hL := Mixed_l0 a1 A lA A.length 0
  rw [List.drop_zero] at hL
  generalize hs : ren A 0 = s at *
  have hr := sumN_range hV (by omega)
  obtain ⟨N, hN⟩ : ∃ N : Nat, N = 2000000 := ⟨_, rfl⟩
  have lv : worldmintlaw14_lives.f N = some true := by rw [hN]; exact lives_2000000
  by_cases h0 : sumN s = 0
  · have hs0 : s = [] := by
      cases s with
      | nil => rfl
      | cons x s =>
        have := hV.ok.cons.1
        have h3 : 0 ≤ sumN s := (sum_le_of (wts s) (fun w h => by obtain ⟨y, hy, rfl⟩ := List.mem_map.1 h; have := hV.ok.cons.2.ok y hy; omega)).1
        rw [sumN_cons] at h0
        omega
    refine ⟨N + 1 + A.length, ?_⟩
    unfold worldmintlaw14_LotsMixed.f
    rw [hA _ (by omega), Option.bind_some]
    have := hL (N + 1) [] (by omega) rfl
    rw [List.nil_append, show ((0 : Nat) : Int) = 0 from rfl] at this
    rw [this]
    unfold worldmintlaw14_LotsMixed.l0
    rw [if_neg (by omega), Total_eq hV (by omega) N (by omega), Option.bind_some, if_pos h0, hs0, if_pos (by simp), lv, Option.bind_some]
  · have hm := mn_le (sumN s) 1099511627776
    obtain ⟨n, e1, n0, n1⟩ := Around_some a1 (wrap64 ((mn (sumN s) 1099511627776) + 1)) (by rw [w64 (by omega) (by omega)]; omega) (by rw [w64 (by omega) (by omega)]; omega)
    rw [w64 (by omega) (by omega)] at n1
    obtain ⟨c, c1, c2, c3, c4, c5⟩ := Take_set s n true h1 hV n0 (by omega) (by omega)
    obtain ⟨g1, g2, g3⟩ := counts_spec s n true (by omega) (okX_of hV) n0 (by omega) (show n ≤ (wts s).sum by show n ≤ sumN s; omega) c c4
    refine ⟨(N + 1 + 2 * s.length) + 1 + A.length, ?_⟩
    unfold worldmintlaw14_LotsMixed.f
    rw [hA _ (by omega), Option.bind_some]
    have := hL ((N + 1 + 2 * s.length) + 1) [] (by omega) rfl
    rw [List.nil_append, show ((0 : Nat) : Int) = 0 from rfl] at this
    rw [this]
    conv => lhs; unfold worldmintlaw14_LotsMixed.l0
    rw [if_neg (by omega), Total_eq hV (by omega) _ (by omega), Option.bind_some, if_neg h0, e1, Option.bind_some, c5 _ (by omega), Option.bind_some, if_pos rfl]
    have M := Mixed_l1 h1 hV c2 n0 (by omega) (by omega) (g3 rfl) g2 s.length 0 (N + 1) (by omega) (by omega)
    refine Eq.trans M ?_
    unfold worldmintlaw14_LotsMixed.l1
    rw [if_neg (by omega), lv, Option.bind_some]
end Go.Proofs.Ytcicjbgfahdejaa.P
