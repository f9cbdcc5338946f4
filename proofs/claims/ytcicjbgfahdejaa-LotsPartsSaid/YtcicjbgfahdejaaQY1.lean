/- This session's own: the law LotsParts, plainly. -/
import Derived.Test.YtcicjbgfahdejaaQM2
import Derived.Test.YtcicjbgfahdejaaQA1
namespace Go.Proofs.Ytcicjbgfahdejaa.P
open Go Go.RowKit Go.Sort Go.Proofs.YtcicjbgfahdejaaW.PrintWords Go.Proofs.YtcicjbgfahdejaaW.PrintLast Go.Proofs.YtcicjbgfahdejaaW.PrintMore
set_option linter.unusedSimpArgs false
set_option linter.unusedVariables false
/-- The first n units, and those behind them. -/
def fst1 : Int → List S39 → List S39
  | _, [] => []
  | n, x :: xs => if x.f2 ≤ n then x :: fst1 (n - x.f2) xs else if n = 0 then [] else [⟨x.f0, x.f1, n⟩]
def drp : Int → List S39 → List S39
  | _, [] => []
  | n, x :: xs => if x.f2 ≤ n then drp (n - x.f2) xs else ⟨x.f0, x.f1 + n, x.f2 - n⟩ :: xs
theorem zeros : ∀ l : List S39, okS l → tkA l (greedy 0 (wts l)) = [] ∧ tkB l (greedy 0 (wts l)) = l
  | [], _ => ⟨rfl, rfl⟩
  | x :: l, hk => by
    have hx := hk.cons.1
    have e : greedy 0 (wts (x :: l)) = 0 :: greedy 0 (wts l) := by
      have hm : mn 0 x.f2 = 0 := by unfold mn; rw [if_neg (by omega)]
      simp [wts, greedy, hm]
    obtain ⟨h1, h2⟩ := zeros l hk.cons.2
    rw [e, tkA_cons, tkB_cons, h1, h2, if_pos rfl, if_neg (by omega), Int.add_zero, Int.sub_zero]
    exact ⟨rfl, rfl⟩
theorem greedy_fst : ∀ (l : List S39) (n : Int), okS l → 0 ≤ n → tkA l (greedy n (wts l)) = fst1 n l ∧ tkB l (greedy n (wts l)) = drp n l
  | [], n, _, _ => ⟨rfl, rfl⟩
  | x :: l, n, hk, h0 => by
    have hx := hk.cons.1
    have e : greedy n (wts (x :: l)) = mn n x.f2 :: greedy (n - mn n x.f2) (wts l) := rfl
    rw [e, tkA_cons, tkB_cons, fst1, drp]
    by_cases h : x.f2 ≤ n
    · have hm : mn n x.f2 = x.f2 := by unfold mn; split <;> omega
      obtain ⟨h1, h2⟩ := greedy_fst l (n - x.f2) hk.cons.2 (by omega)
      rw [hm, h1, h2, if_pos h, if_pos h, if_neg (by omega), if_pos (by omega)]
      exact ⟨rfl, rfl⟩
    · have hm : mn n x.f2 = n := by unfold mn; rw [if_neg (by omega)]
      obtain ⟨h1, h2⟩ := zeros l hk.cons.2
      rw [hm, Int.sub_self, h1, h2, if_neg h, if_neg h, if_neg (show ¬ x.f2 - n = 0 by omega), List.append_nil]
      exact ⟨rfl, rfl⟩
theorem drp_drp : ∀ (l : List S39) (a b : Int), okS l → 0 ≤ b → b ≤ a → drp (a - b) (drp b l) = drp a l
  | [], _, _, _, _, _ => rfl
  | x :: l, a, b, hk, h0, h1 => by
    have hx := hk.cons.1
    rw [drp, drp]
    by_cases h : x.f2 ≤ b
    · rw [if_pos h, if_pos (by omega)]
      have := drp_drp l (a - x.f2) (b - x.f2) hk.cons.2 (by omega) (by omega)
      rw [show a - x.f2 - (b - x.f2) = a - b by omega] at this
      exact this
    · rw [if_neg h, drp]
      simp only
      by_cases h2 : x.f2 ≤ a
      · rw [if_pos (by omega), if_pos h2, show a - b - (x.f2 - b) = a - x.f2 by omega]
      · rw [if_neg (by omega), if_neg h2, show x.f1 + b + (a - b) = x.f1 + a by omega, show x.f2 - b - (a - b) = x.f2 - a by omega]
theorem fst_parts : ∀ (l : List S39) (n : Int), okS l → 0 ≤ n → ∀ y ∈ fst1 n l, ∃ x ∈ l, part x y ∧ 1 ≤ y.f2 := fun l n hk h0 y hy => by
  induction l generalizing n with
  | nil => simp [fst1] at hy
  | cons x l ih =>
    have hx := hk.cons.1
    rw [fst1] at hy
    split at hy
    · rcases List.mem_cons.1 hy with e | e
      · subst e; exact ⟨y, List.mem_cons_self .., ⟨rfl, Int.le_refl _, Int.le_refl _⟩, by omega⟩
      · obtain ⟨z, hz, g⟩ := ih (n - x.f2) hk.cons.2 (by omega) e
        exact ⟨z, List.mem_cons_of_mem _ hz, g⟩
    · split at hy
      · simp at hy
      · rw [List.mem_singleton] at hy
        subst hy
        exact ⟨x, List.mem_cons_self .., ⟨rfl, Int.le_refl _, by simp only; omega⟩, by simp only; omega⟩
theorem drp_parts : ∀ (l : List S39) (n : Int), okS l → 0 ≤ n → ∀ y ∈ drp n l, ∃ x ∈ l, part x y ∧ 1 ≤ y.f2 := fun l n hk h0 y hy => by
  induction l generalizing n with
  | nil => simp [drp] at hy
  | cons x l ih =>
    have hx := hk.cons.1
    rw [drp] at hy
    split at hy
    · obtain ⟨z, hz, g⟩ := ih (n - x.f2) hk.cons.2 (by omega) hy
      exact ⟨z, List.mem_cons_of_mem _ hz, g⟩
    · rcases List.mem_cons.1 hy with e | e
      · subst e
        exact ⟨x, List.mem_cons_self .., ⟨rfl, by simp only; omega, by simp only; omega⟩, by simp only; omega⟩
      · exact ⟨y, List.mem_cons_of_mem _ e, ⟨rfl, Int.le_refl _, Int.le_refl _⟩, (hk.cons.2.ok y e).2.2.1⟩
theorem jn_cons (x p : S39) (out : List S39) (hx : ok1 x) (hp : ok1 p) (ho : okS out) (hb : bef x p) (hl : out.length < 1000000) : jn (x :: out) p = x :: jn out p := by
  unfold ok1 at hx hp
  unfold bef at hb
  rcases List.eq_nil_or_concat out with e | ⟨o, z, e⟩
  · subst e
    have := jn_snoc [] x p (by simp) (by omega) (by omega) (by omega) (by omega) (by omega) (by omega)
    rw [List.nil_append] at this
    rw [this, if_neg (by omega)]
    rfl
  · subst e
    simp only [List.concat_eq_append] at *
    have hz := ho.ok z (by simp)
    rw [List.length_append, List.length_singleton] at hl
    rw [← List.cons_append, jn_snoc (x :: o) z p (by rw [List.length_cons]; omega) (by omega) (by omega) (by omega) (by omega) (by omega) (by omega), jn_snoc o z p (by omega) (by omega) (by omega) (by omega) (by omega) (by omega) (by omega)]
    split <;> rfl
theorem jns_cons (x : S39) (hx : ok1 x) : ∀ (ps out : List S39), okS out → okS ps → (∀ p ∈ ps, bef x p) → out.length + ps.length < 1000000 → ps.foldl jn (x :: out) = x :: ps.foldl jn out
  | [], out, _, _, _, _ => rfl
  | p :: ps, out, ho, hp, hb, hl => by
    simp only [List.length_cons] at hl
    have hj := joins_all [p] out ho ⟨fun w hw => by rw [List.mem_singleton] at hw; exact hw ▸ hp.cons.1⟩ (by simp; omega)
    simp only [List.foldl_cons, List.foldl_nil, List.length_singleton] at hj
    rw [List.foldl_cons, List.foldl_cons, jn_cons x p out hx hp.cons.1 ho (hb p (List.mem_cons_self ..)) (by omega)]
    exact jns_cons x hx ps (jn out p) hj.1 hp.cons.2 (fun q hq => hb q (List.mem_cons_of_mem _ hq)) (by omega)
theorem fst_NF : ∀ (l : List S39) (n : Int), NF l → okS l → 0 ≤ n → NF (fst1 n l) ∧ okS (fst1 n l) ∧ (fst1 n l).length ≤ l.length
  | [], n, _, _, _ => ⟨NF.nil, okS.nil, by simp [fst1]⟩
  | x :: l, n, hn, hk, h0 => by
    have hx := hk.cons.1
    rw [fst1]
    split
    · obtain ⟨h1, h2, h3⟩ := fst_NF l (n - x.f2) hn.cons.2.1 hk.cons.2 (by omega)
      refine ⟨NF.mk' hx.2.2.1 h1 (fun y hy => ?_), ⟨fun y hy => ?_⟩, by simp only [List.length_cons]; omega⟩
      · obtain ⟨z, hz, g, _⟩ := fst_parts l (n - x.f2) hk.cons.2 (by omega) y hy
        have := hn.cons.2.2 z hz
        unfold part at g
        unfold bef at *
        omega
      · rcases List.mem_cons.1 hy with e | e
        · exact e ▸ hx
        · exact h2.ok y e
    · split
      · exact ⟨NF.nil, okS.nil, by simp⟩
      · refine ⟨NF.single (by simp only; omega), ⟨fun y hy => ?_⟩, by simp⟩
        rw [List.mem_singleton] at hy
        subst hy
        simp only
        omega
theorem drp_ok : ∀ (l : List S39) (n : Int), NF l → okS l → 0 ≤ n → NF (drp n l) ∧ (drp n l).length ≤ l.length
  | [], n, _, _, _ => ⟨NF.nil, by simp [drp]⟩
  | x :: l, n, hn, hk, h0 => by
    have hx := hk.cons.1
    rw [drp]
    split
    · obtain ⟨h1, h3⟩ := drp_ok l (n - x.f2) hn.cons.2.1 hk.cons.2 (by omega)
      exact ⟨h1, by simp only [List.length_cons]; omega⟩
    · refine ⟨NF.mk' (by simp only; omega) hn.cons.2.1 (fun y hy => ?_), by simp⟩
      have := hn.cons.2.2 y hy
      unfold bef at *
      simp only
      omega
theorem okS_of_parts {l A : List S39} (hk : okS l) (h : ∀ y ∈ A, ∃ x ∈ l, part x y ∧ 1 ≤ y.f2) : okS A := ⟨fun y hy => by obtain ⟨x, hx, g, g2⟩ := h y hy; have := hk.ok x hx; unfold part at g; omega⟩
/-- Taking in two steps. -/
theorem two_steps : ∀ (l : List S39) (a b : Int), NF l → okS l → l.length < 1000 → 0 ≤ b → b ≤ a → (fst1 (a - b) (drp b l)).foldl jn (fst1 b l) = fst1 a l
  | [], a, b, _, _, _, _, _ => rfl
  | x :: l, a, b, hn, hk, hl, h0, h1 => by
    have hx := hk.cons.1
    simp only [List.length_cons] at hl
    rw [drp, show fst1 b (x :: l) = if x.f2 ≤ b then x :: fst1 (b - x.f2) l else if b = 0 then [] else [⟨x.f0, x.f1, b⟩] from rfl]
    have below : ∀ n, 0 ≤ n → ∀ y ∈ fst1 n l, bef x y := fun n hn0 y hy => by
      obtain ⟨z, hz, g, _⟩ := fst_parts l n hk.cons.2 hn0 y hy
      have := hn.cons.2.2 z hz
      unfold part at g
      unfold bef at *
      omega
    by_cases h : x.f2 ≤ b
    · rw [if_pos h, if_pos h]
      have ih := two_steps l (a - x.f2) (b - x.f2) hn.cons.2.1 hk.cons.2 (by omega) (by omega) (by omega)
      rw [show a - x.f2 - (b - x.f2) = a - b by omega] at ih
      obtain ⟨d1, d2⟩ := drp_ok l (b - x.f2) hn.cons.2.1 hk.cons.2 (by omega)
      have dk := okS_of_parts hk.cons.2 (drp_parts l (b - x.f2) hk.cons.2 (by omega))
      obtain ⟨f1, f2, f3⟩ := fst_NF (drp (b - x.f2) l) (a - b) d1 dk (by omega)
      obtain ⟨e1, e2, e3⟩ := fst_NF l (b - x.f2) hn.cons.2.1 hk.cons.2 (by omega)
      rw [jns_cons x hx _ _ e2 f2 (fun p hp => by
        obtain ⟨z, hz, g, _⟩ := fst_parts _ (a - b) dk (by omega) p hp
        obtain ⟨w, hw, g2, _⟩ := drp_parts l (b - x.f2) hk.cons.2 (by omega) z hz
        have := hn.cons.2.2 w hw
        unfold part at g g2
        unfold bef at *
        omega) (by omega), ih]
      rw [fst1, if_pos (by omega)]
    · rw [if_neg h, if_neg h, fst1]
      simp only
      have join1 : ∀ n : Int, 0 < b → 1 ≤ n → b + n ≤ x.f2 → jn [(⟨x.f0, x.f1, b⟩ : S39)] ⟨x.f0, x.f1 + b, n⟩ = [⟨x.f0, x.f1, b + n⟩] := fun n hb hn1 hbn => by
        have := jn_snoc [] ⟨x.f0, x.f1, b⟩ ⟨x.f0, x.f1 + b, n⟩ (by simp) (by simp only; omega) (by simp only; omega) (by simp only; omega) (by simp only; omega) (by simp only; omega) (by simp only; omega)
        rw [List.nil_append] at this
        rw [this, if_pos ⟨rfl, rfl⟩]
        rfl
      by_cases h2 : x.f2 ≤ a
      · obtain ⟨f1, f2, f3⟩ := fst_NF l (a - x.f2) hn.cons.2.1 hk.cons.2 (by omega)
        have jr : (fst1 (a - x.f2) l).foldl jn [x] = x :: fst1 (a - x.f2) l := by
          rw [jns_cons x hx _ [] okS.nil f2 (below _ (by omega)) (by simp; omega)]
          congr 1
          have := joins_NF (fst1 (a - x.f2) l) [] (by simpa using f1) (by simpa using f2) (by rw [List.nil_append]; omega)
          rw [this, List.nil_append]
        rw [if_pos (show x.f2 - b ≤ a - b by omega), show a - b - (x.f2 - b) = a - x.f2 by omega, fst1, if_pos h2, List.foldl_cons]
        by_cases hb : b = 0
        · subst hb
          rw [if_pos rfl, jn_nil, Int.add_zero, Int.sub_zero]
          exact jr
        · rw [if_neg hb, join1 (x.f2 - b) (by omega) (by omega) (by omega), show b + (x.f2 - b) = x.f2 by omega]
          exact jr
      · rw [if_neg (show ¬ x.f2 - b ≤ a - b by omega), fst1, if_neg h2]
        by_cases hab : a - b = 0
        · rw [if_pos hab, List.foldl_nil, show b = a by omega]
        · rw [if_neg hab, List.foldl_cons, List.foldl_nil, if_neg (show ¬ a = 0 by omega)]
          by_cases hb : b = 0
          · subst hb
            rw [if_pos rfl, jn_nil, Int.add_zero, Int.sub_zero]
          · rw [if_neg hb, join1 (a - b) (by omega) (by omega) (by omega), show b + (a - b) = a by omega]
/-- Take without mixing. -/
theorem Take_first (l : List S39) (n : Int) (hn : NF l) (hV : V 8 l) (h0 : 0 ≤ n) (h1 : n ≤ 1099511627776) (h2 : n ≤ sumN l) : ∀ k, 250 ≤ k → lots_Take.f k l n false = some (fst1 n l, drp n l, 0) := by
  intro k hk
  have hlen := hV.len
  obtain ⟨c, c1, c2, c3, c4, c5⟩ := Take_set l n false hn hV h0 h1 h2
  have hw : ∀ w ∈ wts l, 1 ≤ w ∧ w ≤ 1099511627776 := by
    intro w h
    obtain ⟨x, hx, rfl⟩ := List.mem_map.1 h
    have := hV.ok.ok x hx
    omega
  have lw : (wts l).length = l.length := by simp [wts]
  have P0 := lots_counts_l0 l n false (by omega) l.length 0 (by omega) 300
  simp only [List.take_zero] at P0
  rw [show ((0 : Nat) : Int) = 0 from rfl] at P0
  have hck := c4 (300 + l.length + 1) (by omega)
  unfold lots_counts.f at hck
  rw [P0] at hck
  simp only [lots_counts.j1, Bool.false_and] at hck
  rw [if_neg (by decide)] at hck
  have h1 := lots_counts_l1 (wts l).length 0 299 n [] (wts l) rfl rfl (by omega) hw h0 h1 (by omega)
  rw [Nat.zero_add, List.nil_append, List.nil_append] at h1
  have e : c = greedy n (wts l) := (Option.some.inj (h1.symm.trans hck)).symm
  obtain ⟨g1, g2⟩ := greedy_fst l n hV.ok h0
  rw [c5 k hk, e, g1, g2]
theorem Parts_l0 (two e al oth : List S39) (ht : okS two) (hl : two.length < 1000) : ∀ (d i K : Nat) (s : List S39), i + d = two.length → okS s → s.length ≤ 1000 + i → 10 ≤ K → worldmintlaw14_LotsParts.l0 (K + d) two e al oth s (i : Int) = worldmintlaw14_LotsParts.l0 K two e al oth ((two.drop i).foldl jn s) (two.length : Int) := by
  intro d
  induction d with
  | zero =>
    intro i K s hi hs hsl hK
    obtain rfl : i = two.length := by omega
    rw [List.drop_length]
    rfl
  | succ d ih =>
    intro i K s hi hs hsl hK
    have hlt : i < two.length := by omega
    have hx := ht.ok _ (List.getElem_mem hlt)
    have hd : two.drop i = two[i] :: two.drop (i + 1) := List.drop_eq_getElem_cons hlt
    have hrd := rd39_nat two i hlt
    rw [hd]
    generalize two[i] = x at *
    have hj := joins_all [x] s hs ⟨fun w hw => by rw [List.mem_singleton] at hw; exact hw ▸ hx⟩ (by simp; omega)
    simp only [List.foldl_cons, List.foldl_nil, List.length_singleton] at hj
    have hput : ∀ k, 2 ≤ k → lots_Put.f k s x.f0 x.f1 x.f2 = some (jn s x) := fun k hk => by
      obtain ⟨k, rfl⟩ : ∃ q, k = q + 1 := ⟨k - 1, by omega⟩
      unfold lots_Put.f
      rw [lots_Valid_eq, Option.bind_some, if_pos ((okS_valid s).2 ⟨by omega, hs⟩)]
      have hp : lots_possible.f x.f0 x.f1 x.f2 = some true := by
        unfold lots_possible.f
        rw [if_pos (by omega), if_pos (by omega), if_pos (by omega), if_pos (by omega), w64 (by omega) (by omega), decide_eq_true (by omega)]
      rw [hp, Option.bind_some]
      simp only [lots_Put.j0]
      unfold api_Lot_59.f
      rw [Bool.not_true, if_neg (by decide), if_pos (by omega), Option.bind_some, (join_len s x (by omega)).1, Option.bind_some]
    rw [show K + (d + 1) = (K + d) + 1 by omega]
    conv => lhs; unfold worldmintlaw14_LotsParts.l0
    rw [if_pos (by omega), if_pos (by omega), hrd, hput (K + d) (by omega), Option.bind_some, w64_1 i (by omega)]
    exact ih (i + 1) K (jn s x) (by omega) hj.1 (by omega) hK
theorem LotsParts_pure (l0 : List Int) (a1 a2 : Int) (a3 : Bool) : ∃ k, worldmintlaw14_LotsParts.f k l0 a1 a2 a3 = some true := by
  obtain ⟨A, lA, gA, hA⟩ := Lots_good l0 0
  have vA := good_V lA gA
  obtain ⟨s, s1, s2, s3, s4, s5, _⟩ := Set_both vA (by omega)
  have hV : V 8 s := ⟨s1.ok, s1.fl, by omega⟩
  have hn := s1.nf
  have hlen := hV.len
  have hr := sumN_range hV (by omega)
  obtain ⟨N, hN⟩ : ∃ N : Nat, N = 2000000 := ⟨_, rfl⟩
  have lv : worldmintlaw14_lives.f N = some true := by rw [hN]; exact lives_2000000
  by_cases h0 : sumN s = 0
  · have hs0 : s = [] := by
      cases s with
      | nil => rfl
      | cons x s =>
        have := hV.ok.cons.1
        have h3 : 0 ≤ sumN s := (sum_le_of (wts s) (fun w h => by obtain ⟨y, hy, rfl⟩ := List.mem_map.1 h; have := hV.ok.cons.2.ok y hy; omega)).1
        rw [sumN_cons] at h0
        omega
    refine ⟨N, ?_⟩
    unfold worldmintlaw14_LotsParts.f
    rw [hA _ (by omega), Option.bind_some, s5 _ (by omega), Option.bind_some, Total_eq hV (by omega) N (by omega), Option.bind_some, if_pos h0, hs0, if_pos (by simp), lv, Option.bind_some]
  · have hm := mn_le (sumN s) 1099511627776
    obtain ⟨a, e1, n0, n1⟩ := Around_some a1 (wrap64 ((mn (sumN s) 1099511627776) + 1)) (by rw [w64 (by omega) (by omega)]; omega) (by rw [w64 (by omega) (by omega)]; omega)
    rw [w64 (by omega) (by omega)] at n1
    obtain ⟨c, c1, c2, c3, c4, c5⟩ := Take_set s a a3 hn hV n0 (by omega) (by omega)
    obtain ⟨tk1, tk2, tk3, tk4, tk5⟩ := tk_all s c hV.ok c2
    have vT := part_V hV tk1.pA tk4
    have vL := part_V hV tk1.pB tk5
    have hnT := tk1.nA hn
    have hnL := tk1.nB hn
    obtain ⟨m, m1, m2, m3, m4, _⟩ := Meet_both vT vL (by omega)
    have hm0 : m = [] := (nil_iff m1.ok).2 (fun f i g => tk1.ap hn f i ((m2 f i).1 g).1 ((m2 f i).1 g).2)
    obtain ⟨u, u1, u2, u3, u4, _⟩ := Union_both vT vL (by omega)
    have hu : u = s := NF.unique u1.nf hn (fun f i => by rw [u2, tk1.un])
    obtain ⟨b, e2, b0, b1⟩ := Around_some a2 (wrap64 (a + 1)) (by rw [w64 (by omega) (by omega)]; omega) (by rw [w64 (by omega) (by omega)]; omega)
    rw [w64 (by omega) (by omega)] at b1
    obtain ⟨d1, d2⟩ := drp_ok s b hn hV.ok b0
    have vd : V 8 (drp b s) := part_V hV (drp_parts s b hV.ok b0) d2
    obtain ⟨f1, f2, f3⟩ := fst_NF s b hn hV.ok b0
    obtain ⟨x1, x2, x3⟩ := fst_NF (drp b s) (a - b) d1 vd.ok (by omega)
    obtain ⟨y1, y2, y3⟩ := fst_NF s a hn hV.ok n0
    have T1 := Take_first s b hn hV b0 (by omega) (by omega)
    have hsd : sumN (drp b s) = sumN s - b := by
      obtain ⟨cb, q1, q2, q3, q4, q5⟩ := Take_set s b false hn hV b0 (by omega) (by omega)
      obtain ⟨_, _, z3, _, _⟩ := tk_all s cb hV.ok q2
      have := (q5 300 (by omega)).symm.trans (T1 300 (by omega))
      have := Option.some.inj this
      simp only [Prod.mk.injEq] at this
      rw [← this.2.1, z3, q3]
    have T2 := Take_first (drp b s) (a - b) d1 vd (by omega) (by omega) (by omega)
    have T3 := Take_first s a hn hV n0 (by omega) (by omega)
    have ts := two_steps s a b hn hV.ok (by omega) b0 (by omega)
    have dd := drp_drp s a b hV.ok b0 (by omega)
    refine ⟨(((N + 1) + (fst1 (a - b) (drp b s)).length) + 1) + 1, ?_⟩
    generalize hF : ((N + 1) + (fst1 (a - b) (drp b s)).length) + 1 = F
    unfold worldmintlaw14_LotsParts.f
    rw [hA _ (by omega), Option.bind_some, s5 _ (by omega), Option.bind_some, Total_eq hV (by omega) _ (by omega), Option.bind_some, if_neg h0, e1, Option.bind_some, c5 _ (by omega), Option.bind_some, if_pos rfl]
    simp only
    rw [Total_eq vT (by omega) _ (by omega), Option.bind_some, tk2, c3, if_pos rfl, Total_eq vL (by omega) _ (by omega), Option.bind_some, tk3, c3, w64 (x := sumN s - a) (by omega) (by omega), if_pos rfl, m4 _ (by omega), Option.bind_some, hm0, if_pos (by simp), u4 _ (by omega), Option.bind_some, hu, Same_eq (n := 100) (by omega) (by omega) _ (by omega), Option.bind_some, Bool.not_true]
    simp only [worldmintlaw14_LotsParts.j0]
    rw [if_neg (by decide), e2, Option.bind_some, T1 _ (by omega), Option.bind_some, w64 (x := a - b) (by omega) (by omega), T2 _ (by omega), Option.bind_some, T3 _ (by omega), Option.bind_some, if_pos rfl, if_pos rfl]
    simp only
    rw [← hF]
    simp only [worldmintlaw14_LotsParts.j1]
    rw [if_neg (by decide)]
    have L := Parts_l0 (fst1 (a - b) (drp b s)) (drp (a - b) (drp b s)) (fst1 a s) (drp a s) x2 (by omega) (fst1 (a - b) (drp b s)).length 0 (N + 1) (fst1 b s) (by omega) f2 (by omega) (by omega)
    rw [List.drop_zero, ts, dd] at L
    rw [dd]
    refine Eq.trans L ?_
    conv => lhs; unfold worldmintlaw14_LotsParts.l0
    have hda := (drp_ok s a hn hV.ok n0).2
    rw [if_neg (by omega), Same_eq (n := 100) (by omega) (by omega) N (by omega), Option.bind_some, if_pos rfl, Same_eq (n := 100) (by omega) (by omega) N (by omega), Option.bind_some, if_pos rfl, lv, Option.bind_some]
end Go.Proofs.Ytcicjbgfahdejaa.P
