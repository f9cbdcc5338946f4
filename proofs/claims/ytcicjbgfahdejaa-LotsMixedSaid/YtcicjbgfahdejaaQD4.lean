/- This session's own: share.Split and the reference's Split compute the same (at most 19 weights). -/
import Derived.Test.YtcicjbgfahdejaaQD3
import Derived.Test.YtcicjbgfahdejaaQSt
namespace Go.Proofs.Ytcicjbgfahdejaa.P
open Go Go.RowKit Go.Proofs.YtcicjbgfahdejaaW.PrintWords Go.Proofs.YtcicjbgfahdejaaW.PrintLast Go.Proofs.YtcicjbgfahdejaaW.PrintMore
set_option linter.unusedSimpArgs false
set_option linter.unusedVariables false
theorem fill_set (f : List Int) (z v : Int) (i : Nat) (h : i < f.length) (hv : f[i] = v) : (f.take i ++ List.replicate (f.length - i) z).set i v = f.take (i + 1) ++ List.replicate (f.length - (i + 1)) z := by
  subst hv
  refine List.ext_getElem (by simp; omega) (fun j h1 h2 => ?_)
  simp only [List.length_set, List.length_append, List.length_take, List.length_replicate] at h1
  rw [List.getElem_set]
  by_cases e : i = j
  · subst e
    rw [if_pos rfl, List.getElem_append_left (by simp; omega), List.getElem_take]
  · rw [if_neg e]
    by_cases c : j < i
    · rw [List.getElem_append_left (by simp; omega), List.getElem_append_left (by simp; omega), List.getElem_take, List.getElem_take]
    · rw [List.getElem_append_right (by simp; omega), List.getElem_append_right (by simp; omega), List.getElem_replicate, List.getElem_replicate]
theorem rd_nat (l : List Int) (i : Nat) (h : i < l.length) : rd l (i : Int) = l[i] := by
  simp [rd, List.getD_eq_getElem?_getD, h]
theorem fill_len (f : List Int) (z : Int) (i : Nat) (h : i ≤ f.length) : (f.take i ++ List.replicate (f.length - i) z).length = f.length := by
  simp; omega
def qsL (n S : Int) (ws : List Int) : List Int := ws.map fun w => n * w / S
def rsL (n S : Int) (ws : List Int) : List Int := ws.map fun w => n * w % S
def ordN (n : Nat) : List Int := (List.range n).map fun i : Nat => (i : Int)
theorem div_small {n w S : Int} (hn0 : 0 ≤ n) (hn1 : n ≤ 1099511627776) (hw0 : 0 ≤ w) (hw1 : w ≤ 1099511627776) (hwS : w ≤ S) (hS : 1 ≤ S) : 0 ≤ n * w ∧ n * w / 18446744073709551616 < S ∧ 0 ≤ n * w / S ∧ n * w / S ≤ n ∧ 0 ≤ n * w % S ∧ n * w % S < S := by
  have h0 : 0 ≤ n * w := Int.mul_nonneg hn0 hw0
  have h1 : n * w ≤ n * S := Int.mul_le_mul_of_nonneg_left hwS hn0
  have h2 : n * S ≤ 1099511627776 * S := Int.mul_le_mul_of_nonneg_right hn1 (by omega)
  refine ⟨h0, Int.ediv_lt_of_lt_mul (by omega) (by omega), Int.ediv_nonneg h0 (by omega), ?_, Int.emod_nonneg _ (by omega), Int.emod_lt_of_pos _ (by omega)⟩
  have h3 : n * w / S < n + 1 := Int.ediv_lt_of_lt_mul (by omega) (by rw [Int.add_mul, Int.one_mul]; omega)
  omega
theorem share_Split_l1 (n S : Int) (ws : List Int) (hn0 : 0 ≤ n) (hn1 : n ≤ 1099511627776) (hw : ∀ w ∈ ws, 0 ≤ w ∧ w ≤ 1099511627776 ∧ w ≤ S) (hS : 1 ≤ S) (hS1 : S ≤ 1152921504606846976) (hlen : ws.length < 20) : ∀ (d i : Nat) (left : Int), i + d = ws.length → -21990232555520 + d * 1099511627776 ≤ left → left ≤ 1099511627776 → ∀ k, 20 ≤ k →
    share_Split.l1 (k + d + 1) n ws S ((qsL n S ws).take i ++ List.replicate ((qsL n S ws).length - i) 0) ((rsL n S ws).take i ++ List.replicate ((rsL n S ws).length - i) 0) ((ordN ws.length).take i ++ List.replicate ((ordN ws.length).length - i) 0) left (ws.length : Int) (i : Int) =
    (slices_SortStableFunc_int_int.f (ordN ws.length) (rsL n S ws)).bind fun t => share_Split.l2 k (qsL n S ws) t (left - ((qsL n S ws).drop i).sum) 0 := by
  intro d
  have lq : (qsL n S ws).length = ws.length := by simp [qsL]
  have lr : (rsL n S ws).length = ws.length := by simp [rsL]
  have lo : (ordN ws.length).length = ws.length := by simp [ordN]
  induction d with
  | zero =>
    intro i left hi hl0 hl1 k hk
    simp only [share_Split.l1]
    have e1 : (qsL n S ws).drop i = [] := List.drop_eq_nil_of_le (by omega)
    rw [if_neg (by omega), e1, List.take_of_length_le (l := qsL n S ws) (by omega), List.take_of_length_le (l := rsL n S ws) (by omega), List.take_of_length_le (l := ordN ws.length) (by omega), lq, lr, lo, show ws.length - i = 0 by omega]
    simp
  | succ d ih =>
    intro i left hi hl0 hl1 k hk
    have hlt : i < ws.length := by omega
    have hwi := hw ws[i] (List.getElem_mem hlt)
    obtain ⟨g0, g1, g2, g3, g4, g5⟩ := div_small hn0 hn1 hwi.1 hwi.2.1 hwi.2.2 hS
    have hq : (qsL n S ws)[i]'(by omega) = n * ws[i] / S := by simp [qsL]
    have hr : (rsL n S ws)[i]'(by omega) = n * ws[i] % S := by simp [rsL]
    have ho : (ordN ws.length)[i]'(by omega) = (i : Int) := by simp [ordN]
    rw [show k + (d + 1) + 1 = (k + d + 1) + 1 by omega]
    generalize hK : k + d + 1 = K
    simp only [share_Split.l1]
    rw [if_pos (by omega), if_pos (by omega), if_pos (by omega), rd_nat ws i hlt]
    rw [divide_eq n ws[i] S hn0 (by omega) hwi.1 (by omega) (by omega) (by omega) g1 (by omega) _ (by omega), Option.bind_some]
    simp only
    rw [if_pos (by rw [fill_len _ _ _ (by omega)]; omega), Option.bind_some, if_pos (by rw [fill_len _ _ _ (by omega)]; omega), if_pos (by rw [fill_len _ _ _ (by omega)]; omega), Int.toNat_natCast]
    rw [fill_set _ _ _ i (by omega) hq, fill_set _ _ _ i (by omega) hr, fill_set _ _ _ i (by omega) ho]
    have e2 : rd ((qsL n S ws).take (i + 1) ++ List.replicate ((qsL n S ws).length - (i + 1)) 0) (i : Int) = n * ws[i] / S := by
      rw [rd_nat _ i (by rw [fill_len _ _ _ (by omega)]; omega), List.getElem_append_left (by simp; omega), List.getElem_take, hq]
    have hd : ((d + 1 : Nat) : Int) * 1099511627776 = (d : Int) * 1099511627776 + 1099511627776 := by omega
    rw [e2, show wrap64 (left - n * ws[i] / S) = left - n * ws[i] / S by unfold wrap64; omega, show wrap64 ((i : Int) + 1) = ((i + 1 : Nat) : Int) by unfold wrap64; omega]
    rw [← hK, ih (i + 1) _ (by omega) (by omega) (by omega) k hk]
    have e3 : (qsL n S ws).drop i = (n * ws[i] / S) :: (qsL n S ws).drop (i + 1) := by rw [List.drop_eq_getElem_cons (by omega), hq]
    rw [e3, List.sum_cons]
    congr 1
    funext t
    congr 1
    omega
theorem share_Split_l0 (n : Int) (ws : List Int) (hw : ∀ w ∈ ws, 0 ≤ w ∧ w ≤ 1099511627776) (hn0 : 0 ≤ n) (hn1 : n ≤ 1099511627776) (hlen : ws.length < 20) : ∀ (d i : Nat) (acc : Int), i + d = ws.length → 0 ≤ acc → acc ≤ i * 1099511627776 → 1 ≤ acc + (ws.drop i).sum → ∀ k, 1 ≤ k →
    share_Split.l0 (k + d + 1) n ws acc ws (ws.length : Int) (i : Int) = share_Split.j1 k n ws (acc + (ws.drop i).sum) false ∧ acc + (ws.drop i).sum ≤ ws.length * 1099511627776 := by
  intro d
  induction d with
  | zero =>
    intro i acc hi h0 h1 hp k hk
    have e1 : ws.drop i = [] := List.drop_eq_nil_of_le (by omega)
    rw [e1] at hp ⊢
    simp only [List.sum_nil, Int.add_zero] at hp ⊢
    have : (i : Int) = ws.length := by omega
    refine ⟨?_, by omega⟩
    simp only [share_Split.l0]
    rw [if_neg (by omega)]
    unfold share_amount.f
    rw [if_pos hn0, Option.bind_some, decide_eq_true hn1, if_pos rfl, if_neg (by omega), decide_eq_false (by omega)]
  | succ d ih =>
    intro i acc hi h0 h1 hp k hk
    have hlt : i < ws.length := by omega
    have hwi := hw ws[i] (List.getElem_mem hlt)
    rw [show k + (d + 1) + 1 = (k + d + 1) + 1 by omega]
    rw [List.drop_eq_getElem_cons hlt, List.sum_cons] at hp ⊢
    generalize hK : k + d + 1 = K
    have hi1 : ((i + 1 : Nat) : Int) * 1099511627776 = i * 1099511627776 + 1099511627776 := by omega
    have := ih (i + 1) (acc + ws[i]) (by omega) (by omega) (by omega) (by omega) k hk
    rw [Int.add_assoc, hK] at this
    refine ⟨?_, this.2⟩
    simp only [share_Split.l0]
    rw [if_pos (by omega), if_pos (by omega), if_pos (by omega), rd_nat ws i hlt]
    unfold share_amount.f
    rw [if_pos hwi.1, Option.bind_some, decide_eq_true hwi.2, if_pos rfl, if_neg (by omega), show wrap64 (acc + ws[i]) = acc + ws[i] by unfold wrap64; omega, show wrap64 ((i : Int) + 1) = ((i + 1 : Nat) : Int) by unfold wrap64; omega]
    exact this.1
/-- One unit more at an index. -/
def inc1 (out : List Int) (i : Int) : List Int := out.set i.toNat (wrap64 (rd out i + 1))
theorem inc1_len (out : List Int) (i : Int) : (inc1 out i).length = out.length := by simp [inc1]
theorem share_Split_l2 (t : List Int) (N : Nat) (ht : ∀ x ∈ t, 0 ≤ x ∧ x < (N : Int)) (left : Nat) (hl : left ≤ t.length) (hN : left < 1000000) : ∀ (d i : Nat) (out : List Int), i + d = left → out.length = N → ∀ k, share_Split.l2 (k + d + 1) out t (left : Int) (i : Int) = some (((t.drop i).take d).foldl inc1 out, 0) := by
  intro d
  induction d with
  | zero =>
    intro i out hi ho k
    simp only [share_Split.l2]
    rw [if_neg (by omega)]
    simp
  | succ d ih =>
    intro i out hi ho k
    have hlt : i < t.length := by omega
    have hx := ht t[i] (List.getElem_mem hlt)
    rw [show k + (d + 1) + 1 = (k + d + 1) + 1 by omega]
    generalize hK : k + d + 1 = K
    simp only [share_Split.l2]
    rw [if_pos (by omega), if_pos (by omega), if_pos (by omega), rd_nat t i hlt, if_pos hx.1, if_pos (by omega), show wrap64 ((i : Int) + 1) = ((i + 1 : Nat) : Int) by unfold wrap64; omega]
    have := ih (i + 1) (inc1 out t[i]) (by omega) (by rw [inc1_len]; exact ho) k
    rw [List.drop_eq_getElem_cons hlt, List.take_succ_cons, List.foldl_cons, ← hK]
    exact this
/-! ### the reference -/
def FM (R : List Int) (i b : Nat) : Prop := b < i ∧ (∀ j, j < i → rd R j ≤ rd R b) ∧ ∀ j, j < b → rd R j < rd R b
theorem ref_Split_l3 (out R : List Int) (left : Int) (hlen : R.length < 1000000) (ho : out.length = R.length) : ∀ (d i b : Nat), i + d = R.length → FM R i b → ∃ b', FM R R.length b' ∧ ∀ k, worldmintref03_Split.l3 (k + d + 1) out R left (b : Int) (i : Int) = worldmintref03_Split.l2 k (inc1 out (b' : Int)) (R.set b' (-1)) (wrap64 (left - 1)) := by
  intro d
  induction d with
  | zero =>
    intro i b hi hf
    have : i = R.length := by omega
    subst this
    refine ⟨b, hf, fun k => ?_⟩
    have := hf.1
    simp only [worldmintref03_Split.l3]
    rw [if_neg (by omega), if_pos (by omega), if_pos (by omega), if_pos (by omega)]
    simp only [inc1, Int.toNat_natCast]
  | succ d ih =>
    intro i b hi hf
    obtain ⟨f1, f2, f3⟩ := hf
    have hi' : (i : Int) < R.length := by omega
    by_cases hc : rd R (i : Int) > rd R (b : Int)
    · obtain ⟨b', hb', hk⟩ := ih (i + 1) i (by omega) ⟨by omega, fun j hj => by
        by_cases e : j = i
        · subst e; exact Int.le_refl _
        · have := f2 j (by omega); omega, fun j hj => by have := f2 j hj; omega⟩
      refine ⟨b', hb', fun k => ?_⟩
      rw [show k + (d + 1) + 1 = (k + d + 1) + 1 by omega]
      generalize hK : k + d + 1 = K
      simp only [worldmintref03_Split.l3]
      rw [if_pos hi', if_pos (by omega), if_pos (by omega), if_pos (by omega), if_pos hc, show wrap64 ((i : Int) + 1) = ((i + 1 : Nat) : Int) by unfold wrap64; omega]
      rw [← hK]
      exact hk k
    · obtain ⟨b', hb', hk⟩ := ih (i + 1) b (by omega) ⟨by omega, fun j hj => by
        by_cases e : j = i
        · subst e; omega
        · exact f2 j (by omega), f3⟩
      refine ⟨b', hb', fun k => ?_⟩
      rw [show k + (d + 1) + 1 = (k + d + 1) + 1 by omega]
      generalize hK : k + d + 1 = K
      simp only [worldmintref03_Split.l3]
      rw [if_pos hi', if_pos (by omega), if_pos (by omega), if_pos (by omega), if_neg hc, show wrap64 ((i : Int) + 1) = ((i + 1 : Nat) : Int) by unfold wrap64; omega]
      rw [← hK]
      exact hk k
theorem rd_getD (l : List Int) (j : Nat) : rd l (j : Int) = l.getD j 0 := by simp [rd]
theorem getD_set (l : List Int) (b j : Nat) (v : Int) (hb : b < l.length) : (l.set b v).getD j 0 = if b = j then v else l.getD j 0 := by
  rw [List.getD_eq_getElem?_getD, List.getD_eq_getElem?_getD, List.getElem?_set]
  split
  · subst_vars; simp [hb]
  · rfl
/-- The reference's rounds raise the same numbers in the same order. -/
theorem ref_Split_l2 {m : Nat} (hm : m + 1 < 1000000) (r : List Int) (h0 : ∀ j, j < m + 1 → 0 ≤ r.getD j 0) (s : Array (Fin (m + 1))) (hsz : s.size = m + 1) (hs : ∀ i j, i < j → j < m + 1 → Sort.ltI (fun x : Fin (m + 1) => r.getD x 0) s[i]! s[j]! = true) (hall : ∀ x, ∃ i, i < m + 1 ∧ s[i]! = x) :
    ∀ (d t : Nat) (out R : List Int), t + d ≤ m + 1 → out.length = m + 1 → R.length = m + 1 → (∀ j, j < m + 1 → ((∃ i, i < t ∧ (s[i]! : Nat) = j) → R.getD j 0 = -1) ∧ ((¬ ∃ i, i < t ∧ (s[i]! : Nat) = j) → R.getD j 0 = r.getD j 0)) → ∀ k, d * (m + 2) < k →
    worldmintref03_Split.l2 k out R (d : Int) = some ((((s.toList.map fun i => ((i.1 : Nat) : Int)).drop t).take d).foldl inc1 out, 0) := by
  intro d
  induction d with
  | zero =>
    intro t out R ht ho hR hRR k hk
    obtain ⟨k, rfl⟩ : ∃ q, k = q + 1 := ⟨k - 1, by omega⟩
    simp only [worldmintref03_Split.l2]
    rw [if_neg (by omega)]
    simp
  | succ d ih =>
    intro t out R ht ho hR hRR k hk
    rw [Nat.add_mul, Nat.one_mul] at hk
    obtain ⟨k, rfl⟩ : ∃ q, k = (q + m + 1) + 1 := ⟨k - m - 2, by omega⟩
    simp only [worldmintref03_Split.l2]
    rw [if_pos (by omega)]
    obtain ⟨b, ⟨b1, b2, b3⟩, hb⟩ := ref_Split_l3 out R ((d + 1 : Nat) : Int) (by omega) (by omega) m 1 0 (by omega) ⟨by omega, fun j hj => by rw [show j = 0 by omega]; exact Int.le_refl _, fun j hj => by omega⟩
    have e := hb k
    rw [show ((1 : Nat) : Int) = 1 from rfl, show ((0 : Nat) : Int) = 0 from rfl] at e
    rw [e, show wrap64 (((d + 1 : Nat) : Int) - 1) = (d : Int) by unfold wrap64; omega]
    rw [hR] at b1
    have hbs : b = (s[t]! : Nat) := Sort.pick h0 hs hall (by omega) hRR b1 (fun j hj => by have := b2 j (by omega); rw [rd_getD, rd_getD] at this; exact this) (fun j hj => by have := b3 j hj; rw [rd_getD, rd_getD] at this; exact this)
    rw [ih (t + 1) _ _ (by omega) (by rw [inc1_len]; exact ho) (by simpa using hR) ?_ k (by omega)]
    · have hlt : t < (s.toList.map fun i => ((i.1 : Nat) : Int)).length := by simp [hsz]; omega
      have hst : s[t]! = s[t]'(by omega) := getElem!_pos s t (by omega)
      have e2 : (s.toList.map fun i => ((i.1 : Nat) : Int))[t] = (b : Int) := by
        rw [hbs, hst]; simp
      rw [List.drop_eq_getElem_cons hlt, List.take_succ_cons, List.foldl_cons, e2]
    · intro j hj
      rw [getD_set _ _ _ _ (by omega)]
      refine ⟨?_, ?_⟩
      · rintro ⟨i, hi, hij⟩
        by_cases e : b = j
        · rw [if_pos e]
        · rw [if_neg e]
          refine (hRR j hj).1 ⟨i, ?_, hij⟩
          by_cases e2 : i = t
          · subst e2; omega
          · omega
      · intro hn
        have hbj : b ≠ j := fun e => hn ⟨t, by omega, by rw [← hbs]; exact e⟩
        rw [if_neg hbj]
        exact (hRR j hj).2 (fun ⟨i, hi, hij⟩ => hn ⟨i, by omega, hij⟩)
theorem ref_Split_l1 (n S : Int) (ws : List Int) (hn0 : 0 ≤ n) (hn1 : n ≤ 1099511627776) (hw : ∀ w ∈ ws, 0 ≤ w ∧ w ≤ 1099511627776 ∧ w ≤ S) (hS : 1 ≤ S) (hS1 : S ≤ 1152921504606846976) (hlen : ws.length < 20) : ∀ (d i : Nat) (left : Int), i + d = ws.length → -21990232555520 + d * 1099511627776 ≤ left → left ≤ 1099511627776 → ∀ k, 190 ≤ k →
    worldmintref03_Split.l1 (k + d + 1) n ws S ((qsL n S ws).take i) ((rsL n S ws).take i) left (i : Int) = worldmintref03_Split.l2 k (qsL n S ws) (rsL n S ws) (left - ((qsL n S ws).drop i).sum) := by
  intro d
  have lq : (qsL n S ws).length = ws.length := by simp [qsL]
  have lr : (rsL n S ws).length = ws.length := by simp [rsL]
  induction d with
  | zero =>
    intro i left hi hl0 hl1 k hk
    simp only [worldmintref03_Split.l1]
    have e1 : (qsL n S ws).drop i = [] := List.drop_eq_nil_of_le (by omega)
    rw [if_neg (by omega), e1, List.take_of_length_le (l := qsL n S ws) (by omega), List.take_of_length_le (l := rsL n S ws) (by omega)]
    simp
  | succ d ih =>
    intro i left hi hl0 hl1 k hk
    have hlt : i < ws.length := by omega
    have hwi := hw ws[i] (List.getElem_mem hlt)
    obtain ⟨g0, g1, g2, g3, g4, g5⟩ := div_small hn0 hn1 hwi.1 hwi.2.1 hwi.2.2 hS
    have hq : (qsL n S ws)[i]'(by omega) = n * ws[i] / S := by simp [qsL]
    have hr : (rsL n S ws)[i]'(by omega) = n * ws[i] % S := by simp [rsL]
    rw [show k + (d + 1) + 1 = (k + d + 1) + 1 by omega]
    generalize hK : k + d + 1 = K
    simp only [worldmintref03_Split.l1]
    rw [if_pos (by omega), if_pos (by omega), rd_nat ws i hlt]
    rw [ref_Divide_eq n ws[i] S hn0 (by omega) hwi.1 (by omega) (by omega) (by omega) (by omega) _ (by omega), Option.bind_some]
    simp only
    rw [if_pos (by simp; omega), if_pos (by simp; omega)]
    have e4 : (qsL n S ws).take i ++ [n * ws[i] / S] = (qsL n S ws).take (i + 1) := by rw [List.take_succ_eq_append_getElem (by omega), hq]
    have e5 : (rsL n S ws).take i ++ [n * ws[i] % S] = (rsL n S ws).take (i + 1) := by rw [List.take_succ_eq_append_getElem (by omega), hr]
    have hd : ((d + 1 : Nat) : Int) * 1099511627776 = (d : Int) * 1099511627776 + 1099511627776 := by omega
    rw [e4, e5, show wrap64 (left - n * ws[i] / S) = left - n * ws[i] / S by unfold wrap64; omega, show wrap64 ((i : Int) + 1) = ((i + 1 : Nat) : Int) by unfold wrap64; omega]
    rw [← hK, ih (i + 1) _ (by omega) (by omega) (by omega) k hk]
    have e3 : (qsL n S ws).drop i = (n * ws[i] / S) :: (qsL n S ws).drop (i + 1) := by rw [List.drop_eq_getElem_cons (by omega), hq]
    rw [e3, List.sum_cons]
    congr 1
    omega
theorem ref_Split_l0 (n : Int) (ws : List Int) (hw : ∀ w ∈ ws, 0 ≤ w ∧ w ≤ 1099511627776) (hn0 : 0 ≤ n) (hn1 : n ≤ 1099511627776) (hlen : ws.length < 20) : ∀ (d i : Nat) (acc : Int), i + d = ws.length → 0 ≤ acc → acc ≤ i * 1099511627776 → 1 ≤ acc + (ws.drop i).sum → ∀ k, 1 ≤ k →
    worldmintref03_Split.l0 (k + d + 1) n ws acc (i : Int) = worldmintref03_Split.j1 k n ws (acc + (ws.drop i).sum) false := by
  intro d
  induction d with
  | zero =>
    intro i acc hi h0 h1 hp k hk
    have e1 : ws.drop i = [] := List.drop_eq_nil_of_le (by omega)
    rw [e1] at hp ⊢
    simp only [List.sum_nil, Int.add_zero] at hp ⊢
    have : (i : Int) = ws.length := by omega
    simp only [worldmintref03_Split.l0]
    rw [if_neg (by omega)]
    unfold worldmintref03_Amount.f
    rw [if_pos hn0, Option.bind_some, decide_eq_true hn1, if_pos rfl, if_neg (by omega), decide_eq_false (by omega)]
  | succ d ih =>
    intro i acc hi h0 h1 hp k hk
    have hlt : i < ws.length := by omega
    have hwi := hw ws[i] (List.getElem_mem hlt)
    rw [show k + (d + 1) + 1 = (k + d + 1) + 1 by omega]
    rw [List.drop_eq_getElem_cons hlt, List.sum_cons] at hp ⊢
    generalize hK : k + d + 1 = K
    have hi1 : ((i + 1 : Nat) : Int) * 1099511627776 = i * 1099511627776 + 1099511627776 := by omega
    have := ih (i + 1) (acc + ws[i]) (by omega) (by omega) (by omega) (by omega) k hk
    rw [Int.add_assoc, hK] at this
    simp only [worldmintref03_Split.l0]
    rw [if_pos (by omega), if_pos (by omega), rd_nat ws i hlt]
    unfold worldmintref03_Amount.f
    rw [if_pos hwi.1, Option.bind_some, decide_eq_true hwi.2, if_pos rfl, if_neg (by omega), show wrap64 (acc + ws[i]) = acc + ws[i] by unfold wrap64; omega, show wrap64 ((i : Int) + 1) = ((i + 1 : Nat) : Int) by unfold wrap64; omega]
    exact this

theorem sums (n S : Int) (hS : 1 ≤ S) : ∀ ws : List Int, n * ws.sum = S * (qsL n S ws).sum + (rsL n S ws).sum ∧ 0 ≤ (rsL n S ws).sum ∧ (rsL n S ws).sum ≤ ws.length * (S - 1)
  | [] => by simp [qsL, rsL]
  | w :: ws => by
    obtain ⟨h1, h2, h3⟩ := sums n S hS ws
    have e1 : (qsL n S (w :: ws)).sum = n * w / S + (qsL n S ws).sum := by simp [qsL]
    have e2 : (rsL n S (w :: ws)).sum = n * w % S + (rsL n S ws).sum := by simp [rsL]
    have hd := Int.mul_ediv_add_emod (n * w) S
    have g1 := Int.emod_nonneg (n * w) (show S ≠ 0 by omega)
    have g2 := Int.emod_lt_of_pos (n * w) (show 0 < S by omega)
    rw [e1, e2, List.sum_cons, List.length_cons]
    refine ⟨?_, by omega, ?_⟩
    · rw [Int.mul_add, Int.mul_add]; omega
    · have : ((ws.length + 1 : Nat) : Int) * (S - 1) = ws.length * (S - 1) + (S - 1) := by
        rw [show ((ws.length + 1 : Nat) : Int) = (ws.length : Int) + 1 by omega, Int.add_mul, Int.one_mul]
      omega
/-- What a sorted list of indices is. -/
structure Ranked (m : Nat) (r : List Int) (s : Array (Fin (m + 1))) : Prop where
  sz : s.size = m + 1
  ord : ∀ i j, i < j → j < m + 1 → Sort.ltI (fun x : Fin (m + 1) => r.getD x 0) s[i]! s[j]! = true
  all : ∀ x, ∃ i, i < m + 1 ∧ s[i]! = x
def intsOf {m : Nat} (s : Array (Fin (m + 1))) : List Int := s.toList.map fun i => ((i.1 : Nat) : Int)
theorem ranked (r : List Int) (m : Nat) (hr : r.length = m + 1) (hm : m + 1 < 20) (h0 : ∀ x ∈ r, 0 ≤ x ∧ x ≤ 4611686018427387904) : ∃ s : Array (Fin (m + 1)), Ranked m r s ∧ slices_SortStableFunc_int_int.f (ordN (m + 1)) r = some (intsOf s) := by
  obtain ⟨h1, h2, h3⟩ := Sort.stable_sort (fun x : Fin (m + 1) => r.getD x 0)
  refine ⟨_, ⟨h1, h2, h3⟩, ?_⟩
  unfold slices_SortStableFunc_int_int.f
  have e : sortedF r m = Sort.insertionSort (Sort.ltK fun x : Fin (m + 1) => r.getD x 0) (Array.ofFn fun i : Fin (m + 1) => i) 0 (m + 1) := by
    unfold sortedF
    congr 1
    funext x y
    have hx : 0 ≤ r.getD x 0 ∧ r.getD x 0 ≤ 4611686018427387904 := by
      rw [List.getD_eq_getElem?_getD, List.getElem?_eq_getElem (by have := x.isLt; omega), Option.getD_some]
      exact h0 _ (List.getElem_mem _)
    have hy : 0 ≤ r.getD y 0 ∧ r.getD y 0 ≤ 4611686018427387904 := by
      rw [List.getD_eq_getElem?_getD, List.getElem?_eq_getElem (by have := y.isLt; omega), Option.getD_some]
      exact h0 _ (List.getElem_mem _)
    unfold ltOf cfR Sort.ltK
    rw [rd_getD, rd_getD]
    apply decide_eq_decide.2
    show wrap64 (r.getD y 0 - r.getD x 0) < 0 ↔ r.getD y 0 < r.getD x 0
    unfold wrap64
    omega
  split
  · omega
  · rename_i m' he
    obtain rfl : m' = m := by omega
    rw [if_pos ⟨hm, rfl⟩, e]
    rfl
def splitL (n : Int) (ws : List Int) {m : Nat} (s : Array (Fin (m + 1))) : List Int := ((intsOf s).take (n - (qsL n ws.sum ws).sum).toNat).foldl inc1 (qsL n ws.sum ws)
/-- Split, the program's and the reference's. -/
theorem Split_eq (n : Int) (ws : List Int) (hw : ∀ w ∈ ws, 0 ≤ w ∧ w ≤ 1099511627776) (hn0 : 0 ≤ n) (hn1 : n ≤ 1099511627776) (m : Nat) (hm : ws.length = m + 1) (hlen : ws.length < 20) (hpos : 1 ≤ ws.sum) :
    ∃ s : Array (Fin (m + 1)), Ranked m (rsL n ws.sum ws) s ∧ (∀ k, 90 ≤ k → share_Split.f k n ws = some (splitL n ws s, 0)) ∧ (∀ k, 1000 ≤ k → worldmintref03_Split.f k n ws = some (splitL n ws s, 0)) := by
  have hle : ∀ w ∈ ws, w ≤ ws.sum := by
    have : ∀ l : List Int, (∀ w ∈ l, 0 ≤ w ∧ w ≤ 1099511627776) → 0 ≤ l.sum ∧ l.sum ≤ l.length * 1099511627776 ∧ ∀ w ∈ l, w ≤ l.sum := by
      intro l
      induction l with
      | nil => intro _; simp
      | cons x xs ih =>
        intro h
        have hx := h x (List.mem_cons_self ..)
        obtain ⟨h1, h2, h3⟩ := ih (fun w hw => h w (List.mem_cons_of_mem _ hw))
        rw [List.sum_cons, List.length_cons]
        refine ⟨by omega, by omega, fun w hw => ?_⟩
        rcases List.mem_cons.1 hw with e | e
        · omega
        · have := h3 w e; omega
    exact (this ws hw).2.2
  have hw' : ∀ w ∈ ws, 0 ≤ w ∧ w ≤ 1099511627776 ∧ w ≤ ws.sum := fun w h => ⟨(hw w h).1, (hw w h).2, hle w h⟩
  have hs0 := (share_Split_l0 n ws hw hn0 hn1 hlen ws.length 0 0 (by omega) (by omega) (by omega) (by simpa using hpos) 1 (by omega)).2
  simp only [List.drop_zero, Int.zero_add] at hs0
  have lq : (qsL n ws.sum ws).length = m + 1 := by simp [qsL, hm]
  have lr : (rsL n ws.sum ws).length = m + 1 := by simp [rsL, hm]
  obtain ⟨t1, t2, t3⟩ := sums n ws.sum hpos ws
  have hr0 : ∀ x ∈ rsL n ws.sum ws, 0 ≤ x ∧ x ≤ 4611686018427387904 := by
    intro x hx
    obtain ⟨w, hw1, rfl⟩ := List.mem_map.1 hx
    have g1 := Int.emod_nonneg (n * w) (show ws.sum ≠ 0 by omega)
    have g2 := Int.emod_lt_of_pos (n * w) (show 0 < ws.sum by omega)
    omega
  have hleft : 0 ≤ n - (qsL n ws.sum ws).sum ∧ n - (qsL n ws.sum ws).sum ≤ m := by
    generalize hS : ws.sum = S at *
    generalize (qsL n S ws).sum = Q at *
    have e : S * (n - Q) = (rsL n S ws).sum := by
      rw [Int.mul_sub, Int.mul_comm S n]; omega
    rw [hm] at t3
    have u : S * (n - Q) < S * (m + 1 : Int) := by
      rw [e]
      have : ((m + 1 : Nat) : Int) * (S - 1) < S * (m + 1 : Int) := by
        rw [show ((m + 1 : Nat) : Int) = (m : Int) + 1 by omega, Int.mul_sub, Int.mul_one, Int.mul_comm]
        omega
      omega
    have u2 := Int.lt_of_mul_lt_mul_left u (by omega)
    have u3 : S * 0 ≤ S * (n - Q) := by rw [e, Int.mul_zero]; exact t2
    have u4 := Int.le_of_mul_le_mul_left u3 (by omega)
    omega
  obtain ⟨s, hs, hf⟩ := ranked (rsL n ws.sum ws) m lr (by omega) hr0
  have hgz : ∀ j, j < m + 1 → 0 ≤ (rsL n ws.sum ws).getD j 0 := fun j hj => by
    rw [List.getD_eq_getElem?_getD, List.getElem?_eq_getElem (by omega), Option.getD_some]
    exact (hr0 _ (List.getElem_mem _)).1
  have lI : (intsOf s).length = m + 1 := by simp [intsOf, hs.sz]
  have hI : ∀ x ∈ intsOf s, 0 ≤ x ∧ x < ((m + 1 : Nat) : Int) := by
    intro x hx
    obtain ⟨i, _, rfl⟩ := List.mem_map.1 hx
    have := i.isLt
    omega
  refine ⟨s, hs, fun k hk => ?_, fun k hk => ?_⟩
  · obtain ⟨k, rfl⟩ : ∃ q, k = (((q + (m + 1) + 1) + ws.length + 1) + 1) + ws.length + 1 := ⟨k - (m + 1) - ws.length - ws.length - 4, by omega⟩
    unfold share_Split.f
    have h0 := (share_Split_l0 n ws hw hn0 hn1 hlen ws.length 0 0 (by omega) (by omega) (by omega) (by simpa using hpos) (((k + (m + 1) + 1) + ws.length + 1) + 1) (by omega)).1
    rw [List.drop_zero, Int.zero_add] at h0
    rw [show ((0 : Nat) : Int) = 0 from rfl] at h0
    rw [h0]
    have h1 := share_Split_l1 n ws.sum ws hn0 hn1 hw' hpos (by omega) hlen ws.length 0 n (by omega) (by omega) hn1 (k + (m + 1) + 1) (by omega)
    simp only [List.take_zero, List.nil_append, List.drop_zero, Nat.sub_zero] at h1
    rw [show ((0 : Nat) : Int) = 0 from rfl, show (ordN ws.length).length = ws.length by simp [ordN], lq, lr, ← hm] at h1
    simp only [share_Split.j1]
    rw [if_neg (by decide), if_pos (by omega), if_pos (by omega), Int.toNat_natCast, hm]
    rw [hm] at h1
    refine h1.trans ?_
    rw [hf, Option.bind_some]
    obtain ⟨L, hL⟩ : ∃ L : Nat, n - (qsL n ws.sum ws).sum = (L : Int) := ⟨(n - (qsL n ws.sum ws).sum).toNat, by omega⟩
    have h2 := share_Split_l2 (intsOf s) (m + 1) hI L (by omega) (by omega) L 0 (qsL n ws.sum ws) (by omega) lq (k + (m + 1) - L)
    rw [show k + (m + 1) - L + L + 1 = k + (m + 1) + 1 by omega, show ((0 : Nat) : Int) = 0 from rfl] at h2
    rw [hL, h2, List.drop_zero]
    unfold splitL
    rw [hL, Int.toNat_natCast]
  · obtain ⟨k, rfl⟩ : ∃ q, k = ((q + ws.length + 1) + 1) + ws.length + 1 := ⟨k - ws.length - ws.length - 3, by omega⟩
    unfold worldmintref03_Split.f
    have h0 := ref_Split_l0 n ws hw hn0 hn1 hlen ws.length 0 0 (by omega) (by omega) (by omega) (by simpa using hpos) ((k + ws.length + 1) + 1) (by omega)
    rw [List.drop_zero, Int.zero_add] at h0
    rw [show ((0 : Nat) : Int) = 0 from rfl] at h0
    rw [h0]
    have h1 := ref_Split_l1 n ws.sum ws hn0 hn1 hw' hpos (by omega) hlen ws.length 0 n (by omega) (by omega) hn1 k (by omega)
    simp only [List.take_zero, List.drop_zero] at h1
    rw [show ((0 : Nat) : Int) = 0 from rfl] at h1
    simp only [worldmintref03_Split.j1]
    rw [if_neg (by decide)]
    refine h1.trans ?_
    obtain ⟨L, hL⟩ : ∃ L : Nat, n - (qsL n ws.sum ws).sum = (L : Int) := ⟨(n - (qsL n ws.sum ws).sum).toNat, by omega⟩
    have hLm : L ≤ m := by omega
    have hLk : L * (m + 2) < k := by
      have h1 : L * (m + 2) ≤ 18 * 20 := Nat.mul_le_mul (by omega) (by omega)
      omega
    have h2 := ref_Split_l2 (m := m) (by omega) (rsL n ws.sum ws) hgz s hs.sz hs.ord hs.all L 0 (qsL n ws.sum ws) (rsL n ws.sum ws) (by omega) lq lr (fun j hj => ⟨fun ⟨i, hi, _⟩ => by omega, fun _ => rfl⟩) k hLk
    rw [hL, h2, List.drop_zero]
    unfold splitL
    rw [hL, Int.toNat_natCast]
    rfl
end Go.Proofs.Ytcicjbgfahdejaa.P
