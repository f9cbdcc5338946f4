/- This session's own: lots.Slice and the reference's Slice compute the same. -/
import Derived.Test.YtcicjbgfahdejaaPD
import Derived.Test.YtcicjbgfahdejaaQ1
namespace Go.Proofs.Ytcicjbgfahdejaa.P
open Go Go.RowKit Go.Proofs.YtcicjbgfahdejaaW.PrintWords Go.Proofs.YtcicjbgfahdejaaW.PrintLast Go.Proofs.YtcicjbgfahdejaaW.PrintMore
set_option linter.unusedSimpArgs false
set_option linter.unusedVariables false

def slc : List S39 → Int → Int → List S39 → List S39
  | [], _, _, out => out
  | x :: xs, a, n, out => slc xs (a - mn a x.f2) (n - mn n (x.f2 - mn a x.f2)) (if mn n (x.f2 - mn a x.f2) = 0 then out else jn out ⟨x.f0, x.f1 + mn a x.f2, mn n (x.f2 - mn a x.f2)⟩)
def okX (x : S39) : Prop := 0 ≤ x.f0 ∧ 0 ≤ x.f1 ∧ 1 ≤ x.f2 ∧ x.f2 ≤ 1099511627776 ∧ x.f1 ≤ 1099511627776 - x.f2
theorem lots_Slice_l0 (l : List S39) (hl : l.length ≤ 4096) (hv : ∀ x ∈ l, okX x) : ∀ (d i k : Nat) (a n : Int) (out : List S39), i + d = l.length → d < k → 0 ≤ a → a ≤ 4611686018427387904 → 0 ≤ n → n ≤ 4611686018427387904 → out.length ≤ i →
    lots_Slice.l0 k a n out l (l.length : Int) (i : Int) = some (slc (l.drop i) a n out, 0) := by
  intro d
  induction d with
  | zero =>
    intro i k a n out hi hk _ _ _ _ _
    obtain ⟨k, rfl⟩ : ∃ q, k = q + 1 := ⟨k - 1, by omega⟩
    have e : l.drop i = [] := List.drop_eq_nil_of_le (by omega)
    simp only [lots_Slice.l0, e, slc]
    rw [if_neg (by omega)]
  | succ d ih =>
    intro i k a n out hi hk ha0 ha1 hn0 hn1 ho
    obtain ⟨k, rfl⟩ : ∃ q, k = q + 1 := ⟨k - 1, by omega⟩
    have hlt : i < l.length := by omega
    have hx : okX (rd_T39 l (i : Int)) := by rw [rd39_nat l i hlt]; exact hv _ (List.getElem_mem hlt)
    simp only [lots_Slice.l0]
    rw [if_pos (by omega), if_pos (by omega), if_pos (by omega), drop_cons l i hlt]
    generalize rd_T39 l (i : Int) = x at hx
    obtain ⟨h0, h1, h2, h3, h4⟩ := hx
    have hs : 0 ≤ mn a x.f2 ∧ mn a x.f2 ≤ a ∧ mn a x.f2 ≤ x.f2 := by unfold mn; split <;> omega
    simp only [lots_cut.f, Option.bind_some]
    have e1 : wrap64 (x.f2 - mn a x.f2) = x.f2 - mn a x.f2 := w64 (by omega) (by omega)
    have e2 : wrap64 (x.f1 + mn a x.f2) = x.f1 + mn a x.f2 := w64 (by omega) (by omega)
    rw [e1, e2]
    have hm : 0 ≤ mn n (x.f2 - mn a x.f2) ∧ mn n (x.f2 - mn a x.f2) ≤ n := by unfold mn; split <;> omega
    have e3 : wrap64 (a - mn a x.f2) = a - mn a x.f2 := w64 (by omega) (by omega)
    have e4 : wrap64 (n - mn n (x.f2 - mn a x.f2)) = n - mn n (x.f2 - mn a x.f2) := w64 (by omega) (by omega)
    rw [e3, e4, w64_1 i (by omega)]
    unfold lots_some.f
    by_cases hz : mn n (x.f2 - mn a x.f2) = 0
    · rw [if_pos hz, Option.bind_some, ih (i + 1) k _ _ _ (by omega) (by omega) (by omega) (by omega) (by omega) (by omega) (by omega), slc, if_pos hz]
    · obtain ⟨hj1, hj2⟩ := join_len out ⟨x.f0, x.f1 + mn a x.f2, mn n (x.f2 - mn a x.f2)⟩ (by omega)
      rw [if_neg hz, hj1, Option.bind_some, Option.bind_some, ih (i + 1) k _ _ _ (by omega) (by omega) (by omega) (by omega) (by omega) (by omega) (by omega), slc, if_neg hz]
theorem ref_Add (out : List S39) (p : S39) (k : Nat) (hk : 1 ≤ k) (h : out.length < 5864062014805) (hn : p.f2 ≠ 0) : worldmintref14_Add.f k out p.f0 p.f1 p.f2 = some (jn out p) := by
  obtain ⟨hj1, hj2⟩ := join_len out p h
  rw [← hj1]
  obtain ⟨k, rfl⟩ : ∃ q, k = q + 1 := ⟨k - 1, by omega⟩
  unfold worldmintref14_Add.f lots_join.f lots_end.f
  rw [List.nil_append, if_pos (by simpa using h), Option.bind_some, if_neg hn]
  by_cases h0 : (out.length : Int) > 0
  · have e : wrap64 ((out.length : Int) - 1) = (out.length : Int) - 1 := w64 (by omega) (by omega)
    have g1 : 0 ≤ (out.length : Int) - 1 := by omega
    have g2 : (out.length : Int) - 1 < (out.length : Int) := by omega
    simp only [e, if_pos h0, if_pos g1, if_pos g2, Option.bind_some, worldmintref14_Add.j0]
    by_cases c1 : (rd_T39 out ((out.length : Int) - 1)).f0 = p.f0
    · simp only [c1, beq_self_eq_true, Bool.true_and, if_true]
    · have c2 : ((rd_T39 out ((out.length : Int) - 1)).f0 == p.f0) = false := beq_eq_false_iff_ne.2 c1
      simp only [if_neg c1, c2, Bool.false_and]
  · simp only [if_neg h0, worldmintref14_Add.j0]
    rfl
theorem mx_c (a b : Int) : mx a b = a ∧ b ≤ a ∨ mx a b = b ∧ a ≤ b := by unfold mx; split <;> omega
theorem mn_c (a b : Int) : mn a b = a ∧ a ≤ b ∨ mn a b = b ∧ b ≤ a := by unfold mn; split <;> omega
theorem slice_arith (a n pos N : Int) (ha : 0 ≤ a) (hn : 0 ≤ n) (hp : 0 ≤ pos) (hN : 1 ≤ N) :
    (mx a pos < mn (a + n) (pos + N) → mn (mx 0 (a - pos)) N = mx a pos - pos ∧ mn (mx 0 (a + n - mx a pos)) (N - mn (mx 0 (a - pos)) N) = mn (a + n) (pos + N) - mx a pos) ∧
    (¬ mx a pos < mn (a + n) (pos + N) → mn (mx 0 (a + n - mx a pos)) (N - mn (mx 0 (a - pos)) N) = 0) ∧
    mx 0 (a - pos) - mn (mx 0 (a - pos)) N = mx 0 (a - (pos + N)) ∧
    mx 0 (a + n - mx a pos) - mn (mx 0 (a + n - mx a pos)) (N - mn (mx 0 (a - pos)) N) = mx 0 (a + n - mx a (pos + N)) := by
  have h1 := mx_c a pos
  have h2 := mn_c (a + n) (pos + N)
  have h3 := mx_c 0 (a - pos)
  have h5 := mx_c a (pos + N)
  have h6 := mx_c 0 (a - (pos + N))
  generalize mx a pos = lo at *
  generalize mn (a + n) (pos + N) = hi at *
  generalize mx 0 (a - pos) = A at *
  generalize mx a (pos + N) = lo2 at *
  generalize mx 0 (a - (pos + N)) = A2 at *
  have h7 := mn_c A N
  have h8 := mx_c 0 (a + n - lo)
  have h9 := mx_c 0 (a + n - lo2)
  generalize mn A N = s at *
  generalize mx 0 (a + n - lo) = M at *
  generalize mx 0 (a + n - lo2) = M2 at *
  have h10 := mn_c M (N - s)
  generalize mn M (N - s) = m at *
  refine ⟨fun h => ⟨?_, ?_⟩, fun h => ?_, ?_, ?_⟩ <;> omega
theorem ref_Slice_l0 (l : List S39) (hl : l.length ≤ 4096) (hv : ∀ x ∈ l, okX x) (at_ n : Int) (ha0 : 0 ≤ at_) (hn0 : 0 ≤ n) (han : at_ + n ≤ 4611686018427387904) : ∀ (d i k : Nat) (pos : Int) (out : List S39), i + d = l.length → d < k → 0 ≤ pos → pos + d * 1099511627776 ≤ 9007199254740992 → out.length ≤ i →
    worldmintref14_Slice.l0 k l at_ n out pos (i : Int) = some (slc (l.drop i) (mx 0 (at_ - pos)) (mx 0 (at_ + n - mx at_ pos)) out, 0) := by
  intro d
  induction d with
  | zero =>
    intro i k pos out hi hk _ _ _
    obtain ⟨k, rfl⟩ : ∃ q, k = q + 1 := ⟨k - 1, by omega⟩
    have e : l.drop i = [] := List.drop_eq_nil_of_le (by omega)
    simp only [worldmintref14_Slice.l0, e, slc]
    rw [if_neg (by omega)]
  | succ d ih =>
    intro i k pos out hi hk hp0 hp1 ho
    obtain ⟨k, rfl⟩ : ∃ q, k = q + 1 := ⟨k - 1, by omega⟩
    have hlt : i < l.length := by omega
    have hx : okX (rd_T39 l (i : Int)) := by rw [rd39_nat l i hlt]; exact hv _ (List.getElem_mem hlt)
    simp only [worldmintref14_Slice.l0]
    rw [if_pos (by omega), if_pos (by omega), drop_cons l i hlt]
    generalize rd_T39 l (i : Int) = x at hx
    obtain ⟨h0, h1, h2, h3, h4⟩ := hx
    have e1 : wrap64 (at_ + n) = at_ + n := w64 (by omega) (by omega)
    have e2 : wrap64 (pos + x.f2) = pos + x.f2 := w64 (by omega) (by omega)
    rw [e1, e2, w64_1 i (by omega)]
    have hpd : pos + x.f2 + (d : Int) * 1099511627776 ≤ 9007199254740992 := by
      have : ((d + 1 : Nat) : Int) * 1099511627776 = (d : Int) * 1099511627776 + 1099511627776 := by omega
      omega
    obtain ⟨q1, q2, q3, q4⟩ := slice_arith at_ n pos x.f2 ha0 hn0 hp0 h2
    have hlo := mx_c at_ pos
    have hhi := mn_c (at_ + n) (pos + x.f2)
    by_cases hc : mx at_ pos < mn (at_ + n) (pos + x.f2)
    · obtain ⟨r1, r2⟩ := q1 hc
      rw [if_pos hc]
      have ea : wrap64 (wrap64 (x.f1 + mx at_ pos) - pos) = x.f1 + mn (mx 0 (at_ - pos)) x.f2 := by
        rw [w64 (x := x.f1 + mx at_ pos) (by omega) (by omega), w64 (by omega) (by omega), r1]
        omega
      have em : wrap64 (mn (at_ + n) (pos + x.f2) - mx at_ pos) = mn (mx 0 (at_ + n - mx at_ pos)) (x.f2 - mn (mx 0 (at_ - pos)) x.f2) := by
        rw [w64 (by omega) (by omega), r2]
      rw [ea, em]
      have hz : mn (mx 0 (at_ + n - mx at_ pos)) (x.f2 - mn (mx 0 (at_ - pos)) x.f2) ≠ 0 := by
        rw [r2]
        omega
      have hadd := ref_Add out ⟨x.f0, x.f1 + mn (mx 0 (at_ - pos)) x.f2, mn (mx 0 (at_ + n - mx at_ pos)) (x.f2 - mn (mx 0 (at_ - pos)) x.f2)⟩ k (by omega) (by omega) hz
      obtain ⟨_, hj2⟩ := join_len out ⟨x.f0, x.f1 + mn (mx 0 (at_ - pos)) x.f2, mn (mx 0 (at_ + n - mx at_ pos)) (x.f2 - mn (mx 0 (at_ - pos)) x.f2)⟩ (by omega)
      rw [hadd, Option.bind_some, ih (i + 1) k _ _ (by omega) (by omega) (by omega) (by omega) (by omega), slc, if_neg hz, q3, q4]
    · rw [if_neg hc, ih (i + 1) k _ _ (by omega) (by omega) (by omega) (by omega) (by omega), slc, if_pos (q2 hc), q3, q4]
def slP (l : List S39) (a n : Int) : List S39 × Int :=
  if valid l = true ∧ 0 ≤ a ∧ 0 ≤ n then (if a > tot l ∨ n > tot l - a then ([], 5) else (slc l a n [], 0)) else ([], 1)
theorem lots_Slice_eq (l : List S39) (a n : Int) (k : Nat) (hl : l.length < 4611686018427387904) (hk : l.length + 3 < k) : lots_Slice.f k l a n = some (slP l a n) := by
  obtain ⟨k, rfl⟩ : ∃ q, k = q + 2 := ⟨k - 2, by omega⟩
  unfold lots_Slice.f slP
  rw [lots_Valid_eq, Option.bind_some]
  have ht := tot_range l
  cases hv : valid l with
  | false => simp [lots_Slice.j0]
  | true =>
    obtain ⟨hv1, hv2⟩ := valid_mem hv
    by_cases ha : a < 0
    · have : ¬ (0 ≤ a) := by omega
      simp [ha, this, lots_Slice.j0]
    · by_cases hn : n < 0
      · have : ¬ (0 ≤ n) := by omega
        simp [ha, hn, this, lots_Slice.j0]
      · rw [if_pos rfl, if_neg ha, decide_eq_false hn, if_pos ⟨rfl, by omega, by omega⟩]
        simp only [lots_Slice.j0]
        rw [if_neg (by decide), lots_Total_eq l (k + 1) hl (by omega), Option.bind_some]
        by_cases c1 : a > tot l
        · rw [if_pos c1, if_pos (Or.inl c1)]
          simp [lots_Slice.j1]
        · rw [if_neg c1, w64 (by omega) (by omega)]
          by_cases c2 : n > tot l - a
          · rw [if_pos (Or.inr c2), decide_eq_true c2]
            simp [lots_Slice.j1]
          · rw [if_neg (by omega), decide_eq_false c2]
            have h := lots_Slice_l0 l hv1 hv2 l.length 0 k a n [] (by omega) (by omega) (by omega) (by omega) (by omega) (by omega) (by simp)
            simp only [lots_Slice.j1]
            rw [if_neg (by decide)]
            exact h
theorem ref_Slice_eq (l : List S39) (a n : Int) (k : Nat) (hl : l.length < 4611686018427387904) (hk : l.length + 3 < k) : worldmintref14_Slice.f k l a n = some (slP l a n) := by
  obtain ⟨k, rfl⟩ : ∃ q, k = q + 2 := ⟨k - 2, by omega⟩
  unfold worldmintref14_Slice.f slP
  rw [ref_Valid_eq l _ hl (by omega), Option.bind_some]
  have ht := tot_range l
  cases hv : valid l with
  | false => simp [worldmintref14_Slice.j0]
  | true =>
    obtain ⟨hv1, hv2⟩ := valid_mem hv
    by_cases ha : a < 0
    · have : ¬ (0 ≤ a) := by omega
      simp [ha, this, worldmintref14_Slice.j0]
    · by_cases hn : n < 0
      · have : ¬ (0 ≤ n) := by omega
        simp [ha, hn, this, worldmintref14_Slice.j0]
      · rw [if_pos rfl, if_neg ha, decide_eq_false hn, if_pos ⟨rfl, by omega, by omega⟩]
        simp only [worldmintref14_Slice.j0]
        rw [if_neg (by decide), ref_Total_eq l (k + 1) hl (by omega), Option.bind_some]
        by_cases c1 : a > tot l
        · rw [if_pos c1, if_pos (Or.inl c1)]
          simp [worldmintref14_Slice.j1]
        · rw [if_neg c1, w64 (by omega) (by omega)]
          by_cases c2 : n > tot l - a
          · rw [if_pos (Or.inr c2), decide_eq_true c2]
            simp [worldmintref14_Slice.j1]
          · rw [if_neg (by omega), decide_eq_false c2]
            have h := ref_Slice_l0 l hv1 hv2 a n (by omega) (by omega) (by omega) l.length 0 k 0 [] (by omega) (by omega) (by omega) (by omega) (by simp)
            have e1 : mx 0 (a - 0) = a := by unfold mx; split <;> omega
            have e2 : mx 0 (a + n - mx a 0) = n := by
              have h1 := mx_c a 0
              have h2 := mx_c 0 (a + n - mx a 0)
              omega
            simp only [worldmintref14_Slice.j1]
            rw [if_neg (by decide)]
            rw [e1, e2] at h
            exact h
theorem slc_len : ∀ (l : List S39) (a n : Int) (out : List S39), out.length + l.length < 5864062014805 → (slc l a n out).length ≤ out.length + l.length
  | [], a, n, out, _ => by simp [slc]
  | x :: xs, a, n, out, h => by
    simp only [List.length_cons] at h ⊢
    unfold slc
    split
    · have := slc_len xs (a - mn a x.f2) (n - mn n (x.f2 - mn a x.f2)) out (by omega)
      omega
    · obtain ⟨_, hj⟩ := join_len out ⟨x.f0, x.f1 + mn a x.f2, mn n (x.f2 - mn a x.f2)⟩ (by omega)
      have := slc_len xs (a - mn a x.f2) (n - mn n (x.f2 - mn a x.f2)) (jn out ⟨x.f0, x.f1 + mn a x.f2, mn n (x.f2 - mn a x.f2)⟩) (by omega)
      omega
theorem slP_len (l : List S39) (a n : Int) (h : l.length ≤ 4096) : (slP l a n).1.length ≤ l.length := by
  unfold slP
  split
  · split
    · simp
    · have := slc_len l a n [] (by simp; omega)
      simp only [List.length_nil] at this
      show (slc l a n []).length ≤ l.length
      omega
  · simp
end Go.Proofs.Ytcicjbgfahdejaa.P
