/- This session's own: the reference's Divide, bit by bit, computes the same. -/
import Derived.Test.YtcicjbgfahdejaaQD2
import Derived.Test.YtcicjbgfahdejaaQDv
namespace Go.Proofs.Ytcicjbgfahdejaa.P
open Go Go.RowKit Go.Proofs.YtcicjbgfahdejaaW.PrintWords Go.Proofs.YtcicjbgfahdejaaW.PrintLast Go.Proofs.YtcicjbgfahdejaaW.PrintMore
set_option linter.unusedSimpArgs false
set_option linter.unusedVariables false
theorem ref_Divide_l0 (A b d : Int) (hA : 0 ≤ A) (hA1 : A ≤ 1152921504606846976) (hb : 0 ≤ b) (hb1 : b ≤ 4611686018427387904) (hd : 0 < d) (hd1 : d ≤ 4611686018427387904) (hq : A * b / d ≤ 1152921504606846976) :
    ∀ (n k : Nat) (a p q r : Int), p * 2 ^ n + a = A → 0 ≤ a → a < 2 ^ n → 0 ≤ p → q * d + r = p * b → 0 ≤ r → r < d → 0 ≤ q → q ≤ 1152921504606846976 → n ≤ 61 → 3 * n < k →
    worldmintref03_Divide.l0 k a b d q r ((2 : Int) ^ n / 2) = some (A * b / d, A * b % d, true) := by
  intro n
  induction n with
  | zero =>
    intro k a p q r h1 h2 h3 h4 h5 h6 h7 h8 h9 h10 hk
    obtain ⟨k, rfl⟩ : ∃ m, k = m + 1 := ⟨k - 1, by omega⟩
    have e0 : (2 : Int) ^ 0 = 1 := rfl
    rw [e0] at h1 h3
    have : a = 0 := by omega
    subst this
    have : p = A := by omega
    subst this
    obtain ⟨f1, f2⟩ := Dv.fin hd h5 h6 h7
    simp only [worldmintref03_Divide.l0]
    rw [if_neg (by simp), f1, f2]
  | succ n ih =>
    intro k a p q r h1 h2 h3 h4 h5 h6 h7 h8 h9 h10 hk
    obtain ⟨k, rfl⟩ : ∃ m, k = m + 3 := ⟨k - 3, by omega⟩
    have eB : (2 : Int) ^ (n + 1) = 2 * 2 ^ n := by rw [Int.pow_succ, Int.mul_comm]
    have hB0 : (1 : Int) ≤ 2 ^ n := Int.pow_pos (by omega)
    have hB1 : (2 : Int) ^ n ≤ 1152921504606846976 := by
      have : (2 : Nat) ^ n ≤ 2 ^ 60 := Nat.pow_le_pow_right (by decide) (by omega)
      have h2 : ((2 ^ n : Nat) : Int) ≤ ((2 ^ 60 : Nat) : Int) := by exact_mod_cast this
      simpa using h2
    rw [eB] at h1 h3
    have ex : (2 : Int) ^ (n + 1) / 2 = 2 ^ n := by rw [eB]; omega
    rw [ex]
    have et : wrap64 (Int.tdiv ((2 : Int) ^ n) 2) = 2 ^ n / 2 := by
      rw [Int.tdiv_eq_ediv_of_nonneg (by omega)]
      unfold wrap64
      omega
    generalize hBg : (2 : Int) ^ n = B at *
    -- the last step
    have hm0 := Int.emod_nonneg b (show d ≠ 0 by omega)
    have hm1 := Int.emod_lt_of_pos b hd
    have hd0 : 0 ≤ b / d := Int.ediv_nonneg hb (by omega)
    have J2 : ∀ (a' p' q' r' : Int), p' * B + a' = A → 0 ≤ a' → a' < B → 0 ≤ p' → q' * d + r' = p' * b → 0 ≤ r' → r' < d → 0 ≤ q' → worldmintref03_Divide.j2 (k + 1) a' b d q' r' B = some (A * b / d, A * b % d, true) := by
      intro a' p' q' r' g1 g2 g3 g4 g5 g6 g7 g8
      have hp : p' ≤ A := by
        have : p' * 1 ≤ p' * B := Int.mul_le_mul_of_nonneg_left hB0 g4
        omega
      have hq' : q' ≤ 1152921504606846976 := by
        have h1 : p' * b ≤ A * b := Int.mul_le_mul_of_nonneg_right hp hb
        have h2 : q' ≤ A * b / d := Int.le_ediv_of_mul_le hd (by omega)
        omega
      simp only [worldmintref03_Divide.j2]
      rw [if_neg (by omega), et]
      exact ih k a' p' q' r' g1 g2 g3 g4 g5 g6 g7 g8 hq' (by omega) (by omega)
    have J1 : ∀ (q' r' : Int), q' * d + r' = 2 * p * b → 0 ≤ r' → r' < d → 0 ≤ q' → q' ≤ 2305843009213693953 → worldmintref03_Divide.j1 (k + 2) a b d q' r' B = some (A * b / d, A * b % d, true) := by
      intro q' r' g5 g6 g7 g8 g9
      simp only [worldmintref03_Divide.j1]
      have ep : 2 * p * B = p * (2 * B) := by grind
      by_cases hc : a ≥ B
      · rw [if_pos hc, if_neg (by omega)]
        rw [Int.tmod_eq_emod_of_nonneg hb, Int.tdiv_eq_ediv_of_nonneg hb]
        obtain ⟨a1, a2⟩ := Dv.addb hd hb g5 g6 g7
        have hdb : b / d ≤ b := Int.ediv_le_self _ hb
        have e1 : wrap64 (r' + b % d) = r' + b % d := by unfold wrap64; omega
        have e2 : wrap64 (a - B) = a - B := by unfold wrap64; omega
        have e3 : wrap64 (b / d) = b / d := by unfold wrap64; omega
        have e4 : wrap64 (q' + b / d) = q' + b / d := by unfold wrap64; omega
        have e5 : wrap64 (q' + b / d + 1) = q' + b / d + 1 := by unfold wrap64; omega
        have epp : (2 * p + 1) * B + (a - B) = A := by rw [Int.add_mul, Int.one_mul]; omega
        rw [e1, e2, e3, e4, e5]
        by_cases h : r' + b % d ≥ d
        · obtain ⟨b1, b2, b3⟩ := a1 h
          have e6 : wrap64 (r' + b % d - d) = r' + b % d - d := by unfold wrap64; omega
          rw [if_pos h, e6]
          exact J2 _ (2 * p + 1) _ _ epp (by omega) (by omega) (by omega) b1 b2 b3 (by omega)
        · obtain ⟨b1, b2, b3⟩ := a2 h
          rw [if_neg h]
          exact J2 _ (2 * p + 1) _ _ epp (by omega) (by omega) (by omega) b1 b2 b3 (by omega)
      · rw [if_neg hc]
        exact J2 _ (2 * p) _ _ (by omega) h2 (by omega) (by omega) g5 g6 g7 (by omega)
    obtain ⟨a1, a2⟩ := Dv.double hd h5 h6 h7
    simp only [worldmintref03_Divide.l0]
    have e1 : wrap64 (2 * r) = 2 * r := by unfold wrap64; omega
    have e2 : wrap64 (2 * q) = 2 * q := by unfold wrap64; omega
    have e3 : wrap64 (2 * q + 1) = 2 * q + 1 := by unfold wrap64; omega
    rw [if_pos (by omega), e1, e2, e3]
    by_cases h : 2 * r ≥ d
    · obtain ⟨b1, b2, b3⟩ := a1 h
      have e6 : wrap64 (2 * r - d) = 2 * r - d := by unfold wrap64; omega
      rw [if_pos h, e6]
      exact J1 _ _ b1 b2 b3 (by omega) (by omega)
    · obtain ⟨b1, b2, b3⟩ := a2 h
      rw [if_neg h]
      exact J1 _ _ b1 b2 b3 (by omega) (by omega)
theorem ref_Divide_eq (A b d : Int) (hA : 0 ≤ A) (hA1 : A ≤ 1152921504606846976) (hb : 0 ≤ b) (hb1 : b ≤ 2305843009213693952) (hd : 0 < d) (hd1 : d ≤ 4611686018427387904) (hq : A * b / d ≤ 1152921504606846976) (k : Nat) (hk : 190 ≤ k) :
    worldmintref03_Divide.f k A b d = some (A * b / d, A * b % d, true) := by
  unfold worldmintref03_Divide.f
  exact ref_Divide_l0 A b d hA hA1 hb (by omega) hd hd1 hq 61 k A 0 0 0 (by omega) hA (by omega) (by omega) (by omega) (by omega) hd (by omega) (by omega) (by omega) (by omega)
end Go.Proofs.Ytcicjbgfahdejaa.P
