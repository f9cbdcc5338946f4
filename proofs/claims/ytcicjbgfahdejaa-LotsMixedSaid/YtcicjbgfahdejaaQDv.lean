/- This session's own: division bit by bit, one round of it, plainly. -/
namespace Dv
set_option linter.unusedVariables false
/-- One round of the reference's division, bit by bit: p units of a are done: q * d + r = p * b. -/
theorem double {q r d p b : Int} (hd : 0 < d) (h : q * d + r = p * b) (h0 : 0 ≤ r) (h1 : r < d) :
    (2 * r ≥ d → (2 * q + 1) * d + (2 * r - d) = (2 * p) * b ∧ 0 ≤ 2 * r - d ∧ 2 * r - d < d) ∧ (¬ 2 * r ≥ d → (2 * q) * d + 2 * r = (2 * p) * b ∧ 0 ≤ 2 * r ∧ 2 * r < d) := by
  have e1 : (2 * q + 1) * d = 2 * (q * d) + d := by rw [Int.add_mul, Int.one_mul, Int.mul_assoc]
  have e2 : (2 * q) * d = 2 * (q * d) := Int.mul_assoc ..
  have e3 : (2 * p) * b = 2 * (p * b) := Int.mul_assoc ..
  refine ⟨fun h2 => ⟨?_, ?_, ?_⟩, fun h2 => ⟨?_, ?_, ?_⟩⟩ <;> omega
theorem addb {q r d p b : Int} (hd : 0 < d) (hb : 0 ≤ b) (h : q * d + r = p * b) (h0 : 0 ≤ r) (h1 : r < d) :
    (r + b % d ≥ d → (q + b / d + 1) * d + (r + b % d - d) = (p + 1) * b ∧ 0 ≤ r + b % d - d ∧ r + b % d - d < d) ∧ (¬ r + b % d ≥ d → (q + b / d) * d + (r + b % d) = (p + 1) * b ∧ 0 ≤ r + b % d ∧ r + b % d < d) := by
  have e1 : (q + b / d + 1) * d = q * d + d * (b / d) + d := by rw [Int.add_mul, Int.add_mul, Int.one_mul, Int.mul_comm (b / d)]
  have e2 : (q + b / d) * d = q * d + d * (b / d) := by rw [Int.add_mul, Int.mul_comm (b / d)]
  have e3 : (p + 1) * b = p * b + b := by rw [Int.add_mul, Int.one_mul]
  have e4 := Int.mul_ediv_add_emod b d
  have e5 := Int.emod_nonneg b (show d ≠ 0 by omega)
  have e6 := Int.emod_lt_of_pos b hd
  refine ⟨fun h2 => ⟨?_, ?_, ?_⟩, fun h2 => ⟨?_, ?_, ?_⟩⟩ <;> omega
theorem fin {q r d n : Int} (hd : 0 < d) (h : q * d + r = n) (h0 : 0 ≤ r) (h1 : r < d) : q = n / d ∧ r = n % d := by
  subst h
  refine ⟨?_, ?_⟩
  · rw [Int.add_comm, Int.add_mul_ediv_right _ _ (by omega), Int.ediv_eq_zero_of_lt h0 h1, Int.zero_add]
  · rw [Int.add_comm, Int.add_mul_emod_self_right, Int.emod_eq_of_lt h0 h1]
end Dv
