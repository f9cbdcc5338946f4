/- This session's own: Knuth's two-digit division, plainly. -/
namespace Kn
theorem prod (q yn1 yn0 : Int) : q * (yn1 * 4294967296 + yn0) = 4294967296 * (q * yn1) + q * yn0 := by
  rw [Int.mul_add, ← Int.mul_assoc, Int.mul_comm 4294967296]
/-- The state of Knuth's correction: not below the digit, q * yn1 + r = u. -/
structure St (yn1 yn0 u un q r : Int) : Prop where
  y1 : 2147483648 ≤ yn1
  y1' : yn1 < 4294967296
  y0 : 0 ≤ yn0
  y0' : yn0 < 4294967296
  u0 : 0 ≤ u
  u1 : u < yn1 * 4294967296 + yn0
  n0 : 0 ≤ un
  n1 : un < 4294967296
  q1 : q ≤ 4294967297
  r0 : 0 ≤ r
  eq : q * yn1 + r = u
  ge : (u * 4294967296 + un) / (yn1 * 4294967296 + yn0) ≤ q
theorem St.digit {yn1 yn0 u un q r : Int} (h : St yn1 yn0 u un q r) : 0 ≤ (u * 4294967296 + un) / (yn1 * 4294967296 + yn0) ∧ (u * 4294967296 + un) / (yn1 * 4294967296 + yn0) < 4294967296 := by
  obtain ⟨h1, h2, h3, h4, h5, h6, h7, h8, h9, h10, h11, h12⟩ := h
  refine ⟨Int.ediv_nonneg (by omega) (by omega), Int.ediv_lt_of_lt_mul (by omega) ?_⟩
  omega
theorem St.exit {yn1 yn0 u un q r : Int} (h : St yn1 yn0 u un q r) (hc : q * yn0 ≤ 4294967296 * r + un) : q = (u * 4294967296 + un) / (yn1 * 4294967296 + yn0) := by
  have := h.eq
  have hy : 0 < yn1 * 4294967296 + yn0 := by have := h.y1; have := h.y0; omega
  refine Int.le_antisymm (Int.le_ediv_of_mul_le hy ?_) h.ge
  rw [prod]
  omega
theorem St.lt {yn1 yn0 u un q r : Int} (h : St yn1 yn0 u un q r) (hc : q ≥ 4294967296 ∨ q * yn0 > 4294967296 * r + un) : (u * 4294967296 + un) / (yn1 * 4294967296 + yn0) < q := by
  have hy : 0 < yn1 * 4294967296 + yn0 := by have := h.y1; have := h.y0; omega
  rcases hc with hc | hc
  · have := h.digit.2
    omega
  · refine Int.ediv_lt_of_lt_mul hy ?_
    rw [prod]
    have := h.eq
    omega
theorem pred (q y : Int) : (q - 1) * y = q * y - y := by rw [Int.sub_mul, Int.one_mul]
theorem St.step {yn1 yn0 u un q r : Int} (h : St yn1 yn0 u un q r) (hc : q ≥ 4294967296 ∨ q * yn0 > 4294967296 * r + un) : St yn1 yn0 u un (q - 1) (r + yn1) := by
  have hl := h.lt hc
  obtain ⟨h1, h2, h3, h4, h5, h6, h7, h8, h9, h10, h11, h12⟩ := h
  exact ⟨h1, h2, h3, h4, h5, h6, h7, h8, by omega, by omega, by rw [pred]; omega, by omega⟩
/-- Out of the loop because the rest has become great. -/
theorem St.break {yn1 yn0 u un q r : Int} (h : St yn1 yn0 u un q r) (hc : q ≥ 4294967296 ∨ q * yn0 > 4294967296 * r + un) (hr : r + yn1 ≥ 4294967296) : q - 1 = (u * 4294967296 + un) / (yn1 * 4294967296 + yn0) := by
  have hs := h.step hc
  refine hs.exit ?_
  have hq : q - 1 < 4294967296 := by
    by_cases h1 : q - 1 < 4294967296
    · exact h1
    · exfalso
      have e : q = 4294967297 := by have := h.q1; omega
      subst e
      have := h.eq
      have := h.u1
      have := h.y0'
      omega
  have h0 : 0 ≤ q - 1 := by have := hs.ge; have := hs.digit.1; omega
  have hb : (q - 1) * yn0 ≤ 4294967295 * 4294967295 := Int.mul_le_mul (by omega) (by have := h.y0'; omega) h.y0 (by omega)
  have := h.n0
  omega
theorem St.start {yn1 yn0 u un : Int} (y1 : 2147483648 ≤ yn1) (y1' : yn1 < 4294967296) (y0 : 0 ≤ yn0) (y0' : yn0 < 4294967296) (u0 : 0 ≤ u) (u1 : u < yn1 * 4294967296 + yn0) (n0 : 0 ≤ un) (n1 : un < 4294967296) :
    St yn1 yn0 u un (u / yn1) (u % yn1) := by
  have hd := Int.mul_ediv_add_emod u yn1
  have hm0 := Int.emod_nonneg u (show yn1 ≠ 0 by omega)
  have hm1 := Int.emod_lt_of_pos u (show 0 < yn1 by omega)
  have e : u / yn1 * yn1 + u % yn1 = u := by rw [Int.mul_comm]; exact hd
  refine ⟨y1, y1', y0, y0', u0, u1, n0, n1, ?_, hm0, e, ?_⟩
  · have h1 : u / yn1 < 4294967298 := by
      refine Int.ediv_lt_of_lt_mul (by omega) ?_
      omega
    omega
  · have h1 : (u * 4294967296 + un) / (yn1 * 4294967296 + yn0) < u / yn1 + 1 := by
      refine Int.ediv_lt_of_lt_mul (by omega) ?_
      rw [Int.add_mul, Int.one_mul, prod]
      have h2 : 0 ≤ u / yn1 * yn0 := Int.mul_nonneg (Int.ediv_nonneg u0 (by omega)) y0
      omega
    omega
/-- Both digits: the quotient and the rest of the whole. -/
theorem two {y u un1 un0 : Int} (hy : 0 < y) :
    (u * 18446744073709551616 + (un1 * 4294967296 + un0)) / y = (u * 4294967296 + un1) / y * 4294967296 + ((u * 4294967296 + un1) % y * 4294967296 + un0) / y ∧
    (u * 18446744073709551616 + (un1 * 4294967296 + un0)) % y = ((u * 4294967296 + un1) % y * 4294967296 + un0) % y := by
  have h1 := Int.mul_ediv_add_emod (u * 4294967296 + un1) y
  generalize (u * 4294967296 + un1) / y = q1 at *
  generalize hr1 : (u * 4294967296 + un1) % y = r1 at *
  have e : u * 18446744073709551616 + (un1 * 4294967296 + un0) = (r1 * 4294967296 + un0) + y * (q1 * 4294967296) := by
    rw [← Int.mul_assoc]
    omega
  rw [e]
  refine ⟨?_, ?_⟩
  · rw [Int.add_mul_ediv_left _ _ (by omega)]
    omega
  · rw [Int.add_mul_emod_self_left]
/-- Scaled by s: the quotient is the same, the rest is scaled. -/
theorem scaled (n y s : Int) (hs : 0 < s) : (n * s) / (y * s) = n / y ∧ (n * s) % (y * s) = (n % y) * s := by
  refine ⟨Int.mul_ediv_mul_of_pos_left n y hs, ?_⟩
  rw [Int.mul_comm n s, Int.mul_comm y s, Int.mul_emod_mul_of_pos _ _ hs, Int.mul_comm]
end Kn
