/- This session's own: bits.Mul64, bits.Div64 and share.divide compute the product's quotient and rest. -/
import Derived.Test.YtcicjbgfahdejaaPD
import Derived.Test.YtcicjbgfahdejaaQKn
namespace Go.Proofs.Ytcicjbgfahdejaa.P
open Go Go.RowKit Go.Proofs.YtcicjbgfahdejaaW.PrintWords Go.Proofs.YtcicjbgfahdejaaW.PrintLast Go.Proofs.YtcicjbgfahdejaaW.PrintMore
set_option linter.unusedSimpArgs false
set_option linter.unusedVariables false
theorem u64m (x : Int) : IntKind.u64.wrap x = x % 18446744073709551616 := by simp [IntKind.wrap, IntKind.bits, IntKind.signed]
theorem and32 (x : Int) (h0 : 0 ≤ x) (h1 : x ≤ 18446744073709551615) : Go.bits .and .u64 x 4294967295 = x % 4294967296 :=
  bits_mask .u64 64 (by decide) (fun n h0 h1 => by rw [u64m]; omega) 32 (by decide) x h0 (by omega)
theorem and32m (x : Int) : Go.bits .and .u64 (x % 18446744073709551616) 4294967295 = x % 18446744073709551616 % 4294967296 := and32 _ (by omega) (by omega)
theorem mul64_eq (a b : Int) (ha0 : 0 ≤ a) (ha1 : a ≤ 18446744073709551615) (hb0 : 0 ≤ b) (hb1 : b ≤ 18446744073709551615) :
    bits_Mul64.f a b = some (a * b / 18446744073709551616, a * b % 18446744073709551616) := by
  unfold bits_Mul64.f
  simp only [and32 a ha0 ha1, and32 b hb0 hb1, u64m, and32m]
  have ea : a = a / 4294967296 * 4294967296 + a % 4294967296 := by omega
  have eb : b = b / 4294967296 * 4294967296 + b % 4294967296 := by omega
  have e : a * b = (a / 4294967296 * (b / 4294967296)) * 18446744073709551616 + (a / 4294967296 * (b % 4294967296) + a % 4294967296 * (b / 4294967296)) * 4294967296 + a % 4294967296 * (b % 4294967296) := by
    conv => lhs; rw [ea, eb]
    grind
  rw [e]
  have B : ∀ x y : Int, 0 ≤ x → x ≤ 4294967295 → 0 ≤ y → y ≤ 4294967295 → 0 ≤ x * y ∧ x * y ≤ 18446744065119617025 := fun x y h1 h2 h3 h4 =>
    ⟨Int.mul_nonneg h1 h3, Int.mul_le_mul h2 h4 h3 (by omega)⟩
  have b1 := B (a / 4294967296) (b / 4294967296) (by omega) (by omega) (by omega) (by omega)
  have b2 := B (a / 4294967296) (b % 4294967296) (by omega) (by omega) (by omega) (by omega)
  have b3 := B (a % 4294967296) (b / 4294967296) (by omega) (by omega) (by omega) (by omega)
  have b4 := B (a % 4294967296) (b % 4294967296) (by omega) (by omega) (by omega) (by omega)
  generalize a / 4294967296 * (b / 4294967296) = p at *
  generalize a / 4294967296 * (b % 4294967296) = q at *
  generalize a % 4294967296 * (b / 4294967296) = r at *
  generalize a % 4294967296 * (b % 4294967296) = s at *
  congr 1
  refine Prod.ext ?_ ?_
  · show _ = _
    simp only
    omega
  · show _ = _
    simp only

theorem shl64 (x s : Int) (hs : 0 ≤ s) (h : s ≤ 64) : shl .u64 x s = x * 2 ^ s.toNat % 18446744073709551616 := by
  unfold shl; rw [u64m, Nat.min_eq_left (by show s.toNat ≤ 64; omega)]
theorem shr64 (x s : Int) (hs : 0 ≤ s) (h : s ≤ 64) : shr .u64 x s = x / 2 ^ s.toNat := by
  unfold shr; rw [Nat.min_eq_left (by show s.toNat ≤ 64; omega)]
open Kn in
theorem Div64_l1 (y s yn1 yn0 q1 un0 un21 : Int) (hy : y = yn1 * 4294967296 + yn0) (hs0 : 0 ≤ s) (hs : s ≤ 64) (hq0 : 0 ≤ q1) (hq1 : q1 < 4294967296) : ∀ (d k : Nat) (r q : Int), St yn1 yn0 un21 un0 q r → r < 4294967296 → 4294967296 ≤ r + d * 2147483648 → 2 * d < k →
    bits_Div64.l1 k y s yn1 yn0 un0 q1 r un21 q = some (q1 * 4294967296 + (un21 * 4294967296 + un0) / y, (un21 * 4294967296 + un0) % y / 2 ^ s.toNat) := by
  intro d
  induction d with
  | zero => intro k r q _ h1 h2; omega
  | succ d ih =>
    intro k r q h hr hd hk
    obtain ⟨k, rfl⟩ : ∃ m, k = m + 2 := ⟨k - 2, by omega⟩
    have hD := h.digit
    have hge := h.ge
    have hY1 := h.y1; have hY1' := h.y1'; have hY0 := h.y0; have hY0' := h.y0'; have hu0 := h.u0; have hu1 := h.u1; have hn0 := h.n0; have hn1 := h.n1; have hQ1 := h.q1; have hr0 := h.r0
    have hmod := Int.mul_ediv_add_emod (un21 * 4294967296 + un0) y
    have hm0 := Int.emod_nonneg (un21 * 4294967296 + un0) (show y ≠ 0 by omega)
    have hm1 := Int.emod_lt_of_pos (un21 * 4294967296 + un0) (show 0 < y by omega)
    -- the end, once the digit is known
    have fin : ∀ g : Int, g = (un21 * 4294967296 + un0) / y → (IntKind.u64.wrap ((IntKind.u64.wrap (q1 * 4294967296)) + g), shr .u64 (IntKind.u64.wrap ((IntKind.u64.wrap ((IntKind.u64.wrap (un21 * 4294967296)) + un0)) - (IntKind.u64.wrap (g * y)))) s) = (q1 * 4294967296 + (un21 * 4294967296 + un0) / y, (un21 * 4294967296 + un0) % y / 2 ^ s.toNat) := by
      intro g hg
      rw [← hg, shr64 _ _ hs0 hs]
      rw [← hy] at hD
      rw [← hg] at hD hmod
      rw [Int.mul_comm] at hmod
      have e1 : IntKind.u64.wrap ((IntKind.u64.wrap (q1 * 4294967296)) + g) = q1 * 4294967296 + g := by simp only [u64m]; omega
      have e2 : IntKind.u64.wrap ((IntKind.u64.wrap ((IntKind.u64.wrap (un21 * 4294967296)) + un0)) - (IntKind.u64.wrap (g * y))) = (un21 * 4294967296 + un0) % y := by
        simp only [u64m]
        generalize g * y = P at *
        generalize (un21 * 4294967296 + un0) % y = M at *
        omega
      rw [e1, e2]
    have arm : ∀ b : Bool, (b = true ↔ (q ≥ 4294967296 ∨ q * yn0 > 4294967296 * r + un0)) → bits_Div64.j4 (k + 1) y s yn1 yn0 un0 q1 r un21 q b = some (q1 * 4294967296 + (un21 * 4294967296 + un0) / y, (un21 * 4294967296 + un0) % y / 2 ^ s.toNat) := by
      intro b hb
      simp only [bits_Div64.j4]
      have er : IntKind.u64.wrap (r + yn1) = r + yn1 := by rw [u64m]; omega
      rw [er]
      by_cases hc : q ≥ 4294967296 ∨ q * yn0 > 4294967296 * r + un0
      · have hlt := h.lt hc
        have eq1 : IntKind.u64.wrap (q - 1) = q - 1 := by rw [u64m]; omega
        rw [if_pos (hb.2 hc), if_pos hs0, eq1]
        by_cases hbk : r + yn1 ≥ 4294967296
        · rw [if_pos hbk]
          have := h.break hc hbk
          rw [← hy] at this
          rw [fin (q - 1) this]
        · rw [if_neg hbk]
          exact ih k (r + yn1) (q - 1) (h.step hc) (by omega) (by omega) (by omega)
      · rw [if_neg (fun hx => hc (hb.1 hx)), if_pos hs0]
        have := h.exit (by omega)
        rw [← hy] at this
        rw [fin q this]
    simp only [bits_Div64.l1]
    by_cases h1 : q ≥ 4294967296
    · rw [if_pos h1]
      exact arm true (by simp [h1])
    · rw [if_neg h1]
      refine arm _ ?_
      have hp : 0 ≤ q * yn0 ∧ q * yn0 ≤ 4294967295 * 4294967295 := ⟨Int.mul_nonneg (by omega) (by omega), Int.mul_le_mul (by omega) (by omega) (by omega) (by omega)⟩
      have e1 : IntKind.u64.wrap (q * yn0) = q * yn0 := by rw [u64m]; omega
      have e2 : IntKind.u64.wrap ((IntKind.u64.wrap (4294967296 * r)) + un0) = 4294967296 * r + un0 := by simp only [u64m]; omega
      rw [e1, e2]
      simp [h1]
open Kn in
theorem Div64_j2 (y s yn1 yn0 q1 un0 un1 un32 : Int) (hy : y = yn1 * 4294967296 + yn0) (hs0 : 0 ≤ s) (hs : s ≤ 64) (y1 : 2147483648 ≤ yn1) (y1' : yn1 < 4294967296) (y0 : 0 ≤ yn0) (y0' : yn0 < 4294967296) (u0 : 0 ≤ un32) (u1 : un32 < y)
    (n0 : 0 ≤ un1) (n1 : un1 < 4294967296) (m0 : 0 ≤ un0) (m1 : un0 < 4294967296) (hq : q1 = (un32 * 4294967296 + un1) / y) (k : Nat) (hk : 8 ≤ k) :
    bits_Div64.j2 k y s yn1 yn0 un32 un1 un0 q1 = some ((un32 * 18446744073709551616 + (un1 * 4294967296 + un0)) / y, (un32 * 18446744073709551616 + (un1 * 4294967296 + un0)) % y / 2 ^ s.toNat) := by
  obtain ⟨k, rfl⟩ : ∃ m, k = m + 1 := ⟨k - 1, by omega⟩
  have hD : 0 ≤ q1 ∧ q1 < 4294967296 := by
    rw [hq]
    exact ⟨Int.ediv_nonneg (by omega) (by omega), Int.ediv_lt_of_lt_mul (by omega) (by omega)⟩
  have hmod := Int.mul_ediv_add_emod (un32 * 4294967296 + un1) y
  have hm0 := Int.emod_nonneg (un32 * 4294967296 + un1) (show y ≠ 0 by omega)
  have hm1 := Int.emod_lt_of_pos (un32 * 4294967296 + un1) (show 0 < y by omega)
  obtain ⟨t1, t2⟩ := two (y := y) (u := un32) (un1 := un1) (un0 := un0) (by omega)
  rw [← hq] at hmod t1
  have e2 : IntKind.u64.wrap ((IntKind.u64.wrap ((IntKind.u64.wrap (un32 * 4294967296)) + un1)) - (IntKind.u64.wrap (q1 * y))) = (un32 * 4294967296 + un1) % y := by
    rw [Int.mul_comm] at hmod
    simp only [u64m]
    generalize q1 * y = P at *
    generalize (un32 * 4294967296 + un1) % y = M at *
    omega
  simp only [bits_Div64.j2, e2]
  rw [if_neg (by omega), t1, t2]
  generalize (un32 * 4294967296 + un1) % y = u at *
  have hst := St.start y1 y1' y0 y0' hm0 (hy ▸ hm1) m0 m1
  have et : Int.tdiv u yn1 = u / yn1 := Int.tdiv_eq_ediv_of_nonneg hm0
  have hdm := Int.mul_ediv_add_emod u yn1
  have hd0 : 0 ≤ u / yn1 := Int.ediv_nonneg hm0 (by omega)
  have hd1 := hst.q1
  have hr0 := Int.emod_nonneg u (show yn1 ≠ 0 by omega)
  have hr1 := Int.emod_lt_of_pos u (show 0 < yn1 by omega)
  have eq1 : IntKind.u64.wrap (Int.tdiv u yn1) = u / yn1 := by rw [et, u64m]; omega
  have er : IntKind.u64.wrap (u - IntKind.u64.wrap (IntKind.u64.wrap (Int.tdiv u yn1) * yn1)) = u % yn1 := by
    rw [eq1]
    rw [Int.mul_comm] at hdm
    simp only [u64m]
    generalize u / yn1 * yn1 = P at *
    generalize u % yn1 = M at *
    omega
  rw [er, eq1]
  exact Div64_l1 y s yn1 yn0 q1 un0 u hy hs0 hs hD.1 hD.2 3 k _ _ hst (by omega) (by omega) (by omega)
open Kn in
theorem Div64_l0 (y s yn1 yn0 un0 un1 un32 : Int) (hy : y = yn1 * 4294967296 + yn0) (hs0 : 0 ≤ s) (hs : s ≤ 64) (m0 : 0 ≤ un0) (m1 : un0 < 4294967296) : ∀ (d k : Nat) (r q : Int), St yn1 yn0 un32 un1 q r → r < 4294967296 → 4294967296 ≤ r + d * 2147483648 → 2 * d + 8 < k →
    bits_Div64.l0 k y s yn1 yn0 un32 un1 un0 q r = some ((un32 * 18446744073709551616 + (un1 * 4294967296 + un0)) / y, (un32 * 18446744073709551616 + (un1 * 4294967296 + un0)) % y / 2 ^ s.toNat) := by
  intro d
  induction d with
  | zero => intro k r q _ h1 h2; omega
  | succ d ih =>
    intro k r q h hr hd hk
    obtain ⟨k, rfl⟩ : ∃ m, k = m + 2 := ⟨k - 2, by omega⟩
    have hD := h.digit
    have hge := h.ge
    have hY1 := h.y1; have hY1' := h.y1'; have hY0 := h.y0; have hY0' := h.y0'; have hu0 := h.u0; have hu1 := h.u1; have hn0 := h.n0; have hn1 := h.n1; have hQ1 := h.q1; have hr0 := h.r0
    have arm : ∀ b : Bool, (b = true ↔ (q ≥ 4294967296 ∨ q * yn0 > 4294967296 * r + un1)) → bits_Div64.j1 (k + 1) y s yn1 yn0 un32 un1 un0 q r b = some ((un32 * 18446744073709551616 + (un1 * 4294967296 + un0)) / y, (un32 * 18446744073709551616 + (un1 * 4294967296 + un0)) % y / 2 ^ s.toNat) := by
      intro b hb
      simp only [bits_Div64.j1]
      have er : IntKind.u64.wrap (r + yn1) = r + yn1 := by rw [u64m]; omega
      rw [er]
      have J : ∀ g, g = (un32 * 4294967296 + un1) / y → bits_Div64.j2 k y s yn1 yn0 un32 un1 un0 g = some ((un32 * 18446744073709551616 + (un1 * 4294967296 + un0)) / y, (un32 * 18446744073709551616 + (un1 * 4294967296 + un0)) % y / 2 ^ s.toNat) :=
        fun g hg => Div64_j2 y s yn1 yn0 g un0 un1 un32 hy hs0 hs hY1 hY1' hY0 hY0' hu0 (hy ▸ hu1) hn0 hn1 m0 m1 hg k (by omega)
      by_cases hc : q ≥ 4294967296 ∨ q * yn0 > 4294967296 * r + un1
      · have hlt := h.lt hc
        have eq1 : IntKind.u64.wrap (q - 1) = q - 1 := by rw [u64m]; omega
        rw [if_pos (hb.2 hc), eq1]
        by_cases hbk : r + yn1 ≥ 4294967296
        · rw [if_pos hbk]
          have := h.break hc hbk
          rw [← hy] at this
          exact J _ this
        · rw [if_neg hbk]
          exact ih k (r + yn1) (q - 1) (h.step hc) (by omega) (by omega) (by omega)
      · rw [if_neg (fun hx => hc (hb.1 hx))]
        have := h.exit (by omega)
        rw [← hy] at this
        exact J _ this
    simp only [bits_Div64.l0]
    by_cases h1 : q ≥ 4294967296
    · rw [if_pos h1]
      exact arm true (by simp [h1])
    · rw [if_neg h1]
      refine arm _ ?_
      have hp : 0 ≤ q * yn0 ∧ q * yn0 ≤ 4294967295 * 4294967295 := ⟨Int.mul_nonneg (by omega) (by omega), Int.mul_le_mul (by omega) (by omega) (by omega) (by omega)⟩
      have e1 : IntKind.u64.wrap (q * yn0) = q * yn0 := by rw [u64m]; omega
      have e2 : IntKind.u64.wrap ((IntKind.u64.wrap (4294967296 * r)) + un1) = 4294967296 * r + un1 := by simp only [u64m]; omega
      rw [e1, e2]
      simp [h1]
end Go.Proofs.Ytcicjbgfahdejaa.P
