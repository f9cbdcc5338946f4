/- This session's own: bits.Div64 and share.divide, whole. -/
import Derived.Test.YtcicjbgfahdejaaQD1
namespace Go.Proofs.Ytcicjbgfahdejaa.P
open Go Go.RowKit Go.Proofs.YtcicjbgfahdejaaW.PrintWords Go.Proofs.YtcicjbgfahdejaaW.PrintLast Go.Proofs.YtcicjbgfahdejaaW.PrintMore
set_option linter.unusedSimpArgs false
set_option linter.unusedVariables false
theorem bitLenAux_range : ∀ (f x : Nat), x < 2 ^ f → 0 < x → ∃ L, Lib.bitLenAux f x = L + 1 ∧ L < f ∧ 2 ^ L ≤ x ∧ x < 2 ^ (L + 1)
  | 0, x, h, h0 => by simp at h; omega
  | f + 1, x, h, h0 => by
    rw [Lib.bitLenAux, if_neg (by omega)]
    by_cases h2 : x / 2 = 0
    · refine ⟨0, ?_, by omega, by simp; omega, by simp; omega⟩
      rw [h2]
      cases f <;> simp [Lib.bitLenAux]
    · obtain ⟨L, e, hL, a, b⟩ := bitLenAux_range f (x / 2) (by rw [Nat.pow_succ] at h; omega) (by omega)
      refine ⟨L + 1, by rw [e]; omega, by omega, ?_, ?_⟩
      · rw [Nat.pow_succ]; omega
      · rw [Nat.pow_succ]; omega
open Kn in
theorem Div64_eq (hi lo y : Int) (h0 : 0 ≤ hi) (h1 : hi < y) (hy : y ≤ 18446744073709551615) (l0 : 0 ≤ lo) (l1 : lo ≤ 18446744073709551615) (k : Nat) (hk : 20 ≤ k) :
    bits_Div64.f k hi lo y = some ((hi * 18446744073709551616 + lo) / y, (hi * 18446744073709551616 + lo) % y) := by
  unfold bits_Div64.f
  rw [if_neg (by omega), if_neg (by omega)]
  by_cases hz : hi = 0
  · rw [if_pos hz]
    subst hz
    rw [Int.zero_mul, Int.zero_add, Int.tdiv_eq_ediv_of_nonneg l0, Int.tmod_eq_emod_of_nonneg l0, u64m]
    have a1 := Int.ediv_nonneg l0 (show 0 ≤ y by omega)
    have a2 : lo / y ≤ lo := Int.ediv_le_self _ l0
    rw [Int.emod_eq_of_lt a1 (by omega)]
  · rw [if_neg hz]
    obtain ⟨L, e, hL, p1, p2⟩ := bitLenAux_range 64 y.toNat (by omega) (by omega)
    have es : bits_LeadingZeros64.f y = some ((63 - L : Nat) : Int) := by
      unfold bits_LeadingZeros64.f Lib.bitLen
      rw [if_pos ⟨by omega, by omega⟩, e]
      congr 1
      omega
    rw [es, Option.bind_some]
    generalize hs : 63 - L = s
    have hs' : s ≤ 63 := by omega
    have ew : IntKind.u64.wrap (s : Int) = (s : Int) := by rw [u64m]; omega
    have ew2 : IntKind.u64.wrap (64 - (s : Int)) = ((64 - s : Nat) : Int) := by rw [u64m]; omega
    rw [ew, ew2, if_pos (by omega), if_pos (by omega)]
    -- the powers
    have hP : (2 : Int) ^ s * 2 ^ (64 - s) = 18446744073709551616 := by
      rw [← Int.pow_add, show s + (64 - s) = 64 by omega]; rfl
    have hp0 : (0 : Int) < 2 ^ s := Int.pow_pos (by omega)
    have hq0 : (0 : Int) < 2 ^ (64 - s) := Int.pow_pos (by omega)
    have b1 : 9223372036854775808 ≤ y * 2 ^ s := by
      have : (2 : Int) ^ L ≤ y := by
        have := p1
        have h2 : ((2 ^ L : Nat) : Int) ≤ (y.toNat : Int) := by exact_mod_cast this
        rw [Int.toNat_of_nonneg (by omega)] at h2
        simpa using h2
      have e2 : (2 : Int) ^ L * 2 ^ s = 9223372036854775808 := by
        rw [← Int.pow_add, show L + s = 63 by omega]; rfl
      rw [← e2]
      exact Int.mul_le_mul_of_nonneg_right this (by omega)
    have b2 : y * 2 ^ s ≤ 18446744073709551616 - 1 := by
      have : y < (2 : Int) ^ (L + 1) := by
        have h2 : (y.toNat : Int) < ((2 ^ (L + 1) : Nat) : Int) := by exact_mod_cast p2
        rw [Int.toNat_of_nonneg (by omega)] at h2
        simpa using h2
      have e2 : (2 : Int) ^ (L + 1) * 2 ^ s = 18446744073709551616 := by
        rw [← Int.pow_add, show L + 1 + s = 64 by omega]; rfl
      have : y * 2 ^ s < (2 : Int) ^ (L + 1) * 2 ^ s := Int.mul_lt_mul_of_pos_right this hp0
      omega
    have c1 : shl .u64 y (s : Int) = y * 2 ^ s := by
      rw [shl64 _ _ (by omega) (by omega), Int.toNat_natCast, Int.emod_eq_of_lt (by omega) (by omega)]
    have hlt : (hi + 1) * 2 ^ s ≤ y * 2 ^ s := Int.mul_le_mul_of_nonneg_right (by omega) (by omega)
    rw [Int.add_mul, Int.one_mul] at hlt
    have hh : 0 ≤ hi * 2 ^ s := Int.mul_nonneg h0 (by omega)
    have c2 : shl .u64 hi (s : Int) = hi * 2 ^ s := by
      rw [shl64 _ _ (by omega) (by omega), Int.toNat_natCast, Int.emod_eq_of_lt (by omega) (by omega)]
    have c3 : shr .u64 lo ((64 - s : Nat) : Int) = lo / 2 ^ (64 - s) := by
      rw [shr64 _ _ (by omega) (by omega), Int.toNat_natCast]
    have d0 : 0 ≤ lo / 2 ^ (64 - s) := Int.ediv_nonneg l0 (by omega)
    have d1 : lo / 2 ^ (64 - s) < 2 ^ s := by
      refine Int.ediv_lt_of_lt_mul hq0 ?_
      rw [hP]; omega
    have c4 : Go.bits .or .u64 (hi * 2 ^ s) (lo / 2 ^ (64 - s)) = hi * 2 ^ s + lo / 2 ^ (64 - s) := by
      refine bits_join .u64 64 (by decide) (fun n h0 h1 => by rw [u64m]; omega) s _ _ hh ?_ (by omega) d0 d1 (by omega)
      exact Int.mul_emod_left ..
    have c5 : shl .u64 lo (s : Int) = lo * 2 ^ s % 18446744073709551616 := by
      rw [shl64 _ _ (by omega) (by omega), Int.toNat_natCast]
    -- the whole, scaled
    have hdm := Int.mul_ediv_add_emod lo (2 ^ (64 - s))
    have hm0 := Int.emod_nonneg lo (show (2 : Int) ^ (64 - s) ≠ 0 by omega)
    have hm1 := Int.emod_lt_of_pos lo hq0
    have e5 : lo * 2 ^ s % 18446744073709551616 = lo * 2 ^ s - lo / 2 ^ (64 - s) * 18446744073709551616 := by
      have f1 : lo * 2 ^ s = (lo % 2 ^ (64 - s)) * 2 ^ s + lo / 2 ^ (64 - s) * 18446744073709551616 := by
        conv => lhs; rw [← hdm]
        rw [Int.add_mul, ← hP]
        generalize (2 : Int) ^ (64 - s) = Q
        generalize (2 : Int) ^ s = R
        grind
      have f2 : 0 ≤ (lo % 2 ^ (64 - s)) * 2 ^ s := Int.mul_nonneg hm0 (by omega)
      have f3 : (lo % 2 ^ (64 - s)) * 2 ^ s < 2 ^ (64 - s) * 2 ^ s := Int.mul_lt_mul_of_pos_right hm1 hp0
      rw [Int.mul_comm (2 ^ (64 - s)), hP] at f3
      omega
    have e6 : (hi * 2 ^ s + lo / 2 ^ (64 - s)) * 18446744073709551616 + lo * 2 ^ s % 18446744073709551616 = (hi * 18446744073709551616 + lo) * 2 ^ s := by
      rw [e5]
      generalize lo / 2 ^ (64 - s) = D
      generalize (2 : Int) ^ s = R
      grind
    have o0 : 0 ≤ lo * 2 ^ s % 18446744073709551616 := by omega
    have o1 : lo * 2 ^ s % 18446744073709551616 < 18446744073709551616 := by omega
    obtain ⟨S1, S2⟩ := scaled (hi * 18446744073709551616 + lo) y (2 ^ s) hp0
    simp only [c1, c2, c3, c4, c5]
    rw [and32 _ (by omega) (by omega), and32 _ (by omega) (by omega)]
    generalize hy' : y * 2 ^ s = y' at *
    generalize hu : hi * 2 ^ s + lo / 2 ^ (64 - s) = u at *
    generalize hv : lo * 2 ^ s % 18446744073709551616 = v at *
    have u0 : 0 ≤ u := by omega
    have u1 : u < y' := by omega
    rw [if_neg (by omega)]
    have hst := St.start (yn1 := y' / 4294967296) (yn0 := y' % 4294967296) (u := u) (un := v / 4294967296) (by omega) (by omega) (by omega) (by omega) u0 (by omega) (by omega) (by omega)
    have et : Int.tdiv u (y' / 4294967296) = u / (y' / 4294967296) := Int.tdiv_eq_ediv_of_nonneg u0
    have hdm2 := Int.mul_ediv_add_emod u (y' / 4294967296)
    have hd0 : 0 ≤ u / (y' / 4294967296) := Int.ediv_nonneg u0 (by omega)
    have hd1 := hst.q1
    have hr0 := Int.emod_nonneg u (show y' / 4294967296 ≠ 0 by omega)
    have hr1 := Int.emod_lt_of_pos u (show 0 < y' / 4294967296 by omega)
    have eq1 : IntKind.u64.wrap (Int.tdiv u (y' / 4294967296)) = u / (y' / 4294967296) := by rw [et, u64m]; omega
    have er : IntKind.u64.wrap (u - IntKind.u64.wrap (IntKind.u64.wrap (Int.tdiv u (y' / 4294967296)) * (y' / 4294967296))) = u % (y' / 4294967296) := by
      rw [eq1]
      rw [Int.mul_comm] at hdm2
      simp only [u64m]
      generalize u / (y' / 4294967296) * (y' / 4294967296) = P at *
      generalize u % (y' / 4294967296) = M at *
      omega
    rw [er, eq1]
    have := Div64_l0 y' (s : Int) (y' / 4294967296) (y' % 4294967296) (v % 4294967296) (v / 4294967296) u (by omega) (by omega) (by omega) (by omega) (by omega) 3 k _ _ hst (by omega) (by omega) (by omega)
    rw [this, show v / 4294967296 * 4294967296 + v % 4294967296 = v by omega, e6, S1, S2, Int.toNat_natCast, Int.mul_ediv_cancel _ (by omega)]
/-- a * b / d, where the quotient is an amount. -/
theorem divide_eq (a b d : Int) (ha : 0 ≤ a) (ha1 : a ≤ 1152921504606846976) (hb : 0 ≤ b) (hb1 : b ≤ 1152921504606846976) (hd : 0 < d) (hd1 : d ≤ 4611686018427387904) (hlt : a * b / 18446744073709551616 < d) (hq : a * b / d ≤ 9223372036854775807) (k : Nat) (hk : 20 ≤ k) :
    share_divide.f k a b d = some (a * b / d, a * b % d, decide (a * b / d ≤ 1099511627776)) := by
  unfold share_divide.f
  have e1 : IntKind.u64.wrap a = a := by rw [u64m]; omega
  have e2 : IntKind.u64.wrap b = b := by rw [u64m]; omega
  have e3 : IntKind.u64.wrap d = d := by rw [u64m]; omega
  have hab : 0 ≤ a * b := Int.mul_nonneg ha hb
  rw [e1, e2, e3, mul64_eq a b ha (by omega) hb (by omega), Option.bind_some, if_neg (by simpa using hlt)]
  have hn0 : 0 ≤ a * b / 18446744073709551616 := by omega
  rw [Div64_eq _ _ d hn0 hlt (by omega) (by omega) (by omega) k hk, Option.bind_some]
  rw [show a * b / 18446744073709551616 * 18446744073709551616 + a * b % 18446744073709551616 = a * b by omega]
  have g0 := Int.ediv_nonneg hab (show 0 ≤ d by omega)
  have g1 := Int.emod_nonneg (a * b) (show d ≠ 0 by omega)
  have g2 := Int.emod_lt_of_pos (a * b) hd
  simp only
  rw [show wrap64 (a * b / d) = a * b / d by unfold wrap64; omega, show wrap64 (a * b % d) = a * b % d by unfold wrap64; omega]
end Go.Proofs.Ytcicjbgfahdejaa.P
