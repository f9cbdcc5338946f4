/- This session's own: bits.LeadingZeros64, off the library's contract. -/
import Derived.Test.YtcicjbgfahdejaaEL
import Derived.Test.YtcicjbgfahdejaaPx0
namespace Go.Proofs.Ytcicjbgfahdejaa.P
open Go.RowKit Go.Proofs.YtcicjbgfahdejaaW.PrintWords Go.Proofs.YtcicjbgfahdejaaW.PrintLast Go.Proofs.YtcicjbgfahdejaaW.PrintMore
set_option linter.unusedSimpArgs false
set_option linter.unusedVariables false
def bits_LeadingZeros64.f (x : Int) : Option Int := if 0 ≤ x ∧ x ≤ 18446744073709551615 then some (64 - (Lib.bitLen x.toNat : Int)) else none
theorem bits_LeadingZeros64.calls (a0 : Int) (r : Int) (w : World) (h : bits_LeadingZeros64.f a0 = some r) :
    Calls Try.prog 99 #[.int .u64 a0] w fun e w' => e = .returned (.int .i64 r) ∧ Drawn0 w w' := by
  unfold bits_LeadingZeros64.f at h
  by_cases hl : 0 ≤ a0 ∧ a0 ≤ 18446744073709551615
  · rw [if_pos hl] at h
    obtain rfl := Option.some.inj h
    refine (Any.bits_LeadingZeros64 Try.leadZ a0 w hl.1 hl.2).mono ?_
    rintro e w' ⟨rfl, rfl⟩
    exact ⟨rfl, Drawn0.refl _⟩
  · rw [if_neg hl] at h
    exact absurd h (by simp)
end Go.Proofs.Ytcicjbgfahdejaa.P
