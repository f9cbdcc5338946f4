/- This session's own: an argument that is a lot, shut again. -/
import Derived.Test.YtcicjbgfahdejaaOP
import Derived.Lib.SmallJoins
namespace Go.Proofs.Ytcicjbgfahdejaa.P
open Go.ChangeShapes Go.WideShapes Go.Deep Go.RowKit
set_option linter.unusedSimpArgs false
set_option linter.unusedVariables false
theorem shut_int1 {H : Type} {enc : TypeId × Value → H} {w : World} {base : Nat} {sp : Nat → Bool} {held : Bool} {a : Int} (h : (Lit.int .i64 a).wf = true) : ∃ n, DataW.trod enc Try.prog w base sp held n 3 [.int .i64 a] = some (.lit (.int .i64 a), []) := by
  obtain ⟨m, hm⟩ := shut_int (enc := enc) (w := w) (base := base) (spare := sp) (held := held) Try.underlying3 h
  exact ⟨m, by simpa [Value.cells] using hm⟩
theorem shut_lot {H : Type} {enc : TypeId × Value → H} {w : World} {base : Nat} {sp : Nat → Bool} {held : Bool} {a b c : Int} (ha : (Lit.int .i64 a).wf = true) (hb : (Lit.int .i64 b).wf = true) (hc : (Lit.int .i64 c).wf = true) :
    DataW.Trod enc Try.prog w base sp held 39 (.agg #[.int .i64 a, .int .i64 b, .int .i64 c]) (.agg [.lit (.int .i64 a), .lit (.int .i64 b), .lit (.int .i64 c)]) ([] ++ ([] ++ [])) :=
  Go.Joins.shut_agg3 (y0 := (.lit (.int .i64 a), [])) (y1 := (.lit (.int .i64 b), [])) (y2 := (.lit (.int .i64 c), [])) Try.underlying39 (by kernel_rfl) cells39 (shut_int1 ha) (shut_int1 hb) (shut_int1 hc)
end Go.Proofs.Ytcicjbgfahdejaa.P
