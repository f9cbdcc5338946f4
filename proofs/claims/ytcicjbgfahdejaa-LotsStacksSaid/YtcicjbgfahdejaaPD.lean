-- Written by a program of this session (wip/tools), out of the translation. Not trusted: Lean checks it.
import Derived.Test.YtcicjbgfahdejaaPx2
import Derived.Test.YtcicjbgfahdejaaEC
import Derived.Test.YtcicjbgfahdejaaEG
import Derived.Test.YtcicjbgfahdejaaEN
import Derived.Test.YtcicjbgfahdejaaER
import Derived.Test.YtcicjbgfahdejaaET
import Derived.Test.YtcicjbgfahdejaaEV
namespace Go.Proofs.Ytcicjbgfahdejaa.P
open Go.RowKit Go.Proofs.YtcicjbgfahdejaaW.PrintWords Go.Proofs.YtcicjbgfahdejaaW.PrintLast Go.Proofs.YtcicjbgfahdejaaW.PrintMore
attribute [local go_sem] max2_int min2_int max_two min_two max_three min_three max_four min_four   -- for this text's walks alone
set_option linter.unusedVariables false
set_option linter.unusedSimpArgs false

/-! ### worldmintlaw14_few -/
def worldmintlaw14_few.f (l0 : List (S39)) : Option ((List (S39))) := (some (([] : List (S39)) : List (S39))).bind fun y101 => (if 0 ≤ (mn (l0.length : Int) 5) then (if (mn (l0.length : Int) 5) ≤ (l0.length : Int) then ((some (l0.take ((mn (l0.length : Int) 5) : Int).toNat : List (S39))).bind fun y104 => (if y101.length + y104.length < 5864062014805 then (some (y101 ++ y104)) else (none))) else (none)) else (none))
/-! ### worldmintref03_Around -/
def worldmintref03_Around.f (a0 : Int) (a1 : Int) : Option (Int) := if a1 = 0 then (none) else (if (Int.tmod a0 a1) < 0 then (some (wrap64 ((Int.tmod a0 a1) + a1))) else (some (Int.tmod a0 a1)))
/-! ### worldmintref13_Pick -/
def worldmintref13_Pick.j0 : Nat → List Int → Int → Int → Bool → Option (Int)
 | 0, _, _, _, _ => none
 | k + 1, x0, x1, x2, x18 => if x18 = true then (some 0) else (if 0 ≤ x1 then (if x1 < (x0.length : Int) then ((worldmintref03_Around.f (rd x0 x1) x2).bind fun t112 => (some t112)) else (none)) else (none))
def worldmintref13_Pick.f (k : Nat) (l0 : List Int) (a1 : Int) (a2 : Int) : Option (Int) := if a1 < 0 then (worldmintref13_Pick.j0 k l0 a1 a2 true) else (if a1 ≥ (l0.length : Int) then (worldmintref13_Pick.j0 k l0 a1 a2 true) else (worldmintref13_Pick.j0 k l0 a1 a2 (decide (a2 < 1))))
/-! ### worldmintref14_Lots -/
mutual
def worldmintref14_Lots.l0 : Nat → List Int → Int → List (S39) → Int → Option ((List (S39)))
 | 0, _, _, _, _ => none
 | k + 1, x0, x1, x5, x6 => (worldmintref13_Pick.f k x0 x1 8).bind fun t113 => (if x6 < t113 then ((worldmintref13_Pick.f k x0 (wrap64 ((wrap64 (x1 + (wrap64 (3 * x6)))) + 1)) 4).bind fun t114 => ((worldmintref13_Pick.f k x0 (wrap64 ((wrap64 (x1 + (wrap64 (3 * x6)))) + 2)) 12).bind fun t115 => ((worldmintref13_Pick.f k x0 (wrap64 ((wrap64 (x1 + (wrap64 (3 * x6)))) + 3)) 5).bind fun t116 => ((worldmintref13_Pick.f k x0 (wrap64 ((wrap64 (x1 + (wrap64 (3 * x6)))) + 3)) 29).bind fun t118 => (if t118 = 0 then (worldmintref14_Lots.j1 k x0 x1 x5 x6 t114 t115 549755813888) else (worldmintref14_Lots.j1 k x0 x1 x5 x6 t114 t115 (wrap64 (1 + t116)))))))) else (some x5))
def worldmintref14_Lots.j1 : Nat → List Int → Int → List (S39) → Int → Int → Int → Int → Option ((List (S39)))
 | 0, _, _, _, _, _, _, _ => none
 | k + 1, x0, x1, x5, x6, x118000, x118001, x118002 => if (x5.length : Int) > 0 then ((worldmintref13_Pick.f k x0 (wrap64 ((wrap64 (x1 + (wrap64 (3 * x6)))) + 2)) 5).bind fun t119 => (if t119 = 0 then (if 0 ≤ (wrap64 ((x5.length : Int) - 1)) then (if (wrap64 ((x5.length : Int) - 1)) < (x5.length : Int) then (if x5.length < 5864062014805 then (worldmintref14_Lots.l0 k x0 x1 (x5 ++ [(⟨(rd_T39 x5 (wrap64 ((x5.length : Int) - 1))).f0, mn (wrap64 (((rd_T39 x5 (wrap64 ((x5.length : Int) - 1))).f1) + ((rd_T39 x5 (wrap64 ((x5.length : Int) - 1))).f2))) 549755813888, x118002⟩ : S39)]) (wrap64 (x6 + 1))) else (none)) else (none)) else (none)) else (if x5.length < 5864062014805 then (worldmintref14_Lots.l0 k x0 x1 (x5 ++ [(⟨x118000, x118001, x118002⟩ : S39)]) (wrap64 (x6 + 1))) else (none)))) else (if x5.length < 5864062014805 then (worldmintref14_Lots.l0 k x0 x1 (x5 ++ [(⟨x118000, x118001, x118002⟩ : S39)]) (wrap64 (x6 + 1))) else (none))
end
def worldmintref14_Lots.f (k : Nat) (l0 : List Int) (a1 : Int) : Option ((List (S39))) := worldmintref14_Lots.l0 k l0 a1 ([] : List (S39)) 0
/-! ### worldmintref14_possible -/
def worldmintref14_possible.f (a0_0 : Int) (a0_1 : Int) (a0_2 : Int) : Option (Bool) := if a0_0 ≥ 0 then (if a0_1 ≥ 0 then (if a0_2 ≥ 1 then (if a0_2 ≤ 1099511627776 then (some (decide (a0_1 ≤ (wrap64 (1099511627776 - a0_2))))) else (some false)) else (some false)) else (some false)) else (some false)
/-! ### worldmintref14_Valid -/
def worldmintref14_Valid.l0 : Nat → List (S39) → Int → Option (Bool)
 | 0, _, _ => none
 | k + 1, x0, x3 => if x3 < (x0.length : Int) then (if 0 ≤ x3 then ((worldmintref14_possible.f ((rd_T39 x0 x3).f0) ((rd_T39 x0 x3).f1) ((rd_T39 x0 x3).f2)).bind fun t134 => (if t134 = true then (worldmintref14_Valid.l0 k x0 (wrap64 (x3 + 1))) else (some false))) else (none)) else (some (decide ((x0.length : Int) ≤ 4096)))
def worldmintref14_Valid.f (k : Nat) (l0 : List (S39)) : Option (Bool) := worldmintref14_Valid.l0 k l0 0
/-! ### worldmintref14_Total -/
def worldmintref14_Total.l0 : Nat → List (S39) → Int → Bool → Int → Option (Int)
 | 0, _, _, _, _ => none
 | k + 1, x0, x3, x4, x5 => if x5 < (x0.length : Int) then (if x4 = true then (if 0 ≤ x5 then (worldmintref14_Total.l0 k x0 (wrap64 (x3 + ((rd_T39 x0 x5).f2))) x4 (wrap64 (x5 + 1))) else (none)) else (some x3)) else (some x3)
def worldmintref14_Total.f (k : Nat) (l0 : List (S39)) : Option (Int) := (worldmintref14_Valid.f k l0).bind fun t135 => (worldmintref14_Total.l0 k l0 0 t135 0)
/-! ### lots_Total -/
def lots_Total.l0 : Nat → List (S39) → Int → List (S39) → Int → Int → Option (Int)
 | 0, _, _, _, _, _ => none
 | k + 1, x0, x3, x6, x7, x8 => if x8 < x7 then (if 0 ≤ x8 then (if x8 < (x6.length : Int) then (lots_Total.l0 k x0 (wrap64 (x3 + ((rd_T39 x6 x8).f2))) x6 x7 (wrap64 (x8 + 1))) else (none)) else (none)) else ((lots_Valid.f x0).bind fun t139 => (if t139 = true then (some x3) else (some 0)))
def lots_Total.f (k : Nat) (l0 : List (S39)) : Option (Int) := lots_Total.l0 k l0 0 l0 (l0.length : Int) 0
/-! ### lots_cut -/
def lots_cut.f (a0_0 : Int) (a0_1 : Int) (a0_2 : Int) (a1 : Int) : Option (Int × Int × Int × Int × Int × Int) := some (a0_0, a0_1, a1, a0_0, wrap64 (a0_1 + a1), wrap64 (a0_2 - a1))
/-! ### lots_some -/
def lots_some.f (l0 : List (S39)) (a1_0 : Int) (a1_1 : Int) (a1_2 : Int) : Option ((List (S39))) := if a1_2 = 0 then (some l0) else ((lots_join.f l0 a1_0 a1_1 a1_2).bind fun t162 => (some t162))
/-! ### lots_Take -/
mutual
def lots_Take.j0 : Nat → List (S39) → Int → Bool → Bool → Option ((List (S39)) × (List (S39)) × Int)
 | 0, _, _, _, _ => none
 | k + 1, x0, x1, x2, x25 => if x25 = true then (some (([] : List (S39)), ([] : List (S39)), 1)) else ((lots_Total.f k x0).bind fun t166 => (if t166 < x1 then (some (([] : List (S39)), ([] : List (S39)), 10)) else ((lots_counts.f k x0 x1 x2).bind fun t167 => (lots_Take.l0 k x0 ([] : List (S39)) ([] : List (S39)) t167 (t167.length : Int) 0))))
def lots_Take.l0 : Nat → List (S39) → List (S39) → List (S39) → List Int → Int → Int → Option ((List (S39)) × (List (S39)) × Int)
 | 0, _, _, _, _, _, _ => none
 | k + 1, x0, x9, x10, x33, x34, x35 => if x35 < x34 then (if 0 ≤ x35 then (if x35 < (x33.length : Int) then (if x35 < (x0.length : Int) then ((lots_cut.f ((rd_T39 x0 x35).f0) ((rd_T39 x0 x35).f1) ((rd_T39 x0 x35).f2) (rd x33 x35)).bind fun bt172 => ((lots_some.f x9 bt172.1 bt172.2.1 bt172.2.2.1).bind fun t180 => ((lots_some.f x10 bt172.2.2.2.1 bt172.2.2.2.2.1 bt172.2.2.2.2.2).bind fun t183 => (lots_Take.l0 k x0 t180 t183 x33 x34 (wrap64 (x35 + 1)))))) else (none)) else (none)) else (none)) else (some (x9, x10, 0))
end
def lots_Take.f (k : Nat) (l0 : List (S39)) (a1 : Int) (a2 : Bool) : Option ((List (S39)) × (List (S39)) × Int) := (lots_Valid.f l0).bind fun t165 => (if t165 = true then (if a1 < 0 then (lots_Take.j0 k l0 a1 a2 true) else (lots_Take.j0 k l0 a1 a2 (decide (a1 > 1099511627776)))) else (lots_Take.j0 k l0 a1 a2 true))
/-! ### worldmintref03_Amount -/
def worldmintref03_Amount.f (a0 : Int) : Option (Bool) := if a0 ≥ 0 then (some (decide (a0 ≤ 1099511627776))) else (some false)
/-! ### worldmintref03_Divide -/
mutual
def worldmintref03_Divide.l0 : Nat → Int → Int → Int → Int → Int → Int → Option (Int × Int × Bool)
 | 0, _, _, _, _, _, _ => none
 | k + 1, x0, x1, x2, x9, x10, x11 => if x11 > 0 then (if (wrap64 (2 * x10)) ≥ x2 then (worldmintref03_Divide.j1 k x0 x1 x2 (wrap64 ((wrap64 (2 * x9)) + 1)) (wrap64 ((wrap64 (2 * x10)) - x2)) x11) else (worldmintref03_Divide.j1 k x0 x1 x2 (wrap64 (2 * x9)) (wrap64 (2 * x10)) x11)) else (some (x9, x10, true))
def worldmintref03_Divide.j1 : Nat → Int → Int → Int → Int → Int → Int → Option (Int × Int × Bool)
 | 0, _, _, _, _, _, _ => none
 | k + 1, x0, x1, x2, x9, x10, x11 => if x0 ≥ x11 then (if x2 = 0 then (none) else (if (wrap64 (x10 + (Int.tmod x1 x2))) ≥ x2 then (worldmintref03_Divide.j2 k (wrap64 (x0 - x11)) x1 x2 (wrap64 ((wrap64 (x9 + (wrap64 (Int.tdiv x1 x2)))) + 1)) (wrap64 ((wrap64 (x10 + (Int.tmod x1 x2))) - x2)) x11) else (worldmintref03_Divide.j2 k (wrap64 (x0 - x11)) x1 x2 (wrap64 (x9 + (wrap64 (Int.tdiv x1 x2)))) (wrap64 (x10 + (Int.tmod x1 x2))) x11))) else (worldmintref03_Divide.j2 k x0 x1 x2 x9 x10 x11)
def worldmintref03_Divide.j2 : Nat → Int → Int → Int → Int → Int → Int → Option (Int × Int × Bool)
 | 0, _, _, _, _, _, _ => none
 | k + 1, x0, x1, x2, x9, x10, x11 => if x9 > 1152921504606846976 then (some (0, 0, false)) else (worldmintref03_Divide.l0 k x0 x1 x2 x9 x10 (wrap64 (Int.tdiv x11 2)))
end
def worldmintref03_Divide.f (k : Nat) (a0 : Int) (a1 : Int) (a2 : Int) : Option (Int × Int × Bool) := worldmintref03_Divide.l0 k a0 a1 a2 0 0 1152921504606846976
/-! ### worldmintref03_Split -/
mutual
def worldmintref03_Split.l0 : Nat → Int → List Int → Int → Int → Option (List Int × Int)
 | 0, _, _, _, _ => none
 | k + 1, x0, x1, x6, x7 => if x7 < (x1.length : Int) then (if 0 ≤ x7 then ((worldmintref03_Amount.f (rd x1 x7)).bind fun t187 => (if t187 = true then (if x6 > 1152921504606846976 then (some (([] : List Int), 1)) else (worldmintref03_Split.l0 k x0 x1 (wrap64 (x6 + (rd x1 x7))) (wrap64 (x7 + 1)))) else (some (([] : List Int), 1)))) else (none)) else ((worldmintref03_Amount.f x0).bind fun t189 => (if t189 = true then (if x6 = 0 then (worldmintref03_Split.j1 k x0 x1 x6 true) else (worldmintref03_Split.j1 k x0 x1 x6 (decide (x6 > 1152921504606846976)))) else (worldmintref03_Split.j1 k x0 x1 x6 true)))
def worldmintref03_Split.j1 : Nat → Int → List Int → Int → Bool → Option (List Int × Int)
 | 0, _, _, _, _ => none
 | k + 1, x0, x1, x6, x53 => if x53 = true then (some (([] : List Int), 1)) else (worldmintref03_Split.l1 k x0 x1 x6 ([] : List Int) ([] : List Int) x0 0)
def worldmintref03_Split.l1 : Nat → Int → List Int → Int → List Int → List Int → Int → Int → Option (List Int × Int)
 | 0, _, _, _, _, _, _, _ => none
 | k + 1, x0, x1, x6, x10, x11, x12, x13 => if x13 < (x1.length : Int) then (if 0 ≤ x13 then ((worldmintref03_Divide.f k x0 (rd x1 x13) x6).bind fun bt191 => (if x10.length < 17592186044416 then (if x11.length < 17592186044416 then (worldmintref03_Split.l1 k x0 x1 x6 (x10 ++ [bt191.1]) (x11 ++ [bt191.2.1]) (wrap64 (x12 - bt191.1)) (wrap64 (x13 + 1))) else (none)) else (none))) else (none)) else (worldmintref03_Split.l2 k x10 x11 x12)
def worldmintref03_Split.l2 : Nat → List Int → List Int → Int → Option (List Int × Int)
 | 0, _, _, _ => none
 | k + 1, x10, x11, x12 => if x12 > 0 then (worldmintref03_Split.l3 k x10 x11 x12 0 1) else (some (x10, 0))
def worldmintref03_Split.l3 : Nat → List Int → List Int → Int → Int → Int → Option (List Int × Int)
 | 0, _, _, _, _, _ => none
 | k + 1, x10, x11, x12, x17, x18 => if x18 < (x11.length : Int) then (if 0 ≤ x18 then (if 0 ≤ x17 then (if x17 < (x11.length : Int) then (if (rd x11 x18) > (rd x11 x17) then (worldmintref03_Split.l3 k x10 x11 x12 x18 (wrap64 (x18 + 1))) else (worldmintref03_Split.l3 k x10 x11 x12 x17 (wrap64 (x18 + 1)))) else (none)) else (none)) else (none)) else (if 0 ≤ x17 then (if x17 < (x10.length : Int) then (if x17 < (x11.length : Int) then (worldmintref03_Split.l2 k (x10.set (x17 : Int).toNat (wrap64 ((rd x10 x17) + 1))) (x11.set (x17 : Int).toNat (-1)) (wrap64 (x12 - 1))) else (none)) else (none)) else (none))
end
def worldmintref03_Split.f (k : Nat) (a0 : Int) (l1 : List Int) : Option (List Int × Int) := worldmintref03_Split.l0 k a0 l1 0 0
/-! ### worldmintref14_Counts -/
def worldmintref14_Counts.l0 : Nat → List (S39) → Int → Bool → List Int → List Int → Int → Int → Option (List Int)
 | 0, _, _, _, _, _, _, _ => none
 | k + 1, x0, x1, x2, x7, x8, x9, x10 => if x10 < (x0.length : Int) then (if 0 ≤ x10 then (if x7.length < 17592186044416 then (if x8.length < 17592186044416 then (worldmintref14_Counts.l0 k x0 x1 x2 (x7 ++ [(rd_T39 x0 x10).f2]) (x8 ++ [mn x9 ((rd_T39 x0 x10).f2)]) (wrap64 (x9 - (mn x9 ((rd_T39 x0 x10).f2)))) (wrap64 (x10 + 1))) else (none)) else (none)) else (none)) else (if x2 = true then (if x1 > 0 then ((worldmintref03_Split.f k x1 x7).bind fun bt213 => (some bt213.1)) else (some x8)) else (some x8))
def worldmintref14_Counts.f (k : Nat) (l0 : List (S39)) (a1 : Int) (a2 : Bool) : Option (List Int) := worldmintref14_Counts.l0 k l0 a1 a2 ([] : List Int) ([] : List Int) a1 0
/-! ### worldmintref14_Add -/
def worldmintref14_Add.j0 : Nat → List (S39) → Int → Bool → Int → Int → Int → Option ((List (S39)))
 | 0, _, _, _, _, _, _ => none
 | k + 1, x5, x6, x46, x218000, x218001, x218002 => if x46 = true then (if 0 ≤ (wrap64 (x6 - 1)) then (if (wrap64 (x6 - 1)) < (x5.length : Int) then (some (x5.set ((wrap64 (x6 - 1)) : Int).toNat (⟨(rd_T39 x5 (wrap64 (x6 - 1))).f0, (rd_T39 x5 (wrap64 (x6 - 1))).f1, wrap64 (((rd_T39 x5 (wrap64 (x6 - 1))).f2) + x218002)⟩ : S39))) else (none)) else (none)) else (if x5.length < 5864062014805 then (some (x5 ++ [(⟨x218000, x218001, x218002⟩ : S39)])) else (none))
def worldmintref14_Add.f (k : Nat) (l0 : List (S39)) (a1_0 : Int) (a1_1 : Int) (a1_2 : Int) : Option ((List (S39))) := if ([] : List (S39)).length + l0.length < 5864062014805 then ((some (([] : List (S39)) ++ l0 : List (S39))).bind fun y218 => (if a1_2 = 0 then (some y218) else (if (y218.length : Int) > 0 then (if 0 ≤ (wrap64 ((y218.length : Int) - 1)) then (if (wrap64 ((y218.length : Int) - 1)) < (y218.length : Int) then (if ((rd_T39 y218 (wrap64 ((y218.length : Int) - 1))).f0) = a1_0 then (worldmintref14_Add.j0 k y218 (y218.length : Int) ((wrap64 (((rd_T39 y218 (wrap64 ((y218.length : Int) - 1))).f1) + ((rd_T39 y218 (wrap64 ((y218.length : Int) - 1))).f2))) == a1_1) a1_0 a1_1 a1_2) else (worldmintref14_Add.j0 k y218 (y218.length : Int) false a1_0 a1_1 a1_2)) else (none)) else (none)) else (worldmintref14_Add.j0 k y218 (y218.length : Int) false a1_0 a1_1 a1_2)))) else (none)
/-! ### worldmintref14_Take -/
mutual
def worldmintref14_Take.j0 : Nat → List (S39) → Int → Bool → Bool → Option ((List (S39)) × (List (S39)) × Int)
 | 0, _, _, _, _ => none
 | k + 1, x0, x1, x2, x25 => if x25 = true then (some (([] : List (S39)), ([] : List (S39)), 1)) else ((worldmintref14_Total.f k x0).bind fun t230 => (if t230 < x1 then (some (([] : List (S39)), ([] : List (S39)), 10)) else ((worldmintref14_Counts.f k x0 x1 x2).bind fun t231 => (worldmintref14_Take.l0 k x0 t231 ([] : List (S39)) ([] : List (S39)) 0))))
def worldmintref14_Take.l0 : Nat → List (S39) → List Int → List (S39) → List (S39) → Int → Option ((List (S39)) × (List (S39)) × Int)
 | 0, _, _, _, _, _ => none
 | k + 1, x0, x10, x11, x12, x13 => if x13 < (x0.length : Int) then (if 0 ≤ x13 then (if x13 < (x10.length : Int) then ((worldmintref14_Add.f k x11 ((rd_T39 x0 x13).f0) ((rd_T39 x0 x13).f1) (rd x10 x13)).bind fun t237 => ((worldmintref14_Add.f k x12 ((rd_T39 x0 x13).f0) (wrap64 (((rd_T39 x0 x13).f1) + (rd x10 x13))) (wrap64 (((rd_T39 x0 x13).f2) - (rd x10 x13)))).bind fun t245 => (worldmintref14_Take.l0 k x0 x10 t237 t245 (wrap64 (x13 + 1))))) else (none)) else (none)) else (some (x11, x12, 0))
end
def worldmintref14_Take.f (k : Nat) (l0 : List (S39)) (a1 : Int) (a2 : Bool) : Option ((List (S39)) × (List (S39)) × Int) := (worldmintref14_Valid.f k l0).bind fun t229 => (if t229 = true then (if a1 < 0 then (worldmintref14_Take.j0 k l0 a1 a2 true) else (worldmintref14_Take.j0 k l0 a1 a2 (decide (a1 > 1099511627776)))) else (worldmintref14_Take.j0 k l0 a1 a2 true))
/-! ### worldmintref14_Same -/
def worldmintref14_Same.l0 : Nat → List (S39) → List (S39) → Int → Option (Bool)
 | 0, _, _, _ => none
 | k + 1, x0, x1, x5 => if x5 < (x0.length : Int) then (if 0 ≤ x5 then (if x5 < (x1.length : Int) then (if (!(((rd_T39 x0 x5).f0) == ((rd_T39 x1 x5).f0)) || (!(((rd_T39 x0 x5).f1) == ((rd_T39 x1 x5).f1)) || (!(((rd_T39 x0 x5).f2) == ((rd_T39 x1 x5).f2))))) = true then (some false) else (worldmintref14_Same.l0 k x0 x1 (wrap64 (x5 + 1)))) else (none)) else (none)) else (some true)
def worldmintref14_Same.f (k : Nat) (l0 : List (S39)) (l1 : List (S39)) : Option (Bool) := if (l0.length : Int) = (l1.length : Int) then (worldmintref14_Same.l0 k l0 l1 0) else (some false)
/-! ### lots_Slice -/
mutual
def lots_Slice.j0 : Nat → List (S39) → Int → Int → Bool → Option ((List (S39)) × Int)
 | 0, _, _, _, _ => none
 | k + 1, x0, x1, x2, x27 => if x27 = true then (some (([] : List (S39)), 1)) else ((lots_Total.f k x0).bind fun t251 => (if x1 > t251 then (lots_Slice.j1 k x0 x1 x2 true) else (lots_Slice.j1 k x0 x1 x2 (decide (x2 > (wrap64 (t251 - x1)))))))
def lots_Slice.j1 : Nat → List (S39) → Int → Int → Bool → Option ((List (S39)) × Int)
 | 0, _, _, _, _ => none
 | k + 1, x0, x1, x2, x39 => if x39 = true then (some (([] : List (S39)), 5)) else (lots_Slice.l0 k x1 x2 ([] : List (S39)) x0 (x0.length : Int) 0)
def lots_Slice.l0 : Nat → Int → Int → List (S39) → List (S39) → Int → Int → Option ((List (S39)) × Int)
 | 0, _, _, _, _, _, _ => none
 | k + 1, x1, x2, x9, x40, x41, x42 => if x42 < x41 then (if 0 ≤ x42 then (if x42 < (x40.length : Int) then ((lots_cut.f ((rd_T39 x40 x42).f0) ((rd_T39 x40 x42).f1) ((rd_T39 x40 x42).f2) (mn x1 ((rd_T39 x40 x42).f2))).bind fun bt254 => ((lots_cut.f bt254.2.2.2.1 bt254.2.2.2.2.1 bt254.2.2.2.2.2 (mn x2 bt254.2.2.2.2.2)).bind fun bt262 => ((lots_some.f x9 bt262.1 bt262.2.1 bt262.2.2.1).bind fun t270 => (lots_Slice.l0 k (wrap64 (x1 - (mn x1 ((rd_T39 x40 x42).f2)))) (wrap64 (x2 - bt262.2.2.1)) t270 x40 x41 (wrap64 (x42 + 1)))))) else (none)) else (none)) else (some (x9, 0))
end
def lots_Slice.f (k : Nat) (l0 : List (S39)) (a1 : Int) (a2 : Int) : Option ((List (S39)) × Int) := (lots_Valid.f l0).bind fun t250 => (if t250 = true then (if a1 < 0 then (lots_Slice.j0 k l0 a1 a2 true) else (lots_Slice.j0 k l0 a1 a2 (decide (a2 < 0)))) else (lots_Slice.j0 k l0 a1 a2 true))
/-! ### lots_set -/
mutual
def lots_set.l0 : Nat → List (S39) → List (S39) → Int → Int → Option ((List (S39)))
 | 0, _, _, _, _ => none
 | k + 1, x4, x12, x13, x14 => if x14 < x13 then (if 0 ≤ x14 then (if x14 < (x12.length : Int) then (if (x4.length : Int) > 0 then (if 0 ≤ (wrap64 ((x4.length : Int) - 1)) then (if (wrap64 ((x4.length : Int) - 1)) < (x4.length : Int) then (if ((rd_T39 x4 (wrap64 ((x4.length : Int) - 1))).f0) = ((rd_T39 x12 x14).f0) then ((lots_end.f ((rd_T39 x4 (wrap64 ((x4.length : Int) - 1))).f0) ((rd_T39 x4 (wrap64 ((x4.length : Int) - 1))).f1) ((rd_T39 x4 (wrap64 ((x4.length : Int) - 1))).f2)).bind fun t281 => (lots_set.j1 k x4 (x4.length : Int) x12 x13 x14 (decide (((rd_T39 x12 x14).f1) ≤ t281)) ((rd_T39 x12 x14).f0) ((rd_T39 x12 x14).f1) ((rd_T39 x12 x14).f2))) else (lots_set.j1 k x4 (x4.length : Int) x12 x13 x14 false ((rd_T39 x12 x14).f0) ((rd_T39 x12 x14).f1) ((rd_T39 x12 x14).f2))) else (none)) else (none)) else (lots_set.j1 k x4 (x4.length : Int) x12 x13 x14 false ((rd_T39 x12 x14).f0) ((rd_T39 x12 x14).f1) ((rd_T39 x12 x14).f2))) else (none)) else (none)) else (some x4)
def lots_set.j1 : Nat → List (S39) → Int → List (S39) → Int → Int → Bool → Int → Int → Int → Option ((List (S39)))
 | 0, _, _, _, _, _, _, _, _, _ => none
 | k + 1, x4, x7, x12, x13, x14, x43, x279000, x279001, x279002 => if x43 = true then (if 0 ≤ (wrap64 (x7 - 1)) then (if (wrap64 (x7 - 1)) < (x4.length : Int) then ((lots_end.f ((rd_T39 x4 (wrap64 (x7 - 1))).f0) ((rd_T39 x4 (wrap64 (x7 - 1))).f1) ((rd_T39 x4 (wrap64 (x7 - 1))).f2)).bind fun t283 => ((lots_end.f x279000 x279001 x279002).bind fun t284 => (lots_set.l0 k (x4.set ((wrap64 (x7 - 1)) : Int).toNat (⟨(rd_T39 x4 (wrap64 (x7 - 1))).f0, (rd_T39 x4 (wrap64 (x7 - 1))).f1, wrap64 ((mx t283 t284) - ((rd_T39 x4 (wrap64 (x7 - 1))).f1))⟩ : S39)) x12 x13 (wrap64 (x14 + 1))))) else (none)) else (none)) else (if x4.length < 5864062014805 then (lots_set.l0 k (x4 ++ [(⟨x279000, x279001, x279002⟩ : S39)]) x12 x13 (wrap64 (x14 + 1))) else (none))
end
def lots_set.f (k : Nat) (l0 : List (S39)) : Option ((List (S39))) := (api_Lot_59.f l0).bind fun t273 => ((api_Lot_80.f t273).bind fun t276 => (lots_set.l0 k ([] : List (S39)) t276 (t273.length : Int) 0))
/-! ### lots_Minus -/
def lots_Minus.j0 : Nat → List (S39) → List (S39) → Bool → Option ((List (S39)))
 | 0, _, _, _ => none
 | k + 1, x0, x1, x12 => if x12 = true then (some ([] : List (S39))) else ((lots_set.f k x0).bind fun t292 => ((lots_set.f k x1).bind fun t295 => ((lots_chosen.f t292 t295 false).bind fun t298 => (some t298))))
def lots_Minus.f (k : Nat) (l0 : List (S39)) (l1 : List (S39)) : Option ((List (S39))) := (lots_Valid.f l0).bind fun t290 => (if t290 = true then ((lots_Valid.f l1).bind fun t291 => (lots_Minus.j0 k l0 l1 (!t291))) else (lots_Minus.j0 k l0 l1 true))
/-! ### worldmintlaw14_lives -/
def worldmintlaw14_lives.j0 : Nat → List (S39) → List (S39) → List (S39) → List (S39) → List (S39) → Bool → Option (Bool)
 | 0, _, _, _, _, _, _ => none
 | k + 1, x2, x3, x5, x8, x10, x49 => if x49 = true then (some false) else ((worldmintref14_Same.f k x2 (([(⟨7, 0, 4⟩ : S39)] : List (S39)))).bind fun t332 => (if t332 = true then ((worldmintref14_Same.f k x3 (([(⟨7, 4, 2⟩ : S39), (⟨9, 2, 2⟩ : S39)] : List (S39)))).bind fun t336 => (if t336 = true then ((worldmintref14_Same.f k x5 (([(⟨7, 0, 3⟩ : S39), (⟨9, 2, 1⟩ : S39)] : List (S39)))).bind fun t340 => (if t340 = true then ((worldmintref14_Same.f k x8 (([(⟨7, 5, 1⟩ : S39), (⟨9, 2, 1⟩ : S39)] : List (S39)))).bind fun t344 => (if t344 = true then ((worldmintref14_Same.f k x10 (([(⟨7, 0, 1⟩ : S39), (⟨7, 3, 3⟩ : S39), (⟨9, 2, 2⟩ : S39)] : List (S39)))).bind fun t348 => (some t348)) else (some false))) else (some false))) else (some false))) else (some false)))
def worldmintlaw14_lives.f (k : Nat)  : Option (Bool) := (some (([(⟨7, 0, 6⟩ : S39), (⟨9, 2, 2⟩ : S39)] : List (S39)) : List (S39))).bind fun y301 => ((lots_Take.f k y301 4 false).bind fun bt304 => ((lots_Take.f k y301 4 true).bind fun bt311 => ((lots_Slice.f k y301 5 2).bind fun bt318 => ((lots_Minus.f k y301 (([(⟨7, 1, 2⟩ : S39)] : List (S39)))).bind fun t325 => (if bt304.2.2 = 0 then (if bt311.2.2 = 0 then (if bt318.2 = 0 then ((lots_Total.f k y301).bind fun t328 => (worldmintlaw14_lives.j0 k bt304.1 bt304.2.1 bt311.1 bt318.1 t325 (t328 != 8))) else (worldmintlaw14_lives.j0 k bt304.1 bt304.2.1 bt311.1 bt318.1 t325 true)) else (worldmintlaw14_lives.j0 k bt304.1 bt304.2.1 bt311.1 bt318.1 t325 true)) else (worldmintlaw14_lives.j0 k bt304.1 bt304.2.1 bt311.1 bt318.1 t325 true))))))
/-! ### worldmintlaw14_LotsTake -/
mutual
def worldmintlaw14_LotsTake.l0 : Nat → Int → List (List (S39)) → Int → Option (Bool)
 | 0, _, _, _ => none
 | k + 1, x2, x7, x8 => if x8 < 2 then (if 0 ≤ x8 then (if x8 < (x7.length : Int) then ((worldmintref14_Total.f k (rd_L2 x7 x8)).bind fun t359 => ((worldmintref03_Around.f x2 (wrap64 (t359 + 2))).bind fun t360 => (worldmintlaw14_LotsTake.l1 k x2 x7 x8 (([x2, t360] : List Int)) 0))) else (none)) else (none)) else ((worldmintlaw14_lives.f k).bind fun t384 => (some t384))
def worldmintlaw14_LotsTake.l1 : Nat → Int → List (List (S39)) → Int → List Int → Int → Option (Bool)
 | 0, _, _, _, _, _ => none
 | k + 1, x2, x7, x8, x9, x10 => if x10 < 4 then (if 0 ≤ x8 then (if x8 < (x7.length : Int) then (if 0 ≤ (Int.tmod x10 2) then (if (Int.tmod x10 2) < (x9.length : Int) then ((lots_Take.f k (rd_L2 x7 x8) (rd x9 (Int.tmod x10 2)) (decide (x10 > 1))).bind fun bt366 => ((worldmintref14_Take.f k (rd_L2 x7 x8) (rd x9 (Int.tmod x10 2)) (decide (x10 > 1))).bind fun bt375 => (if bt366.2.2 = bt375.2.2 then ((worldmintref14_Same.f k bt366.1 bt375.1).bind fun t382 => (if t382 = true then ((worldmintref14_Same.f k bt366.2.1 bt375.2.1).bind fun t383 => (worldmintlaw14_LotsTake.j2 k x2 x7 x8 x9 x10 (!t383))) else (worldmintlaw14_LotsTake.j2 k x2 x7 x8 x9 x10 true))) else (worldmintlaw14_LotsTake.j2 k x2 x7 x8 x9 x10 true)))) else (none)) else (none)) else (none)) else (none)) else (worldmintlaw14_LotsTake.l0 k x2 x7 (wrap64 (x8 + 1)))
def worldmintlaw14_LotsTake.j2 : Nat → Int → List (List (S39)) → Int → List Int → Int → Bool → Option (Bool)
 | 0, _, _, _, _, _, _ => none
 | k + 1, x2, x7, x8, x9, x10, x86 => if x86 = true then (some false) else (worldmintlaw14_LotsTake.l1 k x2 x7 x8 x9 (wrap64 (x10 + 1)))
end
def worldmintlaw14_LotsTake.f (k : Nat) (l0 : List (S39)) (l1 : List Int) (a2 : Int) : Option (Bool) := (worldmintlaw14_few.f l0).bind fun t349 => ((worldmintref14_Lots.f k l1 0).bind fun t352 => (worldmintlaw14_LotsTake.l0 k a2 (([t349, t352] : List (List (S39)))) 0))
/-! ### worldmintref14_Slice -/
mutual
def worldmintref14_Slice.j0 : Nat → List (S39) → Int → Int → Bool → Option ((List (S39)) × Int)
 | 0, _, _, _, _ => none
 | k + 1, x0, x1, x2, x26 => if x26 = true then (some (([] : List (S39)), 1)) else ((worldmintref14_Total.f k x0).bind fun t386 => (if x1 > t386 then (worldmintref14_Slice.j1 k x0 x1 x2 true) else (worldmintref14_Slice.j1 k x0 x1 x2 (decide (x2 > (wrap64 (t386 - x1)))))))
def worldmintref14_Slice.j1 : Nat → List (S39) → Int → Int → Bool → Option ((List (S39)) × Int)
 | 0, _, _, _, _ => none
 | k + 1, x0, x1, x2, x38 => if x38 = true then (some (([] : List (S39)), 5)) else (worldmintref14_Slice.l0 k x0 x1 x2 ([] : List (S39)) 0 0)
def worldmintref14_Slice.l0 : Nat → List (S39) → Int → Int → List (S39) → Int → Int → Option ((List (S39)) × Int)
 | 0, _, _, _, _, _, _ => none
 | k + 1, x0, x1, x2, x10, x11, x12 => if x12 < (x0.length : Int) then (if 0 ≤ x12 then (if (mx x1 x11) < (mn (wrap64 (x1 + x2)) (wrap64 (x11 + ((rd_T39 x0 x12).f2)))) then ((worldmintref14_Add.f k x10 ((rd_T39 x0 x12).f0) (wrap64 ((wrap64 (((rd_T39 x0 x12).f1) + (mx x1 x11))) - x11)) (wrap64 ((mn (wrap64 (x1 + x2)) (wrap64 (x11 + ((rd_T39 x0 x12).f2)))) - (mx x1 x11)))).bind fun t390 => (worldmintref14_Slice.l0 k x0 x1 x2 t390 (wrap64 (x11 + ((rd_T39 x0 x12).f2))) (wrap64 (x12 + 1)))) else (worldmintref14_Slice.l0 k x0 x1 x2 x10 (wrap64 (x11 + ((rd_T39 x0 x12).f2))) (wrap64 (x12 + 1)))) else (none)) else (some (x10, 0))
end
def worldmintref14_Slice.f (k : Nat) (l0 : List (S39)) (a1 : Int) (a2 : Int) : Option ((List (S39)) × Int) := (worldmintref14_Valid.f k l0).bind fun t385 => (if t385 = true then (if a1 < 0 then (worldmintref14_Slice.j0 k l0 a1 a2 true) else (worldmintref14_Slice.j0 k l0 a1 a2 (decide (a2 < 0)))) else (worldmintref14_Slice.j0 k l0 a1 a2 true))
/-! ### worldmintlaw14_LotsSlice -/
mutual
def worldmintlaw14_LotsSlice.l0 : Nat → Int → Int → List (List (S39)) → Int → Option (Bool)
 | 0, _, _, _, _ => none
 | k + 1, x2, x3, x9, x10 => if x10 < 2 then (if 0 ≤ x10 then (if x10 < (x9.length : Int) then ((worldmintref14_Total.f k (rd_L2 x9 x10)).bind fun t405 => ((worldmintref03_Around.f x2 (wrap64 (t405 + 2))).bind fun t406 => ((lots_Slice.f k (rd_L2 x9 x10) x2 x3).bind fun bt408 => ((worldmintref14_Slice.f k (rd_L2 x9 x10) x2 x3).bind fun bt413 => ((worldmintref03_Around.f x3 (mx 1 (wrap64 ((wrap64 (t405 - t406)) + 2)))).bind fun t418 => ((lots_Slice.f k (rd_L2 x9 x10) t406 t418).bind fun bt419 => ((worldmintref03_Around.f x3 (mx 1 (wrap64 ((wrap64 (t405 - t406)) + 2)))).bind fun t424 => ((worldmintref14_Slice.f k (rd_L2 x9 x10) t406 t424).bind fun bt425 => (if bt408.2 = bt413.2 then (if bt419.2 = bt425.2 then ((worldmintref14_Same.f k bt408.1 bt413.1).bind fun t429 => (if t429 = true then ((worldmintref14_Same.f k bt419.1 bt425.1).bind fun t430 => (worldmintlaw14_LotsSlice.j1 k x2 x3 x9 x10 (!t430))) else (worldmintlaw14_LotsSlice.j1 k x2 x3 x9 x10 true))) else (worldmintlaw14_LotsSlice.j1 k x2 x3 x9 x10 true)) else (worldmintlaw14_LotsSlice.j1 k x2 x3 x9 x10 true)))))))))) else (none)) else (none)) else ((worldmintlaw14_lives.f k).bind fun t431 => (some t431))
def worldmintlaw14_LotsSlice.j1 : Nat → Int → Int → List (List (S39)) → Int → Bool → Option (Bool)
 | 0, _, _, _, _, _ => none
 | k + 1, x2, x3, x9, x10, x110 => if x110 = true then (some false) else (worldmintlaw14_LotsSlice.l0 k x2 x3 x9 (wrap64 (x10 + 1)))
end
def worldmintlaw14_LotsSlice.f (k : Nat) (l0 : List (S39)) (l1 : List Int) (a2 : Int) (a3 : Int) : Option (Bool) := (worldmintlaw14_few.f l0).bind fun t395 => ((worldmintref14_Lots.f k l1 0).bind fun t398 => (worldmintlaw14_LotsSlice.l0 k a2 a3 (([t395, t398] : List (List (S39)))) 0))
/-! ### lots_Put -/
def lots_Put.j0 : Nat → List (S39) → Bool → Int → Int → Int → Option ((List (S39)))
 | 0, _, _, _, _, _ => none
 | k + 1, x0, x12, x434000, x434001, x434002 => if x12 = true then (some ([] : List (S39))) else ((api_Lot_59.f x0).bind fun t436 => ((lots_join.f t436 x434000 x434001 x434002).bind fun t439 => (some t439)))
def lots_Put.f (k : Nat) (l0 : List (S39)) (a1_0 : Int) (a1_1 : Int) (a1_2 : Int) : Option ((List (S39))) := (lots_Valid.f l0).bind fun t434 => (if t434 = true then ((lots_possible.f a1_0 a1_1 a1_2).bind fun t435 => (lots_Put.j0 k l0 (!t435) a1_0 a1_1 a1_2)) else (lots_Put.j0 k l0 true a1_0 a1_1 a1_2))
/-! ### worldmintref14_Put -/
def worldmintref14_Put.f (k : Nat) (l0 : List (S39)) (a1_0 : Int) (a1_1 : Int) (a1_2 : Int) : Option ((List (S39))) := (worldmintref14_Valid.f k l0).bind fun t443 => ((worldmintref14_possible.f a1_0 a1_1 a1_2).bind fun t444 => (if t443 = true then (if t444 = true then ((worldmintref14_Add.f k l0 a1_0 a1_1 a1_2).bind fun t445 => (some t445)) else (some ([] : List (S39)))) else (some ([] : List (S39)))))
/-! ### worldmintlaw14_LotsStacks -/
mutual
def worldmintlaw14_LotsStacks.l0 : Nat → List (List (S39)) → List (S39) → Int → Option (Bool)
 | 0, _, _, _ => none
 | k + 1, x7, x8, x9 => if x9 < 3 then (if 0 ≤ x9 then (if x9 < (x7.length : Int) then ((lots_Valid.f (rd_L2 x7 x9)).bind fun t471 => ((worldmintref14_Valid.f k (rd_L2 x7 x9)).bind fun t473 => (if (t471 != t473) = true then (worldmintlaw14_LotsStacks.j1 k x7 x8 x9 true) else ((lots_Total.f k (rd_L2 x7 x9)).bind fun t475 => ((worldmintref14_Total.f k (rd_L2 x7 x9)).bind fun t477 => (worldmintlaw14_LotsStacks.j1 k x7 x8 x9 (t475 != t477))))))) else (none)) else (none)) else ((worldmintlaw14_lives.f k).bind fun t489 => (some t489))
def worldmintlaw14_LotsStacks.j1 : Nat → List (List (S39)) → List (S39) → Int → Bool → Option (Bool)
 | 0, _, _, _, _ => none
 | k + 1, x7, x8, x9, x50 => if x50 = true then (some false) else (worldmintlaw14_LotsStacks.l1 k x7 x8 x9 0)
def worldmintlaw14_LotsStacks.l1 : Nat → List (List (S39)) → List (S39) → Int → Int → Option (Bool)
 | 0, _, _, _, _ => none
 | k + 1, x7, x8, x9, x10 => if x10 < (x8.length : Int) then (if 0 ≤ x9 then (if x9 < (x7.length : Int) then (if 0 ≤ x10 then ((lots_Put.f k (rd_L2 x7 x9) ((rd_T39 x8 x10).f0) ((rd_T39 x8 x10).f1) ((rd_T39 x8 x10).f2)).bind fun t480 => ((worldmintref14_Put.f k (rd_L2 x7 x9) ((rd_T39 x8 x10).f0) ((rd_T39 x8 x10).f1) ((rd_T39 x8 x10).f2)).bind fun t485 => ((worldmintref14_Same.f k t480 t485).bind fun t488 => (if t488 = true then (worldmintlaw14_LotsStacks.l1 k x7 x8 x9 (wrap64 (x10 + 1))) else (some false))))) else (none)) else (none)) else (none)) else (worldmintlaw14_LotsStacks.l0 k x7 x8 (wrap64 (x9 + 1)))
end
def worldmintlaw14_LotsStacks.f (k : Nat) (l0 : List (S39)) (a1_0 : Int) (a1_1 : Int) (a1_2 : Int) (l2 : List Int) : Option (Bool) := (worldmintlaw14_few.f l0).bind fun t449 => ((worldmintref14_Lots.f k l2 0).bind fun t452 => ((worldmintref14_Lots.f k l2 5).bind fun t455 => ((some (([(⟨a1_0, a1_1, a1_2⟩ : S39)] : List (S39)) : List (S39))).bind fun y461 => ((worldmintref14_Lots.f k l2 9).bind fun t464 => (if y461.length + t464.length < 5864062014805 then (worldmintlaw14_LotsStacks.l0 k (([t449, t452, t455] : List (List (S39)))) (y461 ++ t464) 0) else (none))))))
/-! ### lots_Meet -/
def lots_Meet.j0 : Nat → List (S39) → List (S39) → Bool → Option ((List (S39)))
 | 0, _, _, _ => none
 | k + 1, x0, x1, x12 => if x12 = true then (some ([] : List (S39))) else ((lots_set.f k x0).bind fun t492 => ((lots_set.f k x1).bind fun t495 => ((lots_chosen.f t492 t495 true).bind fun t498 => (some t498))))
def lots_Meet.f (k : Nat) (l0 : List (S39)) (l1 : List (S39)) : Option ((List (S39))) := (lots_Valid.f l0).bind fun t490 => (if t490 = true then ((lots_Valid.f l1).bind fun t491 => (lots_Meet.j0 k l0 l1 (!t491))) else (lots_Meet.j0 k l0 l1 true))
/-! ### share_Part -/
def share_Part.j0 : Nat → Int → Int → Int → Bool → Option (Int × Int)
 | 0, _, _, _, _ => none
 | k + 1, x0, x1, x2, x27 => if x27 = true then (some (0, 1)) else ((share_divide.f k x0 x1 x2).bind fun bt504 => (if bt504.2.2 = true then (some (bt504.1, 0)) else (some (0, 5))))
def share_Part.f (k : Nat) (a0 : Int) (a1 : Int) (a2 : Int) : Option (Int × Int) := (share_amount.f a0).bind fun t501 => (if t501 = true then ((share_large.f a1).bind fun t502 => (if t502 = true then ((share_large.f a2).bind fun t503 => (if t503 = true then (share_Part.j0 k a0 a1 a2 (a2 == 0)) else (share_Part.j0 k a0 a1 a2 true))) else (share_Part.j0 k a0 a1 a2 true))) else (share_Part.j0 k a0 a1 a2 true))
/-! ### share_Ceil -/
def share_Ceil.j0 : Nat → Int → Option (Int × Int)
 | 0, _ => none
 | k + 1, x8 => if x8 > 1099511627776 then (some (0, 5)) else (some (x8, 0))
def share_Ceil.f (k : Nat) (a0 : Int) (a1 : Int) (a2 : Int) : Option (Int × Int) := (share_Part.f k a0 a1 a2).bind fun bt507 => (if bt507.2 = 0 then ((share_divide.f k a0 a1 a2).bind fun bt509 => (if bt509.2.1 > 0 then (share_Ceil.j0 k (wrap64 (bt507.1 + 1))) else (share_Ceil.j0 k bt507.1))) else (some (0, bt507.2)))
/-! ### worldmintlaw14_LotsMixed -/
mutual
def worldmintlaw14_LotsMixed.l0 : Nat → Int → List (S39) → List (S39) → Int → Option (Bool)
 | 0, _, _, _, _ => none
 | k + 1, x1, x5, x6, x7 => if x7 < (x5.length : Int) then (if 0 ≤ x7 then (if x6.length < 5864062014805 then (worldmintlaw14_LotsMixed.l0 k x1 x5 (x6 ++ [(⟨wrap64 (10 + x7), (rd_T39 x5 x7).f1, (rd_T39 x5 x7).f2⟩ : S39)]) (wrap64 (x7 + 1))) else (none)) else (none)) else ((lots_Total.f k x6).bind fun t520 => (if t520 = 0 then (if (x6.length : Int) = 0 then ((worldmintlaw14_lives.f k).bind fun t521 => (some t521)) else (some false)) else ((worldmintref03_Around.f x1 (wrap64 ((mn t520 1099511627776) + 1))).bind fun t522 => ((lots_Take.f k x6 t522 true).bind fun bt523 => (if bt523.2.2 = 0 then (worldmintlaw14_LotsMixed.l1 k x6 t520 t522 bt523.1 0) else (some false))))))
def worldmintlaw14_LotsMixed.l1 : Nat → List (S39) → Int → Int → List (S39) → Int → Option (Bool)
 | 0, _, _, _, _, _ => none
 | k + 1, x6, x9, x10, x11, x14 => if x14 < (x6.length : Int) then (if 0 ≤ x14 then (if x14 ≤ (wrap64 (x14 + 1)) then (if (wrap64 (x14 + 1)) ≤ (x6.length : Int) then ((lots_Meet.f k x11 ((x6.take ((wrap64 (x14 + 1)) : Int).toNat).drop (x14 : Int).toNat)).bind fun t534 => ((lots_Total.f k t534).bind fun t537 => ((share_Part.f k x10 ((rd_T39 x6 x14).f2) x9).bind fun bt539 => ((share_Ceil.f k x10 ((rd_T39 x6 x14).f2) x9).bind fun bt542 => (if bt539.2 = 0 then (if bt542.2 = 0 then (if t537 < bt539.1 then (worldmintlaw14_LotsMixed.j2 k x6 x9 x10 x11 x14 true) else (worldmintlaw14_LotsMixed.j2 k x6 x9 x10 x11 x14 (decide (t537 > bt542.1)))) else (worldmintlaw14_LotsMixed.j2 k x6 x9 x10 x11 x14 true)) else (worldmintlaw14_LotsMixed.j2 k x6 x9 x10 x11 x14 true)))))) else (none)) else (none)) else (none)) else ((worldmintlaw14_lives.f k).bind fun t544 => (some t544))
def worldmintlaw14_LotsMixed.j2 : Nat → List (S39) → Int → Int → List (S39) → Int → Bool → Option (Bool)
 | 0, _, _, _, _, _, _ => none
 | k + 1, x6, x9, x10, x11, x14, x114 => if x114 = true then (some false) else (worldmintlaw14_LotsMixed.l1 k x6 x9 x10 x11 (wrap64 (x14 + 1)))
end
def worldmintlaw14_LotsMixed.f (k : Nat) (l0 : List Int) (a1 : Int) : Option (Bool) := (worldmintref14_Lots.f k l0 0).bind fun t512 => (worldmintlaw14_LotsMixed.l0 k a1 t512 ([] : List (S39)) 0)
def worldmintlaw14_LotsMixed.Pure : Prop := ∀ (l0 : List Int) (a1 : Int), l0.length ≤ maxLen → l0.length * 8 ≤ 140737488351232 → (∀ x ∈ l0, (Lit.int .i64 x).wf = true) → (Lit.int .i64 a1).wf = true → ∃ k, worldmintlaw14_LotsMixed.f k l0 a1 = some true
/-! ### api_Lot_65 -/
mutual
def api_Lot_65.l0 : Nat → List (List (S39)) → Int → List (List (S39)) → Int → Int → Option ((List (S39)))
 | 0, _, _, _, _, _ => none
 | k + 1, x0, x3, x9, x10, x11 => if x11 < x10 then (if 0 ≤ x11 then (if x11 < (x9.length : Int) then (if (wrap64 (x3 + ((rd_L2 x9 x11).length : Int))) < 0 then (none) else (api_Lot_65.l0 k x0 (wrap64 (x3 + ((rd_L2 x9 x11).length : Int))) x9 x10 (wrap64 (x11 + 1)))) else (none)) else (none)) else ((api_Lot_84.f x3).bind fun t546 => (api_Lot_65.l1 k t546 x0 (x0.length : Int) 0))
def api_Lot_65.l1 : Nat → List (S39) → List (List (S39)) → Int → Int → Option ((List (S39)))
 | 0, _, _, _, _ => none
 | k + 1, x6, x25, x26, x27 => if x27 < x26 then (if 0 ≤ x27 then (if x27 < (x25.length : Int) then (if x6.length + (rd_L2 x25 x27).length < 5864062014805 then (api_Lot_65.l1 k (x6 ++ (rd_L2 x25 x27)) x25 x26 (wrap64 (x27 + 1))) else (none)) else (none)) else (none)) else (some x6)
end
def api_Lot_65.f (k : Nat) (l0 : List (List (S39))) : Option ((List (S39))) := api_Lot_65.l0 k l0 0 l0 (l0.length : Int) 0
/-! ### lots_Union -/
def lots_Union.j0 : Nat → List (S39) → List (S39) → Bool → Option ((List (S39)))
 | 0, _, _, _ => none
 | k + 1, x0, x1, x12 => if x12 = true then (some ([] : List (S39))) else ((api_Lot_65.f k (([x0, x1] : List (List (S39))))).bind fun t558 => ((lots_set.f k t558).bind fun t561 => (some t561)))
def lots_Union.f (k : Nat) (l0 : List (S39)) (l1 : List (S39)) : Option ((List (S39))) := (lots_Valid.f l0).bind fun t553 => (if t553 = true then ((lots_Valid.f l1).bind fun t554 => (lots_Union.j0 k l0 l1 (!t554))) else (lots_Union.j0 k l0 l1 true))
/-! ### lots_Without -/
def lots_Without.j0 : Nat → List (S39) → List (S39) → Bool → Option ((List (S39)))
 | 0, _, _, _ => none
 | k + 1, x0, x1, x12 => if x12 = true then (some ([] : List (S39))) else ((lots_set.f k x1).bind fun t566 => ((lots_chosen.f x0 t566 false).bind fun t569 => (some t569)))
def lots_Without.f (k : Nat) (l0 : List (S39)) (l1 : List (S39)) : Option ((List (S39))) := (lots_Valid.f l0).bind fun t564 => (if t564 = true then ((lots_Valid.f l1).bind fun t565 => (lots_Without.j0 k l0 l1 (!t565))) else (lots_Without.j0 k l0 l1 true))
/-! ### lots_Within -/
def lots_Within.f (k : Nat) (l0 : List (S39)) (l1 : List (S39)) : Option (Bool) := (lots_Valid.f l0).bind fun t572 => (if t572 = true then ((lots_Valid.f l1).bind fun t573 => (if t573 = true then ((lots_Minus.f k l0 l1).bind fun t574 => (some ((t574.length : Int) == 0))) else (some false))) else (some false))
/-! ### worldmintlaw14_LotsAlgebra -/
def worldmintlaw14_LotsAlgebra.l0 : Nat → List (S39) → List (S39) → List (S39) → List (S39) → List (S39) → List (S39) → Int → Int → Option (Bool)
 | 0, _, _, _, _, _, _, _, _ => none
 | k + 1, x7, x8, x9, x10, x11, x12, x13, x14 => if x14 < (x7.length : Int) then (if 0 ≤ x14 then (if x14 ≤ (wrap64 (x14 + 1)) then (if (wrap64 (x14 + 1)) ≤ (x7.length : Int) then ((lots_Meet.f k ((x7.take ((wrap64 (x14 + 1)) : Int).toNat).drop (x14 : Int).toNat) x8).bind fun t614 => ((lots_Total.f k t614).bind fun t617 => (worldmintlaw14_LotsAlgebra.l0 k x7 x8 x9 x10 x11 x12 (wrap64 (x13 + t617)) (wrap64 (x14 + 1))))) else (none)) else (none)) else (none)) else ((lots_Union.f k x7 x8).bind fun t618 => ((worldmintref14_Same.f k x10 t618).bind fun t621 => (if t621 = true then ((lots_Union.f k x8 x9).bind fun t622 => ((lots_Minus.f k x7 t622).bind fun t625 => ((worldmintref14_Same.f k x11 t625).bind fun t628 => (if t628 = true then ((lots_Union.f k x8 x9).bind fun t629 => ((lots_Meet.f k x7 t629).bind fun t632 => ((lots_Meet.f k x7 x8).bind fun t635 => ((lots_Meet.f k x7 x9).bind fun t638 => ((lots_Union.f k t635 t638).bind fun t641 => ((worldmintref14_Same.f k t632 t641).bind fun t644 => (if t644 = true then ((lots_Total.f k x12).bind fun t645 => ((lots_Total.f k x7).bind fun t646 => (if (wrap64 (t645 + x13)) = t646 then ((lots_Within.f k x12 x7).bind fun t647 => (if t647 = true then ((worldmintlaw14_lives.f k).bind fun t648 => (some t648)) else (some false))) else (some false)))) else (some false)))))))) else (some false))))) else (some false))))
def worldmintlaw14_LotsAlgebra.f (k : Nat) (l0 : List Int) (l1 : List Int) (l2 : List Int) : Option (Bool) := (worldmintref14_Lots.f k l0 0).bind fun t577 => ((worldmintref14_Lots.f k l1 0).bind fun t580 => ((worldmintref14_Lots.f k l2 0).bind fun t583 => ((lots_Minus.f k t577 t580).bind fun t586 => ((lots_Minus.f k t580 t577).bind fun t589 => ((lots_Union.f k t586 t589).bind fun t592 => ((lots_Meet.f k t577 t580).bind fun t595 => ((lots_Union.f k t592 t595).bind fun t598 => ((lots_Minus.f k t577 t580).bind fun t601 => ((lots_Minus.f k t601 t583).bind fun t604 => ((lots_Without.f k t577 t580).bind fun t607 => (worldmintlaw14_LotsAlgebra.l0 k t577 t580 t583 t598 t604 t607 0 0)))))))))))
def worldmintlaw14_LotsAlgebra.Pure : Prop := ∀ (l0 : List Int) (l1 : List Int) (l2 : List Int), l0.length ≤ maxLen → l0.length * 8 ≤ 140737488351232 → (∀ x ∈ l0, (Lit.int .i64 x).wf = true) → l1.length ≤ maxLen → l1.length * 8 ≤ 140737488351232 → (∀ x ∈ l1, (Lit.int .i64 x).wf = true) → l2.length ≤ maxLen → l2.length * 8 ≤ 140737488351232 → (∀ x ∈ l2, (Lit.int .i64 x).wf = true) → ∃ k, worldmintlaw14_LotsAlgebra.f k l0 l1 l2 = some true
/-! ### lots_Set -/
def lots_Set.f (k : Nat) (l0 : List (S39)) : Option ((List (S39))) := (lots_Valid.f l0).bind fun t649 => (if t649 = true then ((lots_set.f k l0).bind fun t650 => (some t650)) else (some ([] : List (S39))))
/-! ### worldmintlaw14_LotsParts -/
mutual
def worldmintlaw14_LotsParts.j0 : Nat → Int → List (S39) → Int → Bool → Option (Bool)
 | 0, _, _, _, _ => none
 | k + 1, x2, x9, x11, x83 => if x83 = true then (some false) else ((worldmintref03_Around.f x2 (wrap64 (x11 + 1))).bind fun t678 => ((lots_Take.f k x9 t678 false).bind fun bt679 => ((lots_Take.f k bt679.2.1 (wrap64 (x11 - t678)) false).bind fun bt686 => ((lots_Take.f k x9 x11 false).bind fun bt693 => (if bt679.2.2 = 0 then (if bt686.2.2 = 0 then (worldmintlaw14_LotsParts.j1 k bt679.1 bt686.1 bt686.2.1 bt693.1 bt693.2.1 (bt693.2.2 != 0)) else (worldmintlaw14_LotsParts.j1 k bt679.1 bt686.1 bt686.2.1 bt693.1 bt693.2.1 true)) else (worldmintlaw14_LotsParts.j1 k bt679.1 bt686.1 bt686.2.1 bt693.1 bt693.2.1 true))))))
def worldmintlaw14_LotsParts.j1 : Nat → List (S39) → List (S39) → List (S39) → List (S39) → List (S39) → Bool → Option (Bool)
 | 0, _, _, _, _, _, _ => none
 | k + 1, x16, x19, x20, x22, x23, x120 => if x120 = true then (some false) else (worldmintlaw14_LotsParts.l0 k x19 x20 x22 x23 x16 0)
def worldmintlaw14_LotsParts.l0 : Nat → List (S39) → List (S39) → List (S39) → List (S39) → List (S39) → Int → Option (Bool)
 | 0, _, _, _, _, _, _ => none
 | k + 1, x19, x20, x22, x23, x25, x26 => if x26 < (x19.length : Int) then (if 0 ≤ x26 then ((lots_Put.f k x25 ((rd_T39 x19 x26).f0) ((rd_T39 x19 x26).f1) ((rd_T39 x19 x26).f2)).bind fun t701 => (worldmintlaw14_LotsParts.l0 k x19 x20 x22 x23 t701 (wrap64 (x26 + 1)))) else (none)) else ((worldmintref14_Same.f k x25 x22).bind fun t704 => (if t704 = true then ((worldmintref14_Same.f k x20 x23).bind fun t705 => (if t705 = true then ((worldmintlaw14_lives.f k).bind fun t706 => (some t706)) else (some false))) else (some false)))
end
def worldmintlaw14_LotsParts.f (k : Nat) (l0 : List Int) (a1 : Int) (a2 : Int) (a3 : Bool) : Option (Bool) := (worldmintref14_Lots.f k l0 0).bind fun t653 => ((lots_Set.f k t653).bind fun t656 => ((lots_Total.f k t656).bind fun t659 => (if t659 = 0 then (if (t656.length : Int) = 0 then ((worldmintlaw14_lives.f k).bind fun t660 => (some t660)) else (some false)) else ((worldmintref03_Around.f a1 (wrap64 ((mn t659 1099511627776) + 1))).bind fun t661 => ((lots_Take.f k t656 t661 a3).bind fun bt662 => (if bt662.2.2 = 0 then ((lots_Total.f k bt662.1).bind fun t669 => (if t669 = t661 then ((lots_Total.f k bt662.2.1).bind fun t670 => (if t670 = (wrap64 (t659 - t661)) then ((lots_Meet.f k bt662.1 bt662.2.1).bind fun t671 => (if (t671.length : Int) = 0 then ((lots_Union.f k bt662.1 bt662.2.1).bind fun t674 => ((worldmintref14_Same.f k t674 t656).bind fun t677 => (worldmintlaw14_LotsParts.j0 k a2 t656 t661 (!t677)))) else (worldmintlaw14_LotsParts.j0 k a2 t656 t661 true))) else (worldmintlaw14_LotsParts.j0 k a2 t656 t661 true))) else (worldmintlaw14_LotsParts.j0 k a2 t656 t661 true))) else (worldmintlaw14_LotsParts.j0 k a2 t656 t661 true)))))))
def worldmintlaw14_LotsParts.Pure : Prop := ∀ (l0 : List Int) (a1 : Int) (a2 : Int) (a3 : Bool), l0.length ≤ maxLen → l0.length * 8 ≤ 140737488351232 → (∀ x ∈ l0, (Lit.int .i64 x).wf = true) → (Lit.int .i64 a1).wf = true → (Lit.int .i64 a2).wf = true → ∃ k, worldmintlaw14_LotsParts.f k l0 a1 a2 a3 = some true
/-! ### worldmintref14_insert -/
mutual
def worldmintref14_insert.l0 : Nat → List (S39) → List (S39) → List (S39) → Int → Int → Int → Int → Int → Int → Option ((List (S39)))
 | 0, _, _, _, _, _, _, _, _, _ => none
 | k + 1, x0, x5, x6, x7, x8, x9, x708000, x708001, x708002 => if x9 < (x0.length : Int) then (if 0 ≤ x9 then (if ((rd_T39 x0 x9).f0) < x708000 then (worldmintref14_insert.j1 k x0 x5 x6 x7 x8 x9 true x708000 x708001 x708002 ((rd_T39 x0 x9).f0) ((rd_T39 x0 x9).f1) ((rd_T39 x0 x9).f2)) else (if ((rd_T39 x0 x9).f0) = x708000 then (worldmintref14_insert.j1 k x0 x5 x6 x7 x8 x9 (decide ((wrap64 (((rd_T39 x0 x9).f1) + ((rd_T39 x0 x9).f2))) < x7)) x708000 x708001 x708002 ((rd_T39 x0 x9).f0) ((rd_T39 x0 x9).f1) ((rd_T39 x0 x9).f2)) else (worldmintref14_insert.j1 k x0 x5 x6 x7 x8 x9 false x708000 x708001 x708002 ((rd_T39 x0 x9).f0) ((rd_T39 x0 x9).f1) ((rd_T39 x0 x9).f2)))) else (none)) else (if x5.length < 5864062014805 then ((some (x5 ++ [(⟨x708000, x7, wrap64 (x8 - x7)⟩ : S39)] : List (S39))).bind fun y708 => (if y708.length + x6.length < 5864062014805 then (some (y708 ++ x6)) else (none))) else (none))
def worldmintref14_insert.j1 : Nat → List (S39) → List (S39) → List (S39) → Int → Int → Int → Bool → Int → Int → Int → Int → Int → Int → Option ((List (S39)))
 | 0, _, _, _, _, _, _, _, _, _, _, _, _, _ => none
 | k + 1, x0, x5, x6, x7, x8, x9, x48, x708000, x708001, x708002, x716000, x716001, x716002 => if x48 = true then (if x5.length < 5864062014805 then (worldmintref14_insert.l0 k x0 (x5 ++ [(⟨x716000, x716001, x716002⟩ : S39)]) x6 x7 x8 (wrap64 (x9 + 1)) x708000 x708001 x708002) else (none)) else (if x716000 > x708000 then (if x6.length < 5864062014805 then (worldmintref14_insert.l0 k x0 x5 (x6 ++ [(⟨x716000, x716001, x716002⟩ : S39)]) x7 x8 (wrap64 (x9 + 1)) x708000 x708001 x708002) else (none)) else (if x716001 > x8 then (if x6.length < 5864062014805 then (worldmintref14_insert.l0 k x0 x5 (x6 ++ [(⟨x716000, x716001, x716002⟩ : S39)]) x7 x8 (wrap64 (x9 + 1)) x708000 x708001 x708002) else (none)) else (worldmintref14_insert.l0 k x0 x5 x6 (mn x7 x716001) (mx x8 (wrap64 (x716001 + x716002))) (wrap64 (x9 + 1)) x708000 x708001 x708002)))
end
def worldmintref14_insert.f (k : Nat) (l0 : List (S39)) (a1_0 : Int) (a1_1 : Int) (a1_2 : Int) : Option ((List (S39))) := worldmintref14_insert.l0 k l0 ([] : List (S39)) ([] : List (S39)) a1_1 (wrap64 (a1_1 + a1_2)) 0 a1_0 a1_1 a1_2
/-! ### worldmintref14_Set -/
def worldmintref14_Set.l0 : Nat → List (S39) → List (S39) → Bool → Int → Option ((List (S39)))
 | 0, _, _, _, _ => none
 | k + 1, x0, x3, x4, x5 => if x5 < (x0.length : Int) then (if x4 = true then (if 0 ≤ x5 then ((worldmintref14_insert.f k x3 ((rd_T39 x0 x5).f0) ((rd_T39 x0 x5).f1) ((rd_T39 x0 x5).f2)).bind fun t727 => (worldmintref14_Set.l0 k x0 t727 x4 (wrap64 (x5 + 1)))) else (none)) else (some x3)) else (some x3)
def worldmintref14_Set.f (k : Nat) (l0 : List (S39)) : Option ((List (S39))) := (worldmintref14_Valid.f k l0).bind fun t725 => (worldmintref14_Set.l0 k l0 ([] : List (S39)) t725 0)
/-! ### worldmintref14_Union -/
mutual
def worldmintref14_Union.j0 : Nat → List (S39) → List (S39) → Bool → Option ((List (S39)))
 | 0, _, _, _ => none
 | k + 1, x0, x1, x18 => if x18 = true then (some ([] : List (S39))) else ((worldmintref14_Set.f k x0).bind fun t732 => (worldmintref14_Union.l0 k x1 t732 0))
def worldmintref14_Union.l0 : Nat → List (S39) → List (S39) → Int → Option ((List (S39)))
 | 0, _, _, _ => none
 | k + 1, x1, x7, x8 => if x8 < (x1.length : Int) then (if 0 ≤ x8 then ((worldmintref14_insert.f k x7 ((rd_T39 x1 x8).f0) ((rd_T39 x1 x8).f1) ((rd_T39 x1 x8).f2)).bind fun t736 => (worldmintref14_Union.l0 k x1 t736 (wrap64 (x8 + 1)))) else (none)) else (some x7)
end
def worldmintref14_Union.f (k : Nat) (l0 : List (S39)) (l1 : List (S39)) : Option ((List (S39))) := (worldmintref14_Valid.f k l0).bind fun t730 => ((worldmintref14_Valid.f k l1).bind fun t731 => (if t730 = true then (worldmintref14_Union.j0 k l0 l1 (!t731)) else (worldmintref14_Union.j0 k l0 l1 true)))
/-! ### worldmintref14_subtract -/
mutual
def worldmintref14_subtract.l0 : Nat → List (S39) → List (S39) → Int → Int → Int → Int → Option ((List (S39)))
 | 0, _, _, _, _, _, _ => none
 | k + 1, x0, x5, x6, x740000, x740001, x740002 => if x6 < (x0.length : Int) then (if 0 ≤ x6 then (if ((rd_T39 x0 x6).f0) = x740000 then (if (wrap64 (x740001 + x740002)) ≤ ((rd_T39 x0 x6).f1) then (worldmintref14_subtract.j1 k x0 x5 x6 ((rd_T39 x0 x6).f1) (wrap64 (((rd_T39 x0 x6).f1) + ((rd_T39 x0 x6).f2))) true x740000 x740001 x740002) else (worldmintref14_subtract.j1 k x0 x5 x6 ((rd_T39 x0 x6).f1) (wrap64 (((rd_T39 x0 x6).f1) + ((rd_T39 x0 x6).f2))) (decide (x740001 ≥ (wrap64 (((rd_T39 x0 x6).f1) + ((rd_T39 x0 x6).f2))))) x740000 x740001 x740002)) else (worldmintref14_subtract.j1 k x0 x5 x6 ((rd_T39 x0 x6).f1) (wrap64 (((rd_T39 x0 x6).f1) + ((rd_T39 x0 x6).f2))) true x740000 x740001 x740002)) else (none)) else (some x5)
def worldmintref14_subtract.j1 : Nat → List (S39) → List (S39) → Int → Int → Int → Bool → Int → Int → Int → Option ((List (S39)))
 | 0, _, _, _, _, _, _, _, _, _ => none
 | k + 1, x0, x5, x6, x7, x8, x53, x740000, x740001, x740002 => if x53 = true then (if 0 ≤ x6 then (if x6 < (x0.length : Int) then (if x5.length < 5864062014805 then (worldmintref14_subtract.l0 k x0 (x5 ++ [(⟨(rd_T39 x0 x6).f0, (rd_T39 x0 x6).f1, (rd_T39 x0 x6).f2⟩ : S39)]) (wrap64 (x6 + 1)) x740000 x740001 x740002) else (none)) else (none)) else (none)) else (if x740001 > x7 then (if x5.length < 5864062014805 then (worldmintref14_subtract.j2 k x0 (x5 ++ [(⟨x740000, x7, wrap64 (x740001 - x7)⟩ : S39)]) x6 x8 x740000 x740001 x740002) else (none)) else (worldmintref14_subtract.j2 k x0 x5 x6 x8 x740000 x740001 x740002))
def worldmintref14_subtract.j2 : Nat → List (S39) → List (S39) → Int → Int → Int → Int → Int → Option ((List (S39)))
 | 0, _, _, _, _, _, _, _ => none
 | k + 1, x0, x5, x6, x8, x740000, x740001, x740002 => if (wrap64 (x740001 + x740002)) < x8 then (if x5.length < 5864062014805 then (worldmintref14_subtract.l0 k x0 (x5 ++ [(⟨x740000, wrap64 (x740001 + x740002), wrap64 ((wrap64 (x8 - x740001)) - x740002)⟩ : S39)]) (wrap64 (x6 + 1)) x740000 x740001 x740002) else (none)) else (worldmintref14_subtract.l0 k x0 x5 (wrap64 (x6 + 1)) x740000 x740001 x740002)
end
def worldmintref14_subtract.f (k : Nat) (l0 : List (S39)) (a1_0 : Int) (a1_1 : Int) (a1_2 : Int) : Option ((List (S39))) := worldmintref14_subtract.l0 k l0 ([] : List (S39)) 0 a1_0 a1_1 a1_2
/-! ### worldmintref14_Without -/
mutual
def worldmintref14_Without.j0 : Nat → List (S39) → List (S39) → Bool → Option ((List (S39)))
 | 0, _, _, _ => none
 | k + 1, x0, x1, x21 => if x21 = true then (some ([] : List (S39))) else (worldmintref14_Without.l0 k x0 x1 ([] : List (S39)) 0)
def worldmintref14_Without.l0 : Nat → List (S39) → List (S39) → List (S39) → Int → Option ((List (S39)))
 | 0, _, _, _, _ => none
 | k + 1, x0, x1, x7, x8 => if x8 < (x0.length : Int) then (if 0 ≤ x8 then (worldmintref14_Without.l1 k x0 x1 x7 x8 (([(⟨(rd_T39 x0 x8).f0, (rd_T39 x0 x8).f1, (rd_T39 x0 x8).f2⟩ : S39)] : List (S39))) 0) else (none)) else (some x7)
def worldmintref14_Without.l1 : Nat → List (S39) → List (S39) → List (S39) → Int → List (S39) → Int → Option ((List (S39)))
 | 0, _, _, _, _, _, _ => none
 | k + 1, x0, x1, x7, x8, x9, x10 => if x10 < (x1.length : Int) then (if 0 ≤ x10 then ((worldmintref14_subtract.f k x9 ((rd_T39 x1 x10).f0) ((rd_T39 x1 x10).f1) ((rd_T39 x1 x10).f2)).bind fun t761 => (worldmintref14_Without.l1 k x0 x1 x7 x8 t761 (wrap64 (x10 + 1)))) else (none)) else (worldmintref14_Without.l2 k x0 x1 x7 x8 x9 0)
def worldmintref14_Without.l2 : Nat → List (S39) → List (S39) → List (S39) → Int → List (S39) → Int → Option ((List (S39)))
 | 0, _, _, _, _, _, _ => none
 | k + 1, x0, x1, x7, x8, x9, x11 => if x11 < (x9.length : Int) then (if 0 ≤ x11 then ((worldmintref14_Add.f k x7 ((rd_T39 x9 x11).f0) ((rd_T39 x9 x11).f1) ((rd_T39 x9 x11).f2)).bind fun t765 => (worldmintref14_Without.l2 k x0 x1 t765 x8 x9 (wrap64 (x11 + 1)))) else (none)) else (worldmintref14_Without.l0 k x0 x1 x7 (wrap64 (x8 + 1)))
end
def worldmintref14_Without.f (k : Nat) (l0 : List (S39)) (l1 : List (S39)) : Option ((List (S39))) := (worldmintref14_Valid.f k l0).bind fun t754 => ((worldmintref14_Valid.f k l1).bind fun t755 => (if t754 = true then (worldmintref14_Without.j0 k l0 l1 (!t755)) else (worldmintref14_Without.j0 k l0 l1 true)))
/-! ### worldmintref14_Minus -/
def worldmintref14_Minus.f (k : Nat) (l0 : List (S39)) (l1 : List (S39)) : Option ((List (S39))) := (worldmintref14_Set.f k l0).bind fun t768 => ((worldmintref14_Without.f k t768 l1).bind fun t771 => (some t771))
/-! ### worldmintref14_Meet -/
def worldmintref14_Meet.f (k : Nat) (l0 : List (S39)) (l1 : List (S39)) : Option ((List (S39))) := (worldmintref14_Valid.f k l1).bind fun t774 => (if t774 = true then ((worldmintref14_Minus.f k l0 l1).bind fun t775 => ((worldmintref14_Minus.f k l0 t775).bind fun t778 => (some t778))) else (some ([] : List (S39))))
/-! ### worldmintref14_Within -/
def worldmintref14_Within.f (k : Nat) (l0 : List (S39)) (l1 : List (S39)) : Option (Bool) := (worldmintref14_Valid.f k l0).bind fun t781 => ((worldmintref14_Valid.f k l1).bind fun t782 => (if t781 = true then (if t782 = true then ((worldmintref14_Minus.f k l0 l1).bind fun t783 => (some ((t783.length : Int) == 0))) else (some false)) else (some false)))
/-! ### worldmintlaw14_LotsSets -/
mutual
def worldmintlaw14_LotsSets.l0 : Nat → List (List (S39)) → Int → Option (Bool)
 | 0, _, _ => none
 | k + 1, x7, x8 => if x8 < 3 then (if 0 ≤ x8 then (if x8 < (x7.length : Int) then ((lots_Set.f k (rd_L2 x7 x8)).bind fun t799 => ((worldmintref14_Set.f k (rd_L2 x7 x8)).bind fun t803 => ((worldmintref14_Same.f k t799 t803).bind fun t806 => (if t806 = true then (worldmintlaw14_LotsSets.l1 k x7 x8 0) else (some false))))) else (none)) else (none)) else ((worldmintlaw14_lives.f k).bind fun t857 => (some t857))
def worldmintlaw14_LotsSets.l1 : Nat → List (List (S39)) → Int → Int → Option (Bool)
 | 0, _, _, _ => none
 | k + 1, x7, x8, x9 => if x9 < 3 then (if 0 ≤ x8 then (if x8 < (x7.length : Int) then (if 0 ≤ x9 then (if x9 < (x7.length : Int) then ((lots_Union.f k (rd_L2 x7 x8) (rd_L2 x7 x9)).bind fun t809 => ((worldmintref14_Union.f k (rd_L2 x7 x8) (rd_L2 x7 x9)).bind fun t814 => ((worldmintref14_Same.f k t809 t814).bind fun t817 => (if t817 = true then ((lots_Minus.f k (rd_L2 x7 x8) (rd_L2 x7 x9)).bind fun t820 => ((worldmintref14_Minus.f k (rd_L2 x7 x8) (rd_L2 x7 x9)).bind fun t825 => ((worldmintref14_Same.f k t820 t825).bind fun t828 => (if t828 = true then ((lots_Meet.f k (rd_L2 x7 x8) (rd_L2 x7 x9)).bind fun t831 => ((worldmintref14_Meet.f k (rd_L2 x7 x8) (rd_L2 x7 x9)).bind fun t836 => ((worldmintref14_Same.f k t831 t836).bind fun t839 => (worldmintlaw14_LotsSets.j2 k x7 x8 x9 (!t839))))) else (worldmintlaw14_LotsSets.j2 k x7 x8 x9 true))))) else (worldmintlaw14_LotsSets.j2 k x7 x8 x9 true))))) else (none)) else (none)) else (none)) else (none)) else (worldmintlaw14_LotsSets.l0 k x7 (wrap64 (x8 + 1)))
def worldmintlaw14_LotsSets.j2 : Nat → List (List (S39)) → Int → Int → Bool → Option (Bool)
 | 0, _, _, _, _ => none
 | k + 1, x7, x8, x9, x100 => if x100 = true then (some false) else (if 0 ≤ x8 then (if x8 < (x7.length : Int) then (if 0 ≤ x9 then (if x9 < (x7.length : Int) then ((lots_Within.f k (rd_L2 x7 x8) (rd_L2 x7 x9)).bind fun t842 => ((worldmintref14_Within.f k (rd_L2 x7 x8) (rd_L2 x7 x9)).bind fun t845 => (if (t842 != t845) = true then (some false) else ((lots_Without.f k (rd_L2 x7 x8) (rd_L2 x7 x9)).bind fun t848 => ((worldmintref14_Without.f k (rd_L2 x7 x8) (rd_L2 x7 x9)).bind fun t853 => ((worldmintref14_Same.f k t848 t853).bind fun t856 => (if t856 = true then (worldmintlaw14_LotsSets.l1 k x7 x8 (wrap64 (x9 + 1))) else (some false)))))))) else (none)) else (none)) else (none)) else (none))
end
def worldmintlaw14_LotsSets.f (k : Nat) (l0 : List (S39)) (l1 : List Int) (l2 : List Int) : Option (Bool) := (worldmintlaw14_few.f l0).bind fun t786 => ((worldmintref14_Lots.f k l1 0).bind fun t789 => ((worldmintref14_Lots.f k l2 0).bind fun t792 => (worldmintlaw14_LotsSets.l0 k (([t786, t789, t792] : List (List (S39)))) 0)))
/-! ### worldmintref14_Has -/
mutual
def worldmintref14_Has.l0 : Nat → List (S39) → Int → Int → Int → Option (Bool)
 | 0, _, _, _, _ => none
 | k + 1, x0, x1, x2, x7 => if x7 < (x0.length : Int) then (if 0 ≤ x7 then (if ((rd_T39 x0 x7).f0) = x1 then (if ((rd_T39 x0 x7).f1) ≤ x2 then (worldmintref14_Has.j1 k x0 x1 x2 x7 (decide (x2 < (wrap64 (((rd_T39 x0 x7).f1) + ((rd_T39 x0 x7).f2)))))) else (worldmintref14_Has.j1 k x0 x1 x2 x7 false)) else (worldmintref14_Has.j1 k x0 x1 x2 x7 false)) else (none)) else (some false)
def worldmintref14_Has.j1 : Nat → List (S39) → Int → Int → Int → Bool → Option (Bool)
 | 0, _, _, _, _, _ => none
 | k + 1, x0, x1, x2, x7, x44 => if x44 = true then (some true) else (worldmintref14_Has.l0 k x0 x1 x2 (wrap64 (x7 + 1)))
end
def worldmintref14_Has.f (k : Nat) (l0 : List (S39)) (a1 : Int) (a2 : Int) : Option (Bool) := worldmintref14_Has.l0 k l0 a1 a2 0
/-! ### worldmintlaw14_LotsUnits -/
mutual
def worldmintlaw14_LotsUnits.l0 : Nat → List (S39) → List (S39) → List (S39) → List (S39) → List (S39) → List (S39) → List (S39) → Bool → Int → Option (Bool)
 | 0, _, _, _, _, _, _, _, _, _ => none
 | k + 1, x5, x6, x7, x8, x9, x10, x11, x12, x13 => if x13 < 5 then (worldmintlaw14_LotsUnits.l1 k x5 x6 x7 x8 x9 x10 x11 x12 x13 0) else (if x12 = true then ((lots_Total.f k x8).bind fun t893 => ((lots_Total.f k x7).bind fun t894 => ((lots_Set.f k x6).bind fun t895 => ((lots_Total.f k t895).bind fun t898 => ((lots_Total.f k x10).bind fun t899 => (if t893 = (wrap64 ((wrap64 (t894 + t898)) - t899)) then ((lots_Total.f k x7).bind fun t900 => ((lots_Total.f k x9).bind fun t901 => ((lots_Total.f k x10).bind fun t902 => (if t900 = (wrap64 (t901 + t902)) then ((worldmintlaw14_lives.f k).bind fun t903 => (some t903)) else (some false))))) else (some false))))))) else ((lots_Within.f k x5 x6).bind fun t904 => (if t904 = true then (some false) else ((lots_Total.f k x8).bind fun t905 => ((lots_Total.f k x7).bind fun t906 => ((lots_Set.f k x6).bind fun t907 => ((lots_Total.f k t907).bind fun t910 => ((lots_Total.f k x10).bind fun t911 => (if t905 = (wrap64 ((wrap64 (t906 + t910)) - t911)) then ((lots_Total.f k x7).bind fun t912 => ((lots_Total.f k x9).bind fun t913 => ((lots_Total.f k x10).bind fun t914 => (if t912 = (wrap64 (t913 + t914)) then ((worldmintlaw14_lives.f k).bind fun t915 => (some t915)) else (some false))))) else (some false))))))))))
def worldmintlaw14_LotsUnits.l1 : Nat → List (S39) → List (S39) → List (S39) → List (S39) → List (S39) → List (S39) → List (S39) → Bool → Int → Int → Option (Bool)
 | 0, _, _, _, _, _, _, _, _, _, _ => none
 | k + 1, x5, x6, x7, x8, x9, x10, x11, x12, x13, x14 => if x14 < 21 then ((worldmintref14_Has.f k x5 x13 x14).bind fun t883 => ((worldmintref14_Has.f k x6 x13 x14).bind fun t884 => ((worldmintref14_Has.f k x7 x13 x14).bind fun t885 => (if (t885 != t883) = true then (worldmintlaw14_LotsUnits.j2 k x5 x6 x7 x8 x9 x10 x11 x12 x13 x14 t883 t884 true) else ((worldmintref14_Has.f k x8 x13 x14).bind fun t886 => (if t883 = true then (if (t886 != true) = true then (worldmintlaw14_LotsUnits.j2 k x5 x6 x7 x8 x9 x10 x11 x12 x13 x14 t883 t884 true) else ((worldmintref14_Has.f k x9 x13 x14).bind fun t887 => (if (t887 != (!t884)) = true then (worldmintlaw14_LotsUnits.j2 k x5 x6 x7 x8 x9 x10 x11 x12 x13 x14 t883 t884 true) else ((worldmintref14_Has.f k x10 x13 x14).bind fun t888 => (if (t888 != t884) = true then (worldmintlaw14_LotsUnits.j2 k x5 x6 x7 x8 x9 x10 x11 x12 x13 x14 t883 t884 true) else ((worldmintref14_Has.f k x11 x13 x14).bind fun t889 => (worldmintlaw14_LotsUnits.j2 k x5 x6 x7 x8 x9 x10 x11 x12 x13 x14 t883 t884 (t889 != (!t884))))))))) else (if (t886 != t884) = true then (worldmintlaw14_LotsUnits.j2 k x5 x6 x7 x8 x9 x10 x11 x12 x13 x14 t883 t884 true) else ((worldmintref14_Has.f k x9 x13 x14).bind fun t890 => (if (t890 != false) = true then (worldmintlaw14_LotsUnits.j2 k x5 x6 x7 x8 x9 x10 x11 x12 x13 x14 t883 t884 true) else ((worldmintref14_Has.f k x10 x13 x14).bind fun t891 => (if (t891 != false) = true then (worldmintlaw14_LotsUnits.j2 k x5 x6 x7 x8 x9 x10 x11 x12 x13 x14 t883 t884 true) else ((worldmintref14_Has.f k x11 x13 x14).bind fun t892 => (worldmintlaw14_LotsUnits.j2 k x5 x6 x7 x8 x9 x10 x11 x12 x13 x14 t883 t884 (t892 != false)))))))))))))) else (worldmintlaw14_LotsUnits.l0 k x5 x6 x7 x8 x9 x10 x11 x12 (wrap64 (x13 + 1)))
def worldmintlaw14_LotsUnits.j2 : Nat → List (S39) → List (S39) → List (S39) → List (S39) → List (S39) → List (S39) → List (S39) → Bool → Int → Int → Bool → Bool → Bool → Option (Bool)
 | 0, _, _, _, _, _, _, _, _, _, _, _, _, _ => none
 | k + 1, x5, x6, x7, x8, x9, x10, x11, x12, x13, x14, x15, x16, x102 => if x102 = true then (some false) else (if x12 = true then (if x15 = true then (worldmintlaw14_LotsUnits.l1 k x5 x6 x7 x8 x9 x10 x11 x16 x13 (wrap64 (x14 + 1))) else (worldmintlaw14_LotsUnits.l1 k x5 x6 x7 x8 x9 x10 x11 true x13 (wrap64 (x14 + 1)))) else (worldmintlaw14_LotsUnits.l1 k x5 x6 x7 x8 x9 x10 x11 false x13 (wrap64 (x14 + 1))))
end
def worldmintlaw14_LotsUnits.f (k : Nat) (l0 : List Int) (l1 : List Int) : Option (Bool) := (worldmintref14_Lots.f k l0 0).bind fun t862 => ((worldmintref14_Lots.f k l1 0).bind fun t865 => ((lots_Set.f k t862).bind fun t868 => ((lots_Union.f k t862 t865).bind fun t871 => ((lots_Minus.f k t862 t865).bind fun t874 => ((lots_Meet.f k t862 t865).bind fun t877 => ((lots_Without.f k t862 t865).bind fun t880 => (worldmintlaw14_LotsUnits.l0 k t862 t865 t868 t871 t874 t877 t880 true 0)))))))
def worldmintlaw14_LotsUnits.Pure : Prop := ∀ (l0 : List Int) (l1 : List Int), l0.length ≤ maxLen → l0.length * 8 ≤ 140737488351232 → (∀ x ∈ l0, (Lit.int .i64 x).wf = true) → l1.length ≤ maxLen → l1.length * 8 ≤ 140737488351232 → (∀ x ∈ l1, (Lit.int .i64 x).wf = true) → ∃ k, worldmintlaw14_LotsUnits.f k l0 l1 = some true
/-! ### wire_zigzag -/
def wire_zigzag.f (a0 : Int) : Option (Int) := some (Go.bits .xor .u64 (IntKind.u64.wrap ((IntKind.u64.wrap (a0)) * 2)) (IntKind.u64.wrap (a0 / 9223372036854775808)))
def IsS80 (w0 W : World) (g : Nat) (f0 : List Int) (f1 : Int) : Prop := ∃ A0 c0, W.heap[g]? = some (.cells #[.slice A0 f0.length c0, .int .i64 f1] 80 (0, 0)) ∧ w0.heap.size ≤ g ∧ Kd.C (Kd.int .u8) w0 A0 f0.length f0
/-! ### wire_Reader_fail -/
def wire_Reader_fail.f (s0_0 : List Int) (s0_1 : Int) (a1 : Int) : Option (Int) := if s0_1 = 0 then (some a1) else (some s0_1)
/-! ### hash_mix -/
def hash_mix.f (a0 : Int) (a1 : Int) : Option (Int) := some (Go.bits .xor .u64 (IntKind.u64.wrap ((Go.bits .xor .u64 a0 a1) * 11400714819323198485)) ((IntKind.u64.wrap ((Go.bits .xor .u64 a0 a1) * 11400714819323198485)) / 4294967296))
/-! ### wire_Reader_End -/
def wire_Reader_End.f (s0_0 : List Int) (s0_1 : Int) : Option (Int × Int) := if s0_1 = 0 then (if (s0_0.length : Int) > 0 then (some (2, s0_1)) else (some (s0_1, s0_1))) else (some (s0_1, s0_1))
end Go.Proofs.Ytcicjbgfahdejaa.P
