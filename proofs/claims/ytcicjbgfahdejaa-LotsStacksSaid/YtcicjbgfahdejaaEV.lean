/- This session's own: lots.Valid is walked. -/
import Derived.Test.YtcicjbgfahdejaaPx2
namespace Go.Proofs.Ytcicjbgfahdejaa.P
open Go.RowKit Go.Proofs.YtcicjbgfahdejaaW.PrintWords Go.Proofs.YtcicjbgfahdejaaW.PrintLast Go.Proofs.YtcicjbgfahdejaaW.PrintMore
set_option linter.unusedSimpArgs false
set_option linter.unusedVariables false
def possible (x : S39) : Bool := decide (0 ≤ x.f0 ∧ 0 ≤ x.f1 ∧ 1 ≤ x.f2 ∧ x.f2 ≤ 1099511627776 ∧ x.f1 ≤ 1099511627776 - x.f2)
theorem possible_f (x : S39) : lots_possible.f x.f0 x.f1 x.f2 = some (possible x) := by
  unfold lots_possible.f possible
  by_cases h0 : x.f0 ≥ 0
  · rw [if_pos h0]
    by_cases h1 : x.f1 ≥ 0
    · rw [if_pos h1]
      by_cases h2 : x.f2 ≥ 1
      · rw [if_pos h2]
        by_cases h3 : x.f2 ≤ 1099511627776
        · rw [if_pos h3]
          have e : wrap64 (1099511627776 - x.f2) = 1099511627776 - x.f2 := by unfold wrap64; omega
          rw [e]
          congr 1
          rw [decide_eq_decide]
          omega
        · rw [if_neg h3]; congr 1; symm; rw [decide_eq_false_iff_not]; omega
      · rw [if_neg h2]; congr 1; symm; rw [decide_eq_false_iff_not]; omega
    · rw [if_neg h1]; congr 1; symm; rw [decide_eq_false_iff_not]; omega
  · rw [if_neg h0]; congr 1; symm; rw [decide_eq_false_iff_not]; omega

/-- The function value of Valid. -/
theorem Valid1_calls (x : S39) (w : World) :
    Calls Try.prog 55 #[.agg #[.int .i64 x.f0, .int .i64 x.f1, .int .i64 x.f2]] w fun e w' => e = .returned (.bool !(possible x)) ∧ Below w.heap.size w w' := by
  have HC := Aside0.mk (fun W => lots_possible.calls x.f0 x.f1 x.f2 (possible x) W (possible_f x))
  generalize possible x = b at HC ⊢
  go_enter Try.func55, Try.ntmps55
  go_wp2_with (go_at_call 56; refine (HC.out _).mono ?_; rintro e w' ⟨rfl, hb⟩)
  go_ret
  exact ⟨rfl, below_step (below_alloc (Below.refl _ _) _) hb⟩

def idxL : List S39 → Int → Int
  | [], _ => -1
  | x :: t, i => if possible x then idxL t (i + 1) else i
theorem idxL_sign (l : List S39) (i : Int) (hi : 0 ≤ i) : decide (0 ≤ idxL l i) = !(l.all possible) := by
  induction l generalizing i with
  | nil => simp [idxL]
  | cons x t ih =>
    have e : idxL (x :: t) i = if possible x then idxL t (i + 1) else i := rfl
    have e2 : (x :: t).all possible = (possible x && t.all possible) := rfl
    rw [e2]
    by_cases hx : possible x = true
    · rw [if_pos hx] at e
      rw [e, ih _ (by omega), hx]
      rfl
    · rw [if_neg hx] at e
      rw [e, Bool.eq_false_iff.2 hx, decide_eq_true hi]
      rfl
theorem idxL_drop (l : List S39) (k : Nat) (h : k < l.length) (i : Int) : idxL (l.drop k) i = if possible (rd_T39 l (k : Int)) then idxL (l.drop (k + 1)) (i + 1) else i := by
  rw [List.drop_eq_getElem_cons h]
  simp only [idxL, rd_T39, Int.toNat_natCast, List.getD_eq_getElem?_getD, List.getElem?_eq_getElem h, Option.getD_some]

theorem Index_calls (A0 : Option Addr) (c0 : Nat) (l0 : List S39) (w : World) (hr0 : Kd.C k39 w A0 l0.length l0) :
    Calls Try.prog 77 #[.slice A0 l0.length c0, .func (.func 55) #[] #[]] w fun e w' => e = .returned (.int .i64 (idxL l0 0)) ∧ Below w.heap.size w w' := by
  have HR0 := Aside0.mk hr0
  have hlen : l0.length ≤ 9223372036854775807 := hr0.2.1
  clear hr0
  go_enter Try.func77, Try.ntmps77
  go_wp2
  go_loopw [5, 8] (fun v5 i wr => ∃ k : Nat, k ≤ l0.length ∧ i = .int .i64 k ∧ Aside0 (idxL l0 0 = idxL (l0.drop k) k) ∧ Aside0 (Below w.heap.size w wr)) (fun _ i _ => l0.length - (intOf i).toNat)
  case atStart => exact ⟨0, Nat.zero_le _, rfl, ⟨rfl⟩, ⟨Below.refl _ _⟩⟩
  case round =>
    obtain ⟨k, hk, rfl, HI, HB⟩ := hrel
    by_cases hlt : k < l0.length
    · have hb : decide ((k : Int) < (l0.length : Int)) = true := decide_eq_true (by omega)
      have h0 : (0 : Int) ≤ (k : Int) := by omega
      have hi : (k : Int) < (l0.length : Int) := by omega
      obtain ⟨ad, hA, hx0, hx1, hx2⟩ := at_T39 HR0.out (k : Int) h0 hi
      cases hA
      have hx0 := (HB.out.cell (World.block_lt_of_cell? w _ hx0)).trans hx0
      have hx1 := (HB.out.cell (World.block_lt_of_cell? w _ hx1)).trans hx1
      have hx2 := (HB.out.cell (World.block_lt_of_cell? w _ hx2)).trans hx2
      simp only [Int.toNat_natCast] at hx0 hx1 hx2
      have HD := Aside0.mk (idxL_drop l0 k hlt k)
      cases hp : possible (rd_T39 l0 (k : Int)) with
      | true =>
        have HP := Aside0.mk hp
        clear hp
        go_wp2_with (go_at_call 55; refine (Valid1_calls (rd_T39 l0 (k : Int)) _).mono ?_; rw [HP.out]; rintro e w' ⟨rfl, hb⟩; have HB2 := Aside0.mk (below_step HB.out hb); clear hb)
        go_roundw
        case rel => exact ⟨k + 1, by omega, by go_num, ⟨by rw [HI.out, HD.out, if_pos HP.out]; rfl⟩, HB2⟩
        case measure => simp [intOf]; omega
      | false =>
        have HP := Aside0.mk hp
        clear hp
        go_wp2_with (go_at_call 55; refine (Valid1_calls (rd_T39 l0 (k : Int)) _).mono ?_; rw [HP.out]; rintro e w' ⟨rfl, hb⟩; have HB2 := Aside0.mk (below_step HB.out hb); clear hb)
        go_ret
        exact ⟨by rw [HI.out, HD.out, if_neg (by rw [HP.out]; decide)]; rfl, HB2.out⟩
    · have hb : decide ((k : Int) < (l0.length : Int)) = false := decide_eq_false (by omega)
      have HE : Aside0 (idxL l0 0 = -1) := ⟨by rw [HI.out, List.drop_of_length_le (by omega)]; rfl⟩
      go_wp2
      go_ret
      exact ⟨by rw [HE.out]; rfl, HB.out⟩

theorem Contains_calls (A0 : Option Addr) (c0 : Nat) (l0 : List S39) (w : World) (hr0 : Kd.C k39 w A0 l0.length l0) :
    Calls Try.prog 54 #[.slice A0 l0.length c0, .func (.func 55) #[] #[]] w fun e w' => e = .returned (.bool !(l0.all possible)) ∧ Below w.heap.size w w' := by
  have HI := Aside0.mk (Index_calls A0 c0 l0 w hr0)
  have HS := Aside0.mk (idxL_sign l0 0 (by omega))
  clear hr0
  generalize idxL l0 0 = i at HI HS
  go_enter Try.func54, Try.ntmps54
  go_wp2_with (go_at_call 77; refine HI.out.mono ?_; rintro e w' ⟨rfl, hb⟩)
  go_ret
  exact ⟨by rw [← HS.out]; rfl, hb⟩

def lots_Valid.f (l : List S39) : Option Bool := some (decide (l.length ≤ 4096) && l.all possible)
theorem lots_Valid.calls (A0 : Option Addr) (c0 : Nat) (l0 : List (S39)) (r : Bool) (w : World) (hr0 : Kd.C k39 w A0 l0.length l0) (hc0 : l0.length ≤ c0) (h : lots_Valid.f l0 = some r) :
    Calls Try.prog 22 #[.slice A0 l0.length c0] w fun e w' => e = .returned (.bool r) ∧ Below w.heap.size w w' := by
  have HC := Aside0.mk (Contains_calls A0 c0 l0 w hr0)
  obtain rfl := Option.some.inj h
  clear h hr0
  generalize l0.all possible = b at HC ⊢
  by_cases h : l0.length ≤ 4096
  · have hb : decide (l0.length ≤ 4096) = true := decide_eq_true h
    rw [hb]
    go_enter Try.func22, Try.ntmps22
    go_wp2_with (go_at_call 54; refine HC.out.mono ?_; rintro e w' ⟨rfl, hb⟩)
    go_ret
    exact ⟨by simp, by assumption⟩
  · have hb : decide (l0.length ≤ 4096) = false := decide_eq_false h
    rw [hb]
    go_enter Try.func22, Try.ntmps22
    go_wp2_with fail
    go_ret
    exact ⟨by simp, Below.refl _ _⟩
end Go.Proofs.Ytcicjbgfahdejaa.P
