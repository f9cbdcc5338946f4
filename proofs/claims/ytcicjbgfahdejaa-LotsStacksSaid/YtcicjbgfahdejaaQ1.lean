/- This session's own: the plain laws of lots.Valid, Total, Slice and of the reference's, and of the generators. -/
import Derived.Test.YtcicjbgfahdejaaPD
namespace Go.Proofs.Ytcicjbgfahdejaa.P
open Go Go.RowKit Go.Proofs.YtcicjbgfahdejaaW.PrintWords Go.Proofs.YtcicjbgfahdejaaW.PrintLast Go.Proofs.YtcicjbgfahdejaaW.PrintMore
set_option linter.unusedSimpArgs false
set_option linter.unusedVariables false

theorem w64 {x : Int} (h0 : -9223372036854775808 ≤ x) (h1 : x ≤ 9223372036854775807) : wrap64 x = x := by unfold wrap64; omega
theorem w64_1 (i : Nat) (h : i < 4611686018427387904) : wrap64 ((i : Int) + 1) = ((i + 1 : Nat) : Int) := by unfold wrap64; omega
theorem rd39_nat (l : List S39) (i : Nat) (h : i < l.length) : rd_T39 l (i : Int) = l[i] := by
  simp [rd_T39, List.getD_eq_getElem?_getD, h]
theorem drop_cons (l : List S39) (i : Nat) (h : i < l.length) : l.drop i = rd_T39 l (i : Int) :: l.drop (i + 1) := by
  rw [rd39_nat l i h]; exact List.drop_eq_getElem_cons h

def valid (l : List S39) : Bool := decide (l.length ≤ 4096) && l.all possible
theorem lots_Valid_eq (l : List S39) : lots_Valid.f l = some (valid l) := rfl
theorem valid_mem {l : List S39} (h : valid l = true) : l.length ≤ 4096 ∧ ∀ x ∈ l, 0 ≤ x.f0 ∧ 0 ≤ x.f1 ∧ 1 ≤ x.f2 ∧ x.f2 ≤ 1099511627776 ∧ x.f1 ≤ 1099511627776 - x.f2 := by
  unfold valid at h
  simp only [Bool.and_eq_true, decide_eq_true_eq, List.all_eq_true] at h
  refine ⟨h.1, fun x hx => ?_⟩
  have := h.2 x hx
  unfold possible at this
  simpa using this
theorem ref_possible (x : S39) : worldmintref14_possible.f x.f0 x.f1 x.f2 = some (possible x) := by
  unfold worldmintref14_possible.f possible
  split
  · split
    · split
      · split
        · have e : wrap64 (1099511627776 - x.f2) = 1099511627776 - x.f2 := w64 (by omega) (by omega)
          rw [e]
          congr 1
          apply decide_eq_decide.2
          constructor <;> intro h <;> omega
        · congr 1; symm; apply decide_eq_false; omega
      · congr 1; symm; apply decide_eq_false; omega
    · congr 1; symm; apply decide_eq_false; omega
  · congr 1; symm; apply decide_eq_false; omega
theorem ref_Valid_l0 (l : List S39) (hl : l.length < 4611686018427387904) : ∀ (d i k : Nat), i + d = l.length → d < k → worldmintref14_Valid.l0 k l (i : Int) = some ((l.drop i).all possible && decide (l.length ≤ 4096)) := by
  intro d
  induction d with
  | zero =>
    intro i k hi hk
    obtain ⟨k, rfl⟩ : ∃ q, k = q + 1 := ⟨k - 1, by omega⟩
    have e : l.drop i = [] := List.drop_eq_nil_of_le (by omega)
    simp only [worldmintref14_Valid.l0, e, List.all_nil, Bool.true_and]
    rw [if_neg (by omega)]
    congr 1
    apply decide_eq_decide.2
    omega
  | succ d ih =>
    intro i k hi hk
    obtain ⟨k, rfl⟩ : ∃ q, k = q + 1 := ⟨k - 1, by omega⟩
    have hlt : i < l.length := by omega
    simp only [worldmintref14_Valid.l0]
    rw [if_pos (by omega), if_pos (by omega), ref_possible, Option.bind_some, w64_1 i (by omega), ih (i + 1) k (by omega) (by omega), drop_cons l i hlt, List.all_cons]
    cases possible (rd_T39 l (i : Int)) <;> simp
theorem ref_Valid_eq (l : List S39) (k : Nat) (hl : l.length < 4611686018427387904) (hk : l.length < k) : worldmintref14_Valid.f k l = some (valid l) := by
  have := ref_Valid_l0 l hl l.length 0 k (by omega) hk
  unfold worldmintref14_Valid.f
  rw [show ((0 : Nat) : Int) = 0 from rfl] at this
  rw [this, valid, List.drop_zero, Bool.and_comm]
def wfold : Int → List S39 → Int
  | acc, [] => acc
  | acc, x :: xs => wfold (wrap64 (acc + x.f2)) xs
def tot (l : List S39) : Int := if valid l = true then wfold 0 l else 0
theorem lots_Total_l0 (x0 l : List S39) (hl : l.length < 4611686018427387904) : ∀ (d i k : Nat) (acc : Int), i + d = l.length → d < k → lots_Total.l0 k x0 acc l (l.length : Int) (i : Int) = some (if valid x0 = true then wfold acc (l.drop i) else 0) := by
  intro d
  induction d with
  | zero =>
    intro i k acc hi hk
    obtain ⟨k, rfl⟩ : ∃ q, k = q + 1 := ⟨k - 1, by omega⟩
    have e : l.drop i = [] := List.drop_eq_nil_of_le (by omega)
    simp only [lots_Total.l0, e, wfold]
    rw [if_neg (by omega), lots_Valid_eq, Option.bind_some]
    cases valid x0 <;> simp
  | succ d ih =>
    intro i k acc hi hk
    obtain ⟨k, rfl⟩ : ∃ q, k = q + 1 := ⟨k - 1, by omega⟩
    have hlt : i < l.length := by omega
    simp only [lots_Total.l0]
    rw [if_pos (by omega), if_pos (by omega), if_pos (by omega), w64_1 i (by omega), ih (i + 1) k _ (by omega) (by omega), drop_cons l i hlt, wfold]
theorem lots_Total_eq (l : List S39) (k : Nat) (hl : l.length < 4611686018427387904) (hk : l.length < k) : lots_Total.f k l = some (tot l) := by
  have := lots_Total_l0 l l hl l.length 0 k 0 (by omega) hk
  unfold lots_Total.f
  rw [show ((0 : Nat) : Int) = 0 from rfl] at this
  rw [this, tot, List.drop_zero]
theorem ref_Total_l0 (l : List S39) (hl : l.length < 4611686018427387904) : ∀ (d i k : Nat) (acc : Int), i + d = l.length → d < k → worldmintref14_Total.l0 k l acc true (i : Int) = some (wfold acc (l.drop i)) := by
  intro d
  induction d with
  | zero =>
    intro i k acc hi hk
    obtain ⟨k, rfl⟩ : ∃ q, k = q + 1 := ⟨k - 1, by omega⟩
    have e : l.drop i = [] := List.drop_eq_nil_of_le (by omega)
    simp only [worldmintref14_Total.l0, e, wfold]
    rw [if_neg (by omega)]
  | succ d ih =>
    intro i k acc hi hk
    obtain ⟨k, rfl⟩ : ∃ q, k = q + 1 := ⟨k - 1, by omega⟩
    have hlt : i < l.length := by omega
    simp only [worldmintref14_Total.l0]
    rw [if_pos (by omega), if_pos trivial, if_pos (by omega), w64_1 i (by omega), ih (i + 1) k _ (by omega) (by omega), drop_cons l i hlt, wfold]
theorem ref_Total_eq (l : List S39) (k : Nat) (hl : l.length < 4611686018427387904) (hk : l.length < k) : worldmintref14_Total.f k l = some (tot l) := by
  unfold worldmintref14_Total.f
  rw [ref_Valid_eq l k hl hk, Option.bind_some, tot]
  cases hv : valid l with
  | true =>
    have := ref_Total_l0 l hl l.length 0 k 0 (by omega) hk
    rw [show ((0 : Nat) : Int) = 0 from rfl] at this
    rw [this, List.drop_zero]
    simp
  | false =>
    obtain ⟨k, rfl⟩ : ∃ q, k = q + 1 := ⟨k - 1, by omega⟩
    simp only [worldmintref14_Total.l0]
    split <;> simp
theorem wfold_valid : ∀ (l : List S39) (acc : Int) (b : Nat), (∀ x ∈ l, 1 ≤ x.f2 ∧ x.f2 ≤ 1099511627776) → 0 ≤ acc → acc + l.length * 1099511627776 ≤ 4611686018427387904 → wfold acc l = acc + (l.map (·.f2)).sum ∧ acc ≤ wfold acc l ∧ wfold acc l ≤ acc + l.length * 1099511627776
  | [], acc, b, _, h0, _ => by simp [wfold]
  | x :: xs, acc, b, h, h0, h1 => by
    have hx := h x (List.mem_cons_self ..)
    simp only [List.length_cons] at h1
    have e : wrap64 (acc + x.f2) = acc + x.f2 := w64 (by omega) (by omega)
    have := wfold_valid xs (acc + x.f2) b (fun y hy => h y (List.mem_cons_of_mem _ hy)) (by omega) (by omega)
    simp only [wfold, e, List.map_cons, List.sum_cons, List.length_cons]
    omega
theorem tot_range (l : List S39) : 0 ≤ tot l ∧ tot l ≤ 4503599627370496 := by
  unfold tot
  split
  · rename_i h
    obtain ⟨h1, h2⟩ := valid_mem h
    have := wfold_valid l 0 0 (fun x hx => ⟨(h2 x hx).2.2.1, (h2 x hx).2.2.2.1⟩) (by omega) (by omega)
    omega
  · omega
theorem ref_Same_l0 (l : List S39) (hl : l.length < 4611686018427387904) : ∀ (d i k : Nat), i + d = l.length → d < k → worldmintref14_Same.l0 k l l (i : Int) = some true := by
  intro d
  induction d with
  | zero =>
    intro i k hi hk
    obtain ⟨k, rfl⟩ : ∃ q, k = q + 1 := ⟨k - 1, by omega⟩
    simp only [worldmintref14_Same.l0]
    rw [if_neg (by omega)]
  | succ d ih =>
    intro i k hi hk
    obtain ⟨k, rfl⟩ : ∃ q, k = q + 1 := ⟨k - 1, by omega⟩
    simp only [worldmintref14_Same.l0]
    rw [if_pos (by omega), if_pos (by omega), if_pos (by omega), w64_1 i (by omega), ih (i + 1) k (by omega) (by omega)]
    simp
theorem ref_Same_eq (l : List S39) (k : Nat) (hl : l.length < 4611686018427387904) (hk : l.length < k) : worldmintref14_Same.f k l l = some true := by
  have := ref_Same_l0 l hl l.length 0 k (by omega) hk
  unfold worldmintref14_Same.f
  rw [if_pos rfl]
  exact this
/-! ### the generators -/
theorem Around_some (a m : Int) (h0 : 1 ≤ m) (h1 : m ≤ 4611686018427387904) : ∃ t, worldmintref03_Around.f a m = some t ∧ 0 ≤ t ∧ t < m := by
  unfold worldmintref03_Around.f
  rw [if_neg (by omega)]
  have hlt := Int.tmod_lt_of_pos a (show 0 < m by omega)
  have hgt : -m < Int.tmod a m := by
    have := Int.tmod_lt_of_pos (-a) (show 0 < m by omega)
    rw [Int.neg_tmod] at this
    omega
  split
  · exact ⟨_, rfl, by rw [w64 (by omega) (by omega)]; omega, by rw [w64 (by omega) (by omega)]; omega⟩
  · exact ⟨_, rfl, by omega, by omega⟩
theorem Pick_some (l : List Int) (a m : Int) (h0 : 1 ≤ m) (h1 : m ≤ 4611686018427387904) : ∃ t, 0 ≤ t ∧ t < m ∧ ∀ k, 1 ≤ k → worldmintref13_Pick.f k l a m = some t := by
  by_cases ha : a < 0
  · refine ⟨0, by omega, by omega, fun k hk => ?_⟩
    obtain ⟨k, rfl⟩ : ∃ q, k = q + 1 := ⟨k - 1, by omega⟩
    unfold worldmintref13_Pick.f
    rw [if_pos ha]
    simp [worldmintref13_Pick.j0]
  · by_cases hb : a ≥ (l.length : Int)
    · refine ⟨0, by omega, by omega, fun k hk => ?_⟩
      obtain ⟨k, rfl⟩ : ∃ q, k = q + 1 := ⟨k - 1, by omega⟩
      unfold worldmintref13_Pick.f
      rw [if_neg ha, if_pos hb]
      simp [worldmintref13_Pick.j0]
    · obtain ⟨t, ht, ht0, ht1⟩ := Around_some (rd l a) m h0 h1
      refine ⟨t, ht0, ht1, fun k hk => ?_⟩
      obtain ⟨k, rfl⟩ : ∃ q, k = q + 1 := ⟨k - 1, by omega⟩
      unfold worldmintref13_Pick.f
      rw [if_neg ha, if_neg hb, show decide (m < 1) = false from decide_eq_false (by omega)]
      simp only [worldmintref13_Pick.j0]
      rw [if_neg (by decide), if_pos (by omega), if_pos (by omega), ht]
      rfl
theorem Lots_some (l : List Int) (a : Int) : ∃ L : List S39, L.length ≤ 8 ∧ ∀ k, 34 ≤ k → worldmintref14_Lots.f k l a = some L := by
  obtain ⟨t, ht0, ht1, ht⟩ := Pick_some l a 8 (by omega) (by omega)
  have key : ∀ (d i : Nat) (out : List S39), i + d = 8 → out.length = i → ∃ L : List S39, L.length ≤ 8 ∧ ∀ k, 4 * d + 2 ≤ k → worldmintref14_Lots.l0 k l a out (i : Int) = some L := by
    intro d
    induction d with
    | zero =>
      intro i out hi ho
      refine ⟨out, by omega, fun k hk => ?_⟩
      obtain ⟨k, rfl⟩ : ∃ q, k = q + 1 := ⟨k - 1, by omega⟩
      simp only [worldmintref14_Lots.l0]
      rw [ht k (by omega), Option.bind_some, if_neg (by omega)]
    | succ d ih =>
      intro i out hi ho
      by_cases hit : (i : Int) < t
      · obtain ⟨t1, _, _, h1⟩ := Pick_some l (wrap64 ((wrap64 (a + (wrap64 (3 * (i : Int))))) + 1)) 4 (by omega) (by omega)
        obtain ⟨t2, _, _, h2⟩ := Pick_some l (wrap64 ((wrap64 (a + (wrap64 (3 * (i : Int))))) + 2)) 12 (by omega) (by omega)
        obtain ⟨t3, _, _, h3⟩ := Pick_some l (wrap64 ((wrap64 (a + (wrap64 (3 * (i : Int))))) + 3)) 5 (by omega) (by omega)
        obtain ⟨t4, _, _, h4⟩ := Pick_some l (wrap64 ((wrap64 (a + (wrap64 (3 * (i : Int))))) + 3)) 29 (by omega) (by omega)
        obtain ⟨t5, _, _, h5⟩ := Pick_some l (wrap64 ((wrap64 (a + (wrap64 (3 * (i : Int))))) + 2)) 5 (by omega) (by omega)
        have jj : ∀ n : Int, ∃ L : List S39, L.length ≤ 8 ∧ ∀ k, 4 * d + 3 ≤ k → worldmintref14_Lots.j1 k l a out (i : Int) t1 t2 n = some L := by
          intro n
          by_cases hp : (out.length : Int) > 0
          · by_cases h50 : t5 = 0
            · obtain ⟨L, hL, hK⟩ := ih (i + 1) (out ++ [(⟨(rd_T39 out (wrap64 ((out.length : Int) - 1))).f0, mn (wrap64 (((rd_T39 out (wrap64 ((out.length : Int) - 1))).f1) + ((rd_T39 out (wrap64 ((out.length : Int) - 1))).f2))) 549755813888, n⟩ : S39)]) (by omega) (by simp [ho])
              refine ⟨L, hL, fun k hk => ?_⟩
              obtain ⟨k, rfl⟩ : ∃ q, k = q + 1 := ⟨k - 1, by omega⟩
              have e : wrap64 ((out.length : Int) - 1) = (out.length : Int) - 1 := w64 (by omega) (by omega)
              have := hK k (by omega)
              simp only [worldmintref14_Lots.j1]
              rw [if_pos hp, h5 k (by omega), Option.bind_some, if_pos h50, if_pos (by rw [e]; omega), if_pos (by rw [e]; omega), if_pos (by omega), w64_1 i (by omega)]
              exact this
            · obtain ⟨L, hL, hK⟩ := ih (i + 1) (out ++ [(⟨t1, t2, n⟩ : S39)]) (by omega) (by simp [ho])
              refine ⟨L, hL, fun k hk => ?_⟩
              obtain ⟨k, rfl⟩ : ∃ q, k = q + 1 := ⟨k - 1, by omega⟩
              have := hK k (by omega)
              simp only [worldmintref14_Lots.j1]
              rw [if_pos hp, h5 k (by omega), Option.bind_some, if_neg h50, if_pos (by omega), w64_1 i (by omega)]
              exact this
          · obtain ⟨L, hL, hK⟩ := ih (i + 1) (out ++ [(⟨t1, t2, n⟩ : S39)]) (by omega) (by simp [ho])
            refine ⟨L, hL, fun k hk => ?_⟩
            obtain ⟨k, rfl⟩ : ∃ q, k = q + 1 := ⟨k - 1, by omega⟩
            have := hK k (by omega)
            simp only [worldmintref14_Lots.j1]
            rw [if_neg hp, if_pos (by omega), w64_1 i (by omega)]
            exact this
        by_cases h40 : t4 = 0
        · obtain ⟨L, hL, hK⟩ := jj 549755813888
          refine ⟨L, hL, fun k hk => ?_⟩
          obtain ⟨k, rfl⟩ : ∃ q, k = q + 1 := ⟨k - 1, by omega⟩
          have := hK k (by omega)
          simp only [worldmintref14_Lots.l0]
          rw [ht k (by omega), Option.bind_some, if_pos hit, h1 k (by omega), Option.bind_some, h2 k (by omega), Option.bind_some, h3 k (by omega), Option.bind_some, h4 k (by omega), Option.bind_some, if_pos h40]
          exact this
        · obtain ⟨L, hL, hK⟩ := jj (wrap64 (1 + t3))
          refine ⟨L, hL, fun k hk => ?_⟩
          obtain ⟨k, rfl⟩ : ∃ q, k = q + 1 := ⟨k - 1, by omega⟩
          have := hK k (by omega)
          simp only [worldmintref14_Lots.l0]
          rw [ht k (by omega), Option.bind_some, if_pos hit, h1 k (by omega), Option.bind_some, h2 k (by omega), Option.bind_some, h3 k (by omega), Option.bind_some, h4 k (by omega), Option.bind_some, if_neg h40]
          exact this
      · refine ⟨out, by omega, fun k hk => ?_⟩
        obtain ⟨k, rfl⟩ : ∃ q, k = q + 1 := ⟨k - 1, by omega⟩
        simp only [worldmintref14_Lots.l0]
        rw [ht k (by omega), Option.bind_some, if_neg hit]
  obtain ⟨L, hL, hK⟩ := key 8 0 [] (by omega) rfl
  exact ⟨L, hL, fun k hk => hK k (by omega)⟩
theorem few_some (l : List S39) : worldmintlaw14_few.f l = some (l.take 5) := by
  unfold worldmintlaw14_few.f
  have e : (mn (l.length : Int) 5).toNat = min l.length 5 := by unfold mn; split <;> omega
  rw [Option.bind_some, if_pos (by unfold mn; split <;> omega), if_pos (by unfold mn; split <;> omega), Option.bind_some, e]
  rw [if_pos (by simp only [List.length_nil, List.length_take]; omega), List.nil_append]
  congr 1
  rw [Nat.min_comm, ← List.take_take]
  simp
end Go.Proofs.Ytcicjbgfahdejaa.P
