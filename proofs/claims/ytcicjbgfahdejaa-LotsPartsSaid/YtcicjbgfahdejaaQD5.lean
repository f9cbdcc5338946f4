/- This session's own: lots.Take and the reference's Take compute the same (at most 19 lots). -/
import Derived.Test.YtcicjbgfahdejaaQD4
import Derived.Test.YtcicjbgfahdejaaQ2
namespace Go.Proofs.Ytcicjbgfahdejaa.P
open Go Go.RowKit Go.Proofs.YtcicjbgfahdejaaW.PrintWords Go.Proofs.YtcicjbgfahdejaaW.PrintLast Go.Proofs.YtcicjbgfahdejaaW.PrintMore
set_option linter.unusedSimpArgs false
set_option linter.unusedVariables false
def greedy : Int → List Int → List Int
  | _, [] => []
  | n, w :: ws => mn n w :: greedy (n - mn n w) ws
theorem greedy_len : ∀ (ws : List Int) (n : Int), (greedy n ws).length = ws.length
  | [], _ => rfl
  | w :: ws, n => by simp [greedy, greedy_len ws]
def wts (l : List S39) : List Int := l.map (·.f2)
theorem lots_counts_l1 : ∀ (d i k : Nat) (n : Int) (a : List Int) (b : List Int), a.length = i → b.length = d → i + d < 1000 → (∀ w ∈ b, 1 ≤ w ∧ w ≤ 1099511627776) → 0 ≤ n → n ≤ 1099511627776 → d < k →
    lots_counts.l1 k n (a ++ b) ((i + d : Nat) : Int) (i : Int) = some (a ++ greedy n b) := by
  intro d
  induction d with
  | zero =>
    intro i k n a b ha hb hi hw h0 h1 hk
    obtain ⟨k, rfl⟩ : ∃ q, k = q + 1 := ⟨k - 1, by omega⟩
    obtain rfl : b = [] := List.eq_nil_of_length_eq_zero hb
    simp only [lots_counts.l1]
    rw [if_neg (by omega)]
    rfl
  | succ d ih =>
    intro i k n a b ha hb hi hw h0 h1 hk
    obtain ⟨k, rfl⟩ : ∃ q, k = q + 1 := ⟨k - 1, by omega⟩
    obtain ⟨w, b, rfl⟩ : ∃ w b', b = w :: b' := by
      cases b with
      | nil => simp at hb
      | cons w b' => exact ⟨w, b', rfl⟩
    have hwx := hw w (List.mem_cons_self ..)
    simp only [List.length_cons] at hb
    have e1 : rd (a ++ w :: b) (i : Int) = w := by
      rw [rd_nat _ i (by simp; omega), List.getElem_append_right (by omega)]
      simp [ha]
    have e2 : (a ++ w :: b).set i (mn n w) = (a ++ [mn n w]) ++ b := by
      rw [List.set_append_right _ _ (by omega), ha, Nat.sub_self]
      simp
    have e3 : rd ((a ++ [mn n w]) ++ b) (i : Int) = mn n w := by
      rw [rd_nat _ i (by simp; omega), List.getElem_append_left (by simp; omega), List.getElem_append_right (by omega)]
      simp [ha]
    have hm := mn_c n w
    simp only [lots_counts.l1]
    rw [if_pos (by omega), if_pos (by omega), if_pos (by simp; omega), Option.bind_some, e1, Int.toNat_natCast, e2, e3, w64 (by omega) (by omega), w64_1 i (by omega)]
    have := ih (i + 1) k (n - mn n w) (a ++ [mn n w]) b (by simp [ha]) (by omega) (by omega) (fun x hx => hw x (List.mem_cons_of_mem _ hx)) (by omega) (by omega) (by omega)
    rw [show i + 1 + d = i + (d + 1) by omega] at this
    rw [this]
    simp [greedy]
theorem lots_counts_l0 (l : List S39) (n : Int) (mixed : Bool) (hl : l.length < 1000) : ∀ (d i : Nat), i + d = l.length → ∀ k, lots_counts.l0 (k + d + 1) n mixed ((wts l).take i) l (l.length : Int) (i : Int) = lots_counts.j1 k n (wts l) (mixed && decide (n > 0)) := by
  have lw : (wts l).length = l.length := by simp [wts]
  intro d
  induction d with
  | zero =>
    intro i hi k
    simp only [lots_counts.l0]
    rw [if_neg (by omega), List.take_of_length_le (by omega)]
    cases mixed <;> simp
  | succ d ih =>
    intro i hi k
    have hlt : i < l.length := by omega
    rw [show k + (d + 1) + 1 = (k + d + 1) + 1 by omega]
    generalize hK : k + d + 1 = K
    simp only [lots_counts.l0]
    have e : (wts l).take i ++ [(rd_T39 l (i : Int)).f2] = (wts l).take (i + 1) := by
      rw [List.take_succ_eq_append_getElem (by omega), rd39_nat l i hlt]
      simp [wts]
    rw [if_pos (by omega), if_pos (by omega), if_pos (by omega), if_pos (by simp; omega), w64_1 i (by omega), e, ← hK]
    exact ih (i + 1) (by omega) k
theorem ref_counts_l0 (l : List S39) (n : Int) (mixed : Bool) (hl : l.length < 1000) (hv : ∀ x ∈ l, okX x) : ∀ (d i : Nat) (left : Int) (out : List Int), i + d = l.length → out.length = i → 0 ≤ left → left ≤ 1099511627776 → ∀ k,
    worldmintref14_Counts.l0 (k + d + 1) l n mixed ((wts l).take i) out left (i : Int) = if (mixed && decide (n > 0)) = true then (worldmintref03_Split.f k n (wts l)).bind fun bt => some bt.1 else some (out ++ greedy left ((wts l).drop i)) := by
  have lw : (wts l).length = l.length := by simp [wts]
  intro d
  induction d with
  | zero =>
    intro i left out hi ho h0 h1 k
    simp only [worldmintref14_Counts.l0]
    have e1 : (wts l).drop i = [] := List.drop_eq_nil_of_le (by omega)
    rw [if_neg (by omega), List.take_of_length_le (by omega), e1]
    by_cases hn : n > 0
    · cases mixed <;> simp [greedy, hn]
    · cases mixed <;> simp [greedy, hn]
  | succ d ih =>
    intro i left out hi ho h0 h1 k
    have hlt : i < l.length := by omega
    have hx := hv _ (List.getElem_mem hlt)
    rw [show k + (d + 1) + 1 = (k + d + 1) + 1 by omega]
    generalize hK : k + d + 1 = K
    simp only [worldmintref14_Counts.l0]
    have e0 : (wts l)[i]'(by omega) = (rd_T39 l (i : Int)).f2 := by rw [rd39_nat l i hlt]; simp [wts]
    have e : (wts l).take i ++ [(rd_T39 l (i : Int)).f2] = (wts l).take (i + 1) := by
      rw [List.take_succ_eq_append_getElem (by omega), e0]
    have e1 : (wts l).drop i = (rd_T39 l (i : Int)).f2 :: (wts l).drop (i + 1) := by rw [List.drop_eq_getElem_cons (by omega), e0]
    rw [← rd39_nat l i hlt] at hx
    obtain ⟨_, _, x2, x3, _⟩ := hx
    have hm := mn_c left (rd_T39 l (i : Int)).f2
    rw [if_pos (by omega), if_pos (by omega), if_pos (by simp; omega), if_pos (by omega), w64_1 i (by omega), e, ← hK, w64 (by omega) (by omega), ih (i + 1) _ _ (by omega) (by simp [ho]) (by omega) (by omega) k, e1]
    simp [greedy]
theorem inc_fold_len : ∀ (t : List Int) (out : List Int), (t.foldl inc1 out).length = out.length
  | [], _ => rfl
  | x :: t, out => by rw [List.foldl_cons, inc_fold_len t, inc1_len]
theorem splitL_len (n : Int) (ws : List Int) {m : Nat} (s : Array (Fin (m + 1))) : (splitL n ws s).length = ws.length := by
  unfold splitL; rw [inc_fold_len]; simp [qsL]
theorem counts_eq (l : List S39) (n : Int) (mixed : Bool) (hl : l.length < 20) (hv : ∀ x ∈ l, okX x) (hn0 : 0 ≤ n) (hn1 : n ≤ 1099511627776) (hs : n ≤ (wts l).sum) :
    ∃ c : List Int, c.length = l.length ∧ (∀ k, 200 ≤ k → lots_counts.f k l n mixed = some c) ∧ (∀ k, 1100 ≤ k → worldmintref14_Counts.f k l n mixed = some c) := by
  have lw : (wts l).length = l.length := by simp [wts]
  have hw : ∀ w ∈ wts l, 1 ≤ w ∧ w ≤ 1099511627776 := by
    intro w h
    obtain ⟨x, hx, rfl⟩ := List.mem_map.1 h
    exact ⟨(hv x hx).2.2.1, (hv x hx).2.2.2.1⟩
  have P0 := lots_counts_l0 l n mixed (by omega) l.length 0 (by omega)
  have R0 := ref_counts_l0 l n mixed (by omega) hv l.length 0 n [] (by omega) rfl hn0 hn1
  simp only [List.take_zero, List.drop_zero, List.nil_append] at P0 R0
  rw [show ((0 : Nat) : Int) = 0 from rfl] at P0 R0
  cases hb : (mixed && decide (n > 0)) with
  | false =>
    refine ⟨greedy n (wts l), by rw [greedy_len, lw], fun k hk => ?_, fun k hk => ?_⟩
    · obtain ⟨k, rfl⟩ : ∃ q, k = (q + 1) + l.length + 1 := ⟨k - l.length - 2, by omega⟩
      unfold lots_counts.f
      rw [P0 (k + 1), hb]
      simp only [lots_counts.j1]
      rw [if_neg (by decide)]
      have := lots_counts_l1 (wts l).length 0 k n [] (wts l) rfl rfl (by omega) hw hn0 hn1 (by omega)
      rw [Nat.zero_add] at this
      exact this
    · obtain ⟨k, rfl⟩ : ∃ q, k = q + l.length + 1 := ⟨k - l.length - 1, by omega⟩
      unfold worldmintref14_Counts.f
      rw [R0 k, hb, if_neg (by decide)]
  | true =>
    have hn : 0 < n := by
      cases mixed
      · simp at hb
      · simpa using hb
    obtain ⟨m, hm⟩ : ∃ m, (wts l).length = m + 1 := by
      cases h : wts l with
      | nil => rw [h] at hs; simp at hs; omega
      | cons a b => exact ⟨b.length, rfl⟩
    obtain ⟨s, _, h1, h2⟩ := Split_eq n (wts l) (fun w h => ⟨by have := (hw w h).1; omega, (hw w h).2⟩) hn0 hn1 m hm (by omega) (by omega)
    refine ⟨splitL n (wts l) s, by rw [splitL_len, lw], fun k hk => ?_, fun k hk => ?_⟩
    · obtain ⟨k, rfl⟩ : ∃ q, k = (q + 1) + l.length + 1 := ⟨k - l.length - 2, by omega⟩
      unfold lots_counts.f
      rw [P0 (k + 1), hb]
      simp only [lots_counts.j1]
      rw [if_pos trivial, h1 k (by omega), Option.bind_some]
    · obtain ⟨k, rfl⟩ : ∃ q, k = q + l.length + 1 := ⟨k - l.length - 1, by omega⟩
      unfold worldmintref14_Counts.f
      rw [R0 k, hb, if_pos rfl, h2 k (by omega), Option.bind_some]
/-! ### Take -/
def sm (out : List S39) (p : S39) : List S39 := if p.f2 = 0 then out else jn out p
theorem some_sm (out : List S39) (a b c : Int) (h : out.length < 5864062014805) : lots_some.f out a b c = some (sm out ⟨a, b, c⟩) ∧ (sm out ⟨a, b, c⟩).length ≤ out.length + 1 := by
  unfold lots_some.f sm
  by_cases hz : c = 0
  · rw [if_pos hz, if_pos hz]; exact ⟨rfl, by omega⟩
  · obtain ⟨h1, h2⟩ := join_len out ⟨a, b, c⟩ h
    rw [if_neg hz, if_neg hz]
    exact ⟨by rw [h1]; rfl, h2⟩
theorem Add_sm (out : List S39) (a b c : Int) (k : Nat) (hk : 1 ≤ k) (h : out.length < 5864062014805) : worldmintref14_Add.f k out a b c = some (sm out ⟨a, b, c⟩) := by
  unfold sm
  by_cases hz : c = 0
  · rw [if_pos hz]
    unfold worldmintref14_Add.f
    rw [List.nil_append, if_pos (by simpa using h), Option.bind_some, if_pos hz]
  · rw [if_neg hz]
    exact ref_Add out ⟨a, b, c⟩ k hk h hz
def tk : List S39 → List Int → List S39 → List S39 → List S39 × List S39
  | x :: xs, c :: cs, a, b => tk xs cs (sm a ⟨x.f0, x.f1, c⟩) (sm b ⟨x.f0, wrap64 (x.f1 + c), wrap64 (x.f2 - c)⟩)
  | _, _, a, b => (a, b)
theorem tk_len : ∀ (l : List S39) (c : List Int) (a b : List S39), a.length + l.length < 5864062014805 → b.length + l.length < 5864062014805 → (tk l c a b).1.length ≤ a.length + l.length ∧ (tk l c a b).2.length ≤ b.length + l.length
  | [], c, a, b, _, _ => by simp [tk]
  | x :: xs, [], a, b, _, _ => by simp [tk]
  | x :: xs, c :: cs, a, b, h1, h2 => by
    simp only [List.length_cons] at h1 h2
    have s1 := (some_sm a x.f0 x.f1 c (by omega)).2
    have s2 := (some_sm b x.f0 (wrap64 (x.f1 + c)) (wrap64 (x.f2 - c)) (by omega)).2
    have := tk_len xs cs (sm a ⟨x.f0, x.f1, c⟩) (sm b ⟨x.f0, wrap64 (x.f1 + c), wrap64 (x.f2 - c)⟩) (by omega) (by omega)
    simp only [tk, List.length_cons]
    omega
theorem lots_Take_l0 (l : List S39) (c : List Int) (hc : c.length = l.length) (hl : l.length ≤ 4096) : ∀ (d i : Nat) (a b : List S39), i + d = l.length → a.length ≤ i → b.length ≤ i → ∀ k,
    lots_Take.l0 (k + d + 1) l a b c (c.length : Int) (i : Int) = some ((tk (l.drop i) (c.drop i) a b).1, (tk (l.drop i) (c.drop i) a b).2, 0) := by
  intro d
  induction d with
  | zero =>
    intro i a b hi ha hb k
    simp only [lots_Take.l0]
    have e1 : l.drop i = [] := List.drop_eq_nil_of_le (by omega)
    rw [if_neg (by omega), e1]
    simp [tk]
  | succ d ih =>
    intro i a b hi ha hb k
    have hlt : i < l.length := by omega
    rw [show k + (d + 1) + 1 = (k + d + 1) + 1 by omega]
    generalize hK : k + d + 1 = K
    simp only [lots_Take.l0]
    rw [if_pos (by omega), if_pos (by omega), if_pos (by omega), if_pos (by omega)]
    simp only [lots_cut.f, Option.bind_some]
    obtain ⟨s1, s1l⟩ := some_sm a (rd_T39 l (i : Int)).f0 (rd_T39 l (i : Int)).f1 (rd c (i : Int)) (by omega)
    obtain ⟨s2, s2l⟩ := some_sm b (rd_T39 l (i : Int)).f0 (wrap64 ((rd_T39 l (i : Int)).f1 + rd c (i : Int))) (wrap64 ((rd_T39 l (i : Int)).f2 - rd c (i : Int))) (by omega)
    rw [s1, Option.bind_some, s2, Option.bind_some, w64_1 i (by omega), ← hK, ih (i + 1) (sm a ⟨(rd_T39 l (i : Int)).f0, (rd_T39 l (i : Int)).f1, rd c (i : Int)⟩) (sm b ⟨(rd_T39 l (i : Int)).f0, wrap64 ((rd_T39 l (i : Int)).f1 + rd c (i : Int)), wrap64 ((rd_T39 l (i : Int)).f2 - rd c (i : Int))⟩) (by omega) (by omega) (by omega) k]
    rw [drop_cons l i hlt, List.drop_eq_getElem_cons (show i < c.length by omega), ← rd_nat c i (by omega)]
    rfl
theorem ref_Take_l0 (l : List S39) (c : List Int) (hc : c.length = l.length) (hl : l.length ≤ 4096) : ∀ (d i : Nat) (a b : List S39), i + d = l.length → a.length ≤ i → b.length ≤ i → ∀ k, 1 ≤ k →
    worldmintref14_Take.l0 (k + d + 1) l c a b (i : Int) = some ((tk (l.drop i) (c.drop i) a b).1, (tk (l.drop i) (c.drop i) a b).2, 0) := by
  intro d
  induction d with
  | zero =>
    intro i a b hi ha hb k hk
    simp only [worldmintref14_Take.l0]
    have e1 : l.drop i = [] := List.drop_eq_nil_of_le (by omega)
    rw [if_neg (by omega), e1]
    simp [tk]
  | succ d ih =>
    intro i a b hi ha hb k hk
    have hlt : i < l.length := by omega
    rw [show k + (d + 1) + 1 = (k + d + 1) + 1 by omega]
    generalize hK : k + d + 1 = K
    simp only [worldmintref14_Take.l0]
    rw [if_pos (by omega), if_pos (by omega), if_pos (by omega)]
    obtain ⟨s1, s1l⟩ := some_sm a (rd_T39 l (i : Int)).f0 (rd_T39 l (i : Int)).f1 (rd c (i : Int)) (by omega)
    obtain ⟨s2, s2l⟩ := some_sm b (rd_T39 l (i : Int)).f0 (wrap64 ((rd_T39 l (i : Int)).f1 + rd c (i : Int))) (wrap64 ((rd_T39 l (i : Int)).f2 - rd c (i : Int))) (by omega)
    rw [Add_sm _ _ _ _ K (by omega) (by omega), Option.bind_some, Add_sm _ _ _ _ K (by omega) (by omega), Option.bind_some, w64_1 i (by omega), ← hK, ih (i + 1) (sm a ⟨(rd_T39 l (i : Int)).f0, (rd_T39 l (i : Int)).f1, rd c (i : Int)⟩) (sm b ⟨(rd_T39 l (i : Int)).f0, wrap64 ((rd_T39 l (i : Int)).f1 + rd c (i : Int)), wrap64 ((rd_T39 l (i : Int)).f2 - rd c (i : Int))⟩) (by omega) (by omega) (by omega) k hk]
    rw [drop_cons l i hlt, List.drop_eq_getElem_cons (show i < c.length by omega), ← rd_nat c i (by omega)]
    rfl
theorem tot_valid (l : List S39) (h : valid l = true) : tot l = (wts l).sum := by
  obtain ⟨h1, h2⟩ := valid_mem h
  have := wfold_valid l 0 0 (fun x hx => ⟨(h2 x hx).2.2.1, (h2 x hx).2.2.2.1⟩) (by omega) (by omega)
  unfold tot wts
  rw [if_pos h]
  omega
/-- Take, the program's and the reference's. -/
theorem Take_eq (l : List S39) (n : Int) (mixed : Bool) (hl : l.length < 20) : ∃ T : List S39 × List S39 × Int, (∀ k, 250 ≤ k → lots_Take.f k l n mixed = some T) ∧ (∀ k, 1200 ≤ k → worldmintref14_Take.f k l n mixed = some T) ∧ T.1.length ≤ l.length ∧ T.2.1.length ≤ l.length ∧
    (valid l = true → 0 ≤ n → n ≤ 1099511627776 → n ≤ tot l → T.2.2 = 0 ∧ ∃ c : List Int, c.length = l.length ∧ (∀ k, 200 ≤ k → lots_counts.f k l n mixed = some c) ∧ (T.1, T.2.1) = tk l c [] []) := by
  have hlr : l.length < 4611686018427387904 := by omega
  by_cases hcond : valid l = true ∧ 0 ≤ n ∧ n ≤ 1099511627776
  · obtain ⟨hv, hn0, hn1⟩ := hcond
    obtain ⟨hv1, hv2⟩ := valid_mem hv
    by_cases ht : tot l < n
    · refine ⟨([], [], 10), fun k hk => ?_, fun k hk => ?_, by simp, by simp, fun _ _ _ h => by omega⟩
      · obtain ⟨k, rfl⟩ : ∃ q, k = q + 1 := ⟨k - 1, by omega⟩
        unfold lots_Take.f
        rw [lots_Valid_eq, Option.bind_some, if_pos hv, if_neg (by omega), decide_eq_false (by omega)]
        simp only [lots_Take.j0]
        rw [if_neg (by decide), lots_Total_eq l k hlr (by omega), Option.bind_some, if_pos ht]
      · obtain ⟨k, rfl⟩ : ∃ q, k = q + 1 := ⟨k - 1, by omega⟩
        unfold worldmintref14_Take.f
        rw [ref_Valid_eq l _ hlr (by omega), Option.bind_some, if_pos hv, if_neg (by omega), decide_eq_false (by omega)]
        simp only [worldmintref14_Take.j0]
        rw [if_neg (by decide), ref_Total_eq l k hlr (by omega), Option.bind_some, if_pos ht]
    · obtain ⟨c, hc, c1, c2⟩ := counts_eq l n mixed hl (fun x hx => hv2 x hx) hn0 hn1 (by rw [← tot_valid l hv]; omega)
      have hlen := tk_len l c [] [] (by simp; omega) (by simp; omega)
      refine ⟨((tk l c [] []).1, (tk l c [] []).2, 0), fun k hk => ?_, fun k hk => ?_, by simpa using hlen.1, by simpa using hlen.2, fun _ _ _ _ => ⟨rfl, c, hc, c1, rfl⟩⟩
      · obtain ⟨k, rfl⟩ : ∃ q, k = (q + l.length + 1) + 1 := ⟨k - l.length - 2, by omega⟩
        unfold lots_Take.f
        rw [lots_Valid_eq, Option.bind_some, if_pos hv, if_neg (by omega), decide_eq_false (by omega)]
        have t0 := lots_Take_l0 l c hc hv1 l.length 0 [] [] (by omega) (by simp) (by simp) k
        generalize hK : k + l.length + 1 = K at *
        simp only [lots_Take.j0]
        rw [if_neg (by decide), lots_Total_eq l K hlr (by omega), Option.bind_some, if_neg ht, c1 K (by omega), Option.bind_some]
        exact t0
      · obtain ⟨k, rfl⟩ : ∃ q, k = (q + l.length + 1) + 1 := ⟨k - l.length - 2, by omega⟩
        unfold worldmintref14_Take.f
        rw [ref_Valid_eq l _ hlr (by omega), Option.bind_some, if_pos hv, if_neg (by omega), decide_eq_false (by omega)]
        have t0 := ref_Take_l0 l c hc hv1 l.length 0 [] [] (by omega) (by simp) (by simp) k (by omega)
        generalize hK : k + l.length + 1 = K at *
        simp only [worldmintref14_Take.j0]
        rw [if_neg (by decide), ref_Total_eq l K hlr (by omega), Option.bind_some, if_neg ht, c2 K (by omega), Option.bind_some]
        exact t0
  · refine ⟨([], [], 1), fun k hk => ?_, fun k hk => ?_, by simp, by simp, fun h1 h2 h3 => absurd ⟨h1, h2, h3⟩ hcond⟩
    · obtain ⟨k, rfl⟩ : ∃ q, k = q + 1 := ⟨k - 1, by omega⟩
      unfold lots_Take.f
      rw [lots_Valid_eq, Option.bind_some]
      by_cases hv : valid l = true
      · rw [if_pos hv]
        by_cases hn : n < 0
        · rw [if_pos hn]; rfl
        · rw [if_neg hn, decide_eq_true (by
            by_cases h : n > 1099511627776
            · exact h
            · exact absurd ⟨hv, by omega, by omega⟩ hcond)]
          rfl
      · rw [if_neg hv]; rfl
    · obtain ⟨k, rfl⟩ : ∃ q, k = q + 1 := ⟨k - 1, by omega⟩
      unfold worldmintref14_Take.f
      rw [ref_Valid_eq l _ hlr (by omega), Option.bind_some]
      by_cases hv : valid l = true
      · rw [if_pos hv]
        by_cases hn : n < 0
        · rw [if_pos hn]; rfl
        · rw [if_neg hn, decide_eq_true (by
            by_cases h : n > 1099511627776
            · exact h
            · exact absurd ⟨hv, by omega, by omega⟩ hcond)]
          rfl
      · rw [if_neg hv]; rfl
end Go.Proofs.Ytcicjbgfahdejaa.P
