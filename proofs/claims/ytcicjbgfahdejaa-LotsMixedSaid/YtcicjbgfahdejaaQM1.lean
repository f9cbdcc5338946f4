/- This session's own: what counts gives: each number lies in its lot, their sum is the number; by shares, each is the quota rounded down or up. -/
import Derived.Test.YtcicjbgfahdejaaQD5
import Derived.Test.YtcicjbgfahdejaaQS7
namespace Go.Proofs.Ytcicjbgfahdejaa.P
open Go Go.RowKit Go.Sort Go.Proofs.YtcicjbgfahdejaaW.PrintWords Go.Proofs.YtcicjbgfahdejaaW.PrintLast Go.Proofs.YtcicjbgfahdejaaW.PrintMore
set_option linter.unusedSimpArgs false
set_option linter.unusedVariables false
theorem sum_set : ∀ (r : List Int) (i : Nat) (v : Int), i < r.length → (r.set i v).sum = r.sum - r.getD i 0 + v
  | [], i, v, h => by simp at h
  | x :: r, 0, v, _ => by simp; omega
  | x :: r, i + 1, v, h => by
    have := sum_set r i v (by simpa using h)
    simp only [List.set_cons_succ, List.sum_cons, List.getD_cons_succ]
    omega
theorem getD_nonneg {out : List Int} (h : ∀ y ∈ out, 0 ≤ y) (j : Nat) : 0 ≤ out.getD j 0 := by
  rw [List.getD_eq_getElem?_getD]
  cases e : out[j]? with
  | none => simp
  | some y => exact h y (List.mem_of_getElem? e)
theorem getD_le {out : List Int} {B : Int} (hB : 0 ≤ B) (h : ∀ y ∈ out, y ≤ B) (j : Nat) : out.getD j 0 ≤ B := by
  rw [List.getD_eq_getElem?_getD]
  cases e : out[j]? with
  | none => simpa using hB
  | some y => exact h y (List.mem_of_getElem? e)
theorem inc1_at (out : List Int) (i : Nat) (hi : i < out.length) (B : Int) (h0 : ∀ y ∈ out, 0 ≤ y ∧ y ≤ B) (hB0 : 0 ≤ B) (hB : B ≤ 4611686018427387904) : inc1 out (i : Int) = out.set i (out.getD i 0 + 1) ∧ ∀ y ∈ inc1 out (i : Int), 0 ≤ y ∧ y ≤ B + 1 := by
  have g1 := getD_nonneg (fun y hy => (h0 y hy).1) i
  have g2 := getD_le hB0 (fun y hy => (h0 y hy).2) i
  have e : inc1 out (i : Int) = out.set i (out.getD i 0 + 1) := by
    unfold inc1
    rw [rd_getD, Int.toNat_natCast, w64 (by omega) (by omega)]
  refine ⟨e, fun y hy => ?_⟩
  rw [e] at hy
  rcases List.mem_or_eq_of_mem_set hy with h | h
  · have := h0 y h; omega
  · omega
theorem fold_inc : ∀ (t : List Nat) (out : List Int) (B : Int), (∀ x ∈ t, x < out.length) → (∀ y ∈ out, 0 ≤ y ∧ y ≤ B) → 0 ≤ B → B + t.length ≤ 4611686018427387904 →
    ((t.map fun x : Nat => (x : Int)).foldl inc1 out).sum = out.sum + t.length ∧ ∀ j, j < out.length → ((t.map fun x : Nat => (x : Int)).foldl inc1 out).getD j 0 = out.getD j 0 + t.count j
  | [], out, B, _, _, _, _ => by simp
  | x :: t, out, B, h, h0, hB0, hB => by
    simp only [List.length_cons] at hB
    have hx := h x (List.mem_cons_self ..)
    obtain ⟨e, g⟩ := inc1_at out x hx B h0 hB0 (by omega)
    have hl : (inc1 out (x : Int)).length = out.length := inc1_len _ _
    obtain ⟨r1, r2⟩ := fold_inc t (inc1 out (x : Int)) (B + 1) (fun y hy => by rw [hl]; exact h y (List.mem_cons_of_mem _ hy)) g (by omega) (by omega)
    rw [List.map_cons, List.foldl_cons]
    refine ⟨?_, fun j hj => ?_⟩
    · rw [r1, e, sum_set _ _ _ hx, List.length_cons]
      omega
    · rw [r2 j (by omega), e, getD_set _ _ _ _ hx, List.count_cons]
      by_cases c : x = j
      · subst c; simp; omega
      · rw [if_neg c]
        simp [c]
theorem zsum : ∀ (ids : List Nat) (r : List Int) (B : Int), (∀ j, j < r.length → j ∉ ids → r.getD j 0 ≤ 0) → (∀ y ∈ r, y ≤ B) → 0 ≤ B → r.sum ≤ ids.length * B
  | [], r, B, h, _, _ => by
    have : ∀ r : List Int, (∀ j, j < r.length → r.getD j 0 ≤ 0) → r.sum ≤ 0 := by
      intro r
      induction r with
      | nil => simp
      | cons x r ih =>
        intro h
        have h1 := h 0 (by simp)
        have h2 := ih (fun j hj => by have := h (j + 1) (by simp; omega); simpa using this)
        simp only [List.getD_cons_zero] at h1
        rw [List.sum_cons]
        omega
    have := this r (fun j hj => h j hj (by simp))
    simpa using this
  | i :: ids, r, B, h, hB, h0 => by
    by_cases hi : i < r.length
    · have hs := sum_set r i 0 hi
      have hg := getD_le h0 hB i
      have ih := zsum ids (r.set i 0) B (fun j hj hn => by
        rw [List.length_set] at hj
        rw [getD_set _ _ _ _ hi]
        by_cases e : i = j
        · rw [if_pos e]; omega
        · rw [if_neg e]
          exact h j hj (by simp [hn]; exact fun e' => e e'.symm)) (fun y hy => by
        rcases List.mem_or_eq_of_mem_set hy with g | g
        · exact hB y g
        · omega) h0
      rw [List.length_cons, show ((ids.length + 1 : Nat) : Int) = (ids.length : Int) + 1 by omega, Int.add_mul, Int.one_mul]
      omega
    · have ih := zsum ids r B (fun j hj hn => h j hj (by simp [hn]; omega)) hB h0
      rw [List.length_cons, show ((ids.length + 1 : Nat) : Int) = (ids.length : Int) + 1 by omega, Int.add_mul, Int.one_mul]
      omega
def natsOf {m : Nat} (s : Array (Fin (m + 1))) : List Nat := s.toList.map fun i => i.1
theorem intsOf_nats {m : Nat} (s : Array (Fin (m + 1))) : intsOf s = (natsOf s).map fun x : Nat => (x : Int) := by simp [intsOf, natsOf]
/-- Each share is the quota rounded down, or up if it is not whole; together they are the number. -/
theorem splitL_prop (n : Int) (ws : List Int) (hw : ∀ w ∈ ws, 0 ≤ w ∧ w ≤ 1099511627776) (hn0 : 0 ≤ n) (hn1 : n ≤ 1099511627776) (m : Nat) (hm : ws.length = m + 1) (hlen : ws.length < 20) (hpos : 1 ≤ ws.sum) (hle : ∀ w ∈ ws, w ≤ ws.sum) (s : Array (Fin (m + 1))) (hs : Ranked m (rsL n ws.sum ws) s) :
    (splitL n ws s).sum = n ∧ ∀ j (hj : j < ws.length), (splitL n ws s).getD j 0 = n * ws[j] / ws.sum ∨ ((splitL n ws s).getD j 0 = n * ws[j] / ws.sum + 1 ∧ 0 < n * ws[j] % ws.sum) := by
  have lq : (qsL n ws.sum ws).length = m + 1 := by simp [qsL, hm]
  have lr : (rsL n ws.sum ws).length = m + 1 := by simp [rsL, hm]
  obtain ⟨t1, t2, t3⟩ := sums n ws.sum hpos ws
  generalize hS : ws.sum = S at *
  have hQ : ∀ y ∈ qsL n S ws, 0 ≤ y ∧ y ≤ 1099511627776 := fun y hy => by
    obtain ⟨w, hw1, rfl⟩ := List.mem_map.1 hy
    have := div_small hn0 hn1 (hw w hw1).1 (hw w hw1).2 (hle w hw1) hpos
    omega
  have hR : ∀ y ∈ rsL n S ws, 0 ≤ y ∧ y ≤ S - 1 := fun y hy => by
    obtain ⟨w, hw1, rfl⟩ := List.mem_map.1 hy
    have := div_small hn0 hn1 (hw w hw1).1 (hw w hw1).2 (hle w hw1) hpos
    omega
  generalize hQs : (qsL n S ws).sum = Q at *
  have e : S * (n - Q) = (rsL n S ws).sum := by
    rw [Int.mul_sub, Int.mul_comm S n]; omega
  have hL0 : 0 ≤ n - Q := by
    have u3 : S * 0 ≤ S * (n - Q) := by rw [e, Int.mul_zero]; exact t2
    exact Int.le_of_mul_le_mul_left u3 (by omega)
  have hLm : n - Q ≤ m := by
    rw [hm] at t3
    have u : S * (n - Q) < S * (m + 1 : Int) := by
      rw [e]
      have : ((m + 1 : Nat) : Int) * (S - 1) < S * (m + 1 : Int) := by
        rw [show ((m + 1 : Nat) : Int) = (m : Int) + 1 by omega, Int.mul_sub, Int.mul_one, Int.mul_comm]
        omega
      omega
    have u2 := Int.lt_of_mul_lt_mul_left u (by omega)
    omega
  obtain ⟨L, hL⟩ : ∃ L : Nat, n - Q = (L : Int) := ⟨(n - Q).toNat, by omega⟩
  have lN : (natsOf s).length = m + 1 := by simp [natsOf, hs.sz]
  have hNat : ∀ i (hi : i < m + 1), (natsOf s)[i]'(by omega) = (s[i]! : Nat) := fun i hi => by
    simp only [natsOf, List.getElem_map, Array.getElem_toList]
    rw [getElem!_pos s i (by rw [hs.sz]; exact hi)]
  have hsp : splitL n ws s = (((natsOf s).take L).map fun x : Nat => (x : Int)).foldl inc1 (qsL n S ws) := by
    unfold splitL
    rw [hS, hQs, hL, Int.toNat_natCast, intsOf_nats, List.map_take]
  have hmemlt : ∀ x ∈ (natsOf s).take L, x < (qsL n S ws).length := fun x hx => by
    obtain ⟨i, _, rfl⟩ := List.mem_map.1 (List.mem_of_mem_take hx)
    have := i.isLt
    omega
  have ltk : ((natsOf s).take L).length = L := by rw [List.length_take]; omega
  obtain ⟨f1, f2⟩ := fold_inc ((natsOf s).take L) (qsL n S ws) 1099511627776 hmemlt hQ (by omega) (by rw [ltk]; omega)
  refine ⟨by rw [hsp, f1, ltk, hQs]; omega, fun j hj => ?_⟩
  have hq : (qsL n S ws).getD j 0 = n * ws[j] / S := by simp [qsL, List.getD_eq_getElem?_getD, hj]
  have hr : (rsL n S ws).getD j 0 = n * ws[j] % S := by simp [rsL, List.getD_eq_getElem?_getD, hj]
  rw [hsp, f2 j (by omega), hq]
  have hnd : ((natsOf s).take L).Nodup := by
    refine List.Nodup.sublist (List.take_sublist _ _) (List.pairwise_iff_getElem.2 (fun i i' hi hi' hii => ?_))
    rw [hNat i (by omega), hNat i' (by omega)]
    have := hs.ord i i' hii (by omega)
    intro he
    simp only [Sort.ltI, decide_eq_true_eq, Fin.lt_def, he] at this
    omega
  by_cases hc : j ∈ (natsOf s).take L
  · right
    have h1 : ((natsOf s).take L).count j = 1 := by
      rw [hnd.count, if_pos hc]
    refine ⟨by rw [h1]; omega, ?_⟩
    rw [← hr]
    obtain ⟨t, ht, hjt⟩ := List.getElem_of_mem hc
    rw [ltk] at ht
    rw [List.getElem_take, hNat t (by omega)] at hjt
    refine Classical.byContradiction (fun hneg => ?_)
    have hz : (rsL n S ws).sum ≤ ((natsOf s).take t).length * (S - 1) := by
      refine zsum _ _ _ (fun i hi hin => ?_) (fun y hy => (hR y hy).2) (by omega)
      obtain ⟨i', hi', hie⟩ := hs.all ⟨i, by omega⟩
      have hie' : (s[i']! : Nat) = i := by rw [hie]
      have hge : t ≤ i' := by
        refine Classical.byContradiction (fun hlt => hin ?_)
        have : (natsOf s)[i']'(by omega) ∈ (natsOf s).take t := by
          rw [List.mem_take_iff_getElem]
          exact ⟨i', by omega, rfl⟩
        rw [hNat i' hi', hie'] at this
        exact this
      by_cases he : t = i'
      · subst he
        rw [← hie', hjt]
        omega
      · have := hs.ord t i' (by omega) hi'
        simp only [Sort.ltI, decide_eq_true_eq, hie', hjt] at this
        omega
    rw [List.length_take, Nat.min_eq_left (by omega), ← e, hL] at hz
    have h2 : (t : Int) * (S - 1) ≤ ((L : Int) - 1) * (S - 1) := Int.mul_le_mul_of_nonneg_right (by omega) (by omega)
    have h3 : ((L : Int) - 1) * (S - 1) = S * L - L - S + 1 := by
      rw [Int.sub_mul, Int.mul_sub, Int.mul_comm S]
      omega
    omega
  · left
    have h0 : ((natsOf s).take L).count j = 0 := List.count_eq_zero.2 hc
    rw [h0]
    omega
theorem greedy_prop : ∀ (ws : List Int) (n : Int), (∀ w ∈ ws, 1 ≤ w) → 0 ≤ n → n ≤ ws.sum → (greedy n ws).sum = n ∧ ∀ j (hj : j < ws.length), 0 ≤ (greedy n ws).getD j 0 ∧ (greedy n ws).getD j 0 ≤ ws[j]
  | [], n, _, h0, h1 => by simp [greedy] at *; omega
  | w :: ws, n, hw, h0, h1 => by
    have hwx := hw w (List.mem_cons_self ..)
    have hm := mn_c n w
    rw [List.sum_cons] at h1
    have hs : ∀ l : List Int, (∀ w ∈ l, 1 ≤ w) → 0 ≤ l.sum := fun l => by
      induction l with
      | nil => simp
      | cons x l ih => intro h; have := ih (fun y hy => h y (List.mem_cons_of_mem _ hy)); have := h x (List.mem_cons_self ..); rw [List.sum_cons]; omega
    have := hs ws (fun y hy => hw y (List.mem_cons_of_mem _ hy))
    obtain ⟨r1, r2⟩ := greedy_prop ws (n - mn n w) (fun y hy => hw y (List.mem_cons_of_mem _ hy)) (by omega) (by omega)
    refine ⟨by simp only [greedy, List.sum_cons]; omega, fun j hj => ?_⟩
    cases j with
    | zero => simp only [greedy, List.getD_cons_zero, List.getElem_cons_zero]; omega
    | succ j =>
      simp only [greedy, List.getD_cons_succ, List.getElem_cons_succ]
      exact r2 j (by simpa using hj)
theorem sum_le_of (ws : List Int) (h : ∀ w ∈ ws, 0 ≤ w) : 0 ≤ ws.sum ∧ ∀ w ∈ ws, w ≤ ws.sum := by
  induction ws with
  | nil => simp
  | cons x ws ih =>
    have hx := h x (List.mem_cons_self ..)
    obtain ⟨h1, h2⟩ := ih (fun y hy => h y (List.mem_cons_of_mem _ hy))
    rw [List.sum_cons]
    refine ⟨by omega, fun w hw => ?_⟩
    rcases List.mem_cons.1 hw with e | e
    · omega
    · have := h2 w e; omega
/-- counts: each number lies in its lot, and they are n together; shares are quotas, rounded. -/
theorem counts_spec (l : List S39) (n : Int) (mixed : Bool) (hl : l.length < 20) (hv : ∀ x ∈ l, okX x) (hn0 : 0 ≤ n) (hn1 : n ≤ 1099511627776) (hs : n ≤ (wts l).sum) (c : List Int) (hc : ∀ k, 200 ≤ k → lots_counts.f k l n mixed = some c) :
    c.sum = n ∧ (∀ j (hj : j < l.length), 0 ≤ c.getD j 0 ∧ c.getD j 0 ≤ l[j].f2) ∧ (mixed = true → ∀ j (hj : j < l.length), c.getD j 0 = n * l[j].f2 / (wts l).sum ∨ (c.getD j 0 = n * l[j].f2 / (wts l).sum + 1 ∧ 0 < n * l[j].f2 % (wts l).sum)) := by
  have lw : (wts l).length = l.length := by simp [wts]
  have hw : ∀ w ∈ wts l, 1 ≤ w ∧ w ≤ 1099511627776 := by
    intro w h
    obtain ⟨x, hx, rfl⟩ := List.mem_map.1 h
    exact ⟨(hv x hx).2.2.1, (hv x hx).2.2.2.1⟩
  have hj' : ∀ j (hj : j < l.length), (wts l)[j]'(by omega) = l[j].f2 := fun j hj => by simp [wts]
  have P0 := lots_counts_l0 l n mixed (by omega) l.length 0 (by omega) 300
  simp only [List.take_zero] at P0
  rw [show ((0 : Nat) : Int) = 0 from rfl] at P0
  have hck := hc (300 + l.length + 1) (by omega)
  unfold lots_counts.f at hck
  rw [P0] at hck
  cases hb : (mixed && decide (n > 0)) with
  | false =>
    rw [hb] at hck
    simp only [lots_counts.j1] at hck
    rw [if_neg (by decide)] at hck
    have h1 := lots_counts_l1 (wts l).length 0 299 n [] (wts l) rfl rfl (by omega) hw hn0 hn1 (by omega)
    rw [Nat.zero_add, List.nil_append, List.nil_append] at h1
    have e : c = greedy n (wts l) := (Option.some.inj (h1.symm.trans hck)).symm
    obtain ⟨g1, g2⟩ := greedy_prop (wts l) n (fun w h => (hw w h).1) hn0 hs
    rw [e]
    refine ⟨g1, fun j hj => by have := g2 j (by omega); rw [hj' j hj] at this; exact this, fun hmx j hj => ?_⟩
    have hn : n = 0 := by
      rw [hmx] at hb
      simp at hb
      omega
    have hz : ∀ (ws : List Int), (∀ w ∈ ws, 1 ≤ w) → ∀ j, (greedy 0 ws).getD j 0 = 0 := fun ws => by
      induction ws with
      | nil => intro _ j; simp [greedy]
      | cons w ws ih =>
        intro h j
        have := h w (List.mem_cons_self ..)
        have hm : mn 0 w = 0 := by unfold mn; rw [if_neg (by omega)]
        cases j with
        | zero => simp [greedy, hm]
        | succ j => simp only [greedy, hm, List.getD_cons_succ]; exact ih (fun y hy => h y (List.mem_cons_of_mem _ hy)) j
    left
    rw [hn, hz _ (fun w h => (hw w h).1), Int.zero_mul, Int.zero_ediv]
  | true =>
    have hn : 0 < n := by
      cases mixed
      · simp at hb
      · simpa using hb
    obtain ⟨m, hm⟩ : ∃ m, (wts l).length = m + 1 := by
      cases h : wts l with
      | nil => rw [h] at hs; simp at hs; omega
      | cons a b => exact ⟨b.length, rfl⟩
    obtain ⟨s, hs1, h1, h2⟩ := Split_eq n (wts l) (fun w h => ⟨by have := (hw w h).1; omega, (hw w h).2⟩) hn0 hn1 m hm (by omega) (by omega)
    rw [hb] at hck
    simp only [lots_counts.j1] at hck
    rw [if_pos trivial, h1 299 (by omega), Option.bind_some] at hck
    have e : c = splitL n (wts l) s := (Option.some.inj hck).symm
    have hsl := sum_le_of (wts l) (fun w h => by have := (hw w h).1; omega)
    obtain ⟨g1, g2⟩ := splitL_prop n (wts l) (fun w h => ⟨by have := (hw w h).1; omega, (hw w h).2⟩) hn0 hn1 m hm (by omega) (by omega) hsl.2 s hs1
    rw [e]
    refine ⟨g1, fun j hj => ?_, fun _ j hj => by have := g2 j (by omega); rw [hj' j hj] at this; exact this⟩
    have hg := g2 j (by omega)
    rw [hj' j hj] at hg
    have hx := hv l[j] (List.getElem_mem hj)
    unfold okX at hx
    generalize l[j].f2 = w at *
    generalize (wts l).sum = S at *
    have hd := Int.mul_ediv_add_emod (n * w) S
    have hnw : n * w ≤ S * w := Int.mul_le_mul_of_nonneg_right hs (by omega)
    have h0 : 0 ≤ n * w / S := Int.ediv_nonneg (Int.mul_nonneg hn0 (by omega)) (by omega)
    rcases hg with g | ⟨g, gr⟩
    · rw [g]
      refine ⟨h0, ?_⟩
      have : n * w / S < w + 1 := Int.ediv_lt_of_lt_mul (by omega) (by rw [Int.add_mul, Int.one_mul, Int.mul_comm w S]; omega)
      omega
    · rw [g]
      refine ⟨by omega, ?_⟩
      have : S * (n * w / S) < S * w := by omega
      have := Int.lt_of_mul_lt_mul_left this (by omega)
      omega
end Go.Proofs.Ytcicjbgfahdejaa.P
