/- This session's own: the reference's Set, Union, subtract and Without, plainly. -/
import Derived.Test.YtcicjbgfahdejaaQS4
import Derived.Test.YtcicjbgfahdejaaQ2
namespace Go.Proofs.Ytcicjbgfahdejaa.P
open Go Go.RowKit Go.Sort Go.Proofs.YtcicjbgfahdejaaW.PrintWords Go.Proofs.YtcicjbgfahdejaaW.PrintLast Go.Proofs.YtcicjbgfahdejaaW.PrintMore
set_option linter.unusedSimpArgs false
set_option linter.unusedVariables false
/-- A set: in normal form, of possible lots. -/
structure Good1 (l : List S39) : Prop where
  nf : NF l
  ok : okS l
  fl : fl l
theorem fl_cons {x : S39} {l : List S39} (h : fl (x :: l)) : x.f0 ≤ 9223372036854775807 ∧ fl l := ⟨h x (List.mem_cons_self ..), fun y hy => h y (List.mem_cons_of_mem _ hy)⟩
theorem Good1.nil : Good1 [] := ⟨NF.nil, okS.nil, fun x hx => by simp at hx⟩
theorem ref_Set_l0 (l : List S39) (hk : okS l) (hf : fl l) (hl : l.length ≤ 100000) : ∀ (d i : Nat) (s : List S39), i + d = l.length → Good1 s → s.length ≤ i → ∃ r, Good1 r ∧ (∀ f j, U r f j ↔ U s f j ∨ U (l.drop i) f j) ∧ r.length ≤ l.length ∧ ∀ k, worldmintref14_Set.l0 (k + 2 * l.length + 2 + d) l s true (i : Int) = some r := by
  intro d
  induction d with
  | zero =>
    intro i s hi hs hsl
    have e : l.drop i = [] := List.drop_eq_nil_of_le (by omega)
    refine ⟨s, hs, fun f j => by rw [e]; simp [U_nil], by omega, fun k => ?_⟩
    rw [show k + 2 * l.length + 2 + 0 = (k + 2 * l.length + 1) + 1 by omega]
    generalize k + 2 * l.length + 1 = K
    simp only [worldmintref14_Set.l0]
    rw [if_neg (by omega)]
  | succ d ih =>
    intro i s hi hs hsl
    have hlt : i < l.length := by omega
    have hd : l.drop i = l[i] :: l.drop (i + 1) := List.drop_eq_getElem_cons hlt
    have hx := hk.ok _ (List.getElem_mem hlt)
    have hfx := hf _ (List.getElem_mem hlt)
    have hrd := rd39_nat l i hlt
    obtain ⟨s', a1, a2, a3, a4, a5, a6⟩ := ref_insert_eq s l[i] hs.nf hs.ok (by omega) hx
    obtain ⟨r, h1, h2, h3, h4⟩ := ih (i + 1) s' (by omega) ⟨a1, a2, a5 hs.fl hfx⟩ (by omega)
    refine ⟨r, h1, fun f j => by rw [h2, a3, hd, U_cons, or_assoc], h3, fun k => ?_⟩
    have := h4 k
    rw [show k + 2 * l.length + 2 + (d + 1) = (k + 2 * l.length + 2 + d) + 1 by omega]
    generalize hK : k + 2 * l.length + 2 + d = K at *
    simp only [worldmintref14_Set.l0]
    rw [if_pos (by omega), if_pos trivial, if_pos (by omega), hrd, a6 K (by omega), Option.bind_some, w64_1 i (by omega)]
    exact this
theorem ref_Set_eq (l : List S39) (hv : valid l = true) (hf : fl l) : ∃ r, Good1 r ∧ (∀ f j, U r f j ↔ U l f j) ∧ r.length ≤ l.length ∧ ∀ k, 3 * l.length + 2 ≤ k → worldmintref14_Set.f k l = some r := by
  obtain ⟨h1, h2⟩ := (okS_valid l).1 hv
  obtain ⟨r, a1, a2, a3, a4⟩ := ref_Set_l0 l h2 hf (by omega) l.length 0 [] (by omega) Good1.nil (by simp)
  refine ⟨r, a1, fun f j => by rw [a2, List.drop_zero]; simp [U_nil], a3, fun k hk => ?_⟩
  obtain ⟨k, rfl⟩ : ∃ q, k = q + 2 * l.length + 2 + l.length := ⟨k - 3 * l.length - 2, by omega⟩
  have := a4 k
  unfold worldmintref14_Set.f
  rw [ref_Valid_eq l _ (by omega) (by omega), Option.bind_some, hv]
  exact this
theorem ref_Set_not (l : List S39) (hl : l.length < 4611686018427387904) (hv : valid l = false) (k : Nat) (hk : l.length < k) : worldmintref14_Set.f k l = some [] := by
  obtain ⟨k, rfl⟩ : ∃ q, k = q + 1 := ⟨k - 1, by omega⟩
  unfold worldmintref14_Set.f
  rw [ref_Valid_eq l _ hl (by omega), Option.bind_some, hv]
  simp only [worldmintref14_Set.l0]
  split
  · rw [if_neg (by decide)]
  · rfl
theorem ref_Union_l0 (l : List S39) (hk : okS l) (hf : fl l) (hl : l.length ≤ 100000) (N : Nat) : ∀ (d i : Nat) (s : List S39), i + d = l.length → Good1 s → s.length ≤ N + i → N ≤ 100000 → ∃ r, Good1 r ∧ (∀ f j, U r f j ↔ U s f j ∨ U (l.drop i) f j) ∧ r.length ≤ N + l.length ∧ ∀ k, worldmintref14_Union.l0 (k + 2 * (N + l.length) + 2 + d) l s (i : Int) = some r := by
  intro d
  induction d with
  | zero =>
    intro i s hi hs hsl hN
    have e : l.drop i = [] := List.drop_eq_nil_of_le (by omega)
    refine ⟨s, hs, fun f j => by rw [e]; simp [U_nil], by omega, fun k => ?_⟩
    rw [show k + 2 * (N + l.length) + 2 + 0 = (k + 2 * (N + l.length) + 1) + 1 by omega]
    generalize k + 2 * (N + l.length) + 1 = K
    simp only [worldmintref14_Union.l0]
    rw [if_neg (by omega)]
  | succ d ih =>
    intro i s hi hs hsl hN
    have hlt : i < l.length := by omega
    have hd : l.drop i = l[i] :: l.drop (i + 1) := List.drop_eq_getElem_cons hlt
    have hx := hk.ok _ (List.getElem_mem hlt)
    have hfx := hf _ (List.getElem_mem hlt)
    have hrd := rd39_nat l i hlt
    obtain ⟨s', a1, a2, a3, a4, a5, a6⟩ := ref_insert_eq s l[i] hs.nf hs.ok (by omega) hx
    obtain ⟨r, h1, h2, h3, h4⟩ := ih (i + 1) s' (by omega) ⟨a1, a2, a5 hs.fl hfx⟩ (by omega) hN
    refine ⟨r, h1, fun f j => by rw [h2, a3, hd, U_cons, or_assoc], h3, fun k => ?_⟩
    have := h4 k
    rw [show k + 2 * (N + l.length) + 2 + (d + 1) = (k + 2 * (N + l.length) + 2 + d) + 1 by omega]
    generalize hK : k + 2 * (N + l.length) + 2 + d = K at *
    simp only [worldmintref14_Union.l0]
    rw [if_pos (by omega), if_pos (by omega), hrd, a6 K (by omega), Option.bind_some, w64_1 i (by omega)]
    exact this
/-! ### subtract -/
def sub1 (z y : S39) : List S39 :=
  if y.f0 ≠ z.f0 ∨ z.f1 + z.f2 ≤ y.f1 ∨ z.f1 ≥ y.f1 + y.f2 then [y]
  else (if z.f1 > y.f1 then [⟨z.f0, y.f1, z.f1 - y.f1⟩] else []) ++ (if z.f1 + z.f2 < y.f1 + y.f2 then [⟨z.f0, z.f1 + z.f2, y.f1 + y.f2 - z.f1 - z.f2⟩] else [])
theorem U_opt (c : Prop) [Decidable c] (x : S39) (f i : Int) : U (if c then [x] else []) f i ↔ c ∧ In x f i := by
  split
  · rename_i h; rw [U_single]; simp [h]
  · rename_i h; simp [h, U_nil]
theorem sub1_ok (z y : S39) (hy : 1 ≤ y.f2) (hz : 1 ≤ z.f2) : NF (sub1 z y) ∧ (∀ w ∈ sub1 z y, part y w) ∧ (∀ f i, U (sub1 z y) f i ↔ In y f i ∧ ¬ In z f i) ∧ (sub1 z y).length ≤ 2 ∧ ((sub1 z y).length = 2 → z.f0 = y.f0 ∧ z.f1 + z.f2 < y.f1 + y.f2) := by
  unfold sub1
  by_cases h : y.f0 ≠ z.f0 ∨ z.f1 + z.f2 ≤ y.f1 ∨ z.f1 ≥ y.f1 + y.f2
  · rw [if_pos h]
    refine ⟨NF.single hy, fun w hw => ?_, fun f i => ?_, by simp, by simp⟩
    · rw [List.mem_singleton] at hw
      subst hw
      exact ⟨rfl, Int.le_refl _, Int.le_refl _⟩
    · rw [U_single]
      unfold In
      omega
  · rw [if_neg h]
    refine ⟨NF.append ?_ ?_ (fun a ha b hb => ?_), fun w hw => ?_, fun f i => ?_, ?_, ?_⟩
    · split
      · exact NF.single (by simp only; omega)
      · exact NF.nil
    · split
      · exact NF.single (by simp only; omega)
      · exact NF.nil
    · split at ha
      · split at hb
        · rw [List.mem_singleton] at ha hb
          subst ha hb
          exact .inr ⟨rfl, by simp only; omega⟩
        · simp at hb
      · simp at ha
    · rcases List.mem_append.1 hw with e | e
      · split at e
        · rw [List.mem_singleton] at e
          subst e
          refine ⟨?_, ?_, ?_⟩ <;> (first | (simp only; omega) | simp only [Int.le_refl])
        · simp at e
      · split at e
        · rw [List.mem_singleton] at e
          subst e
          refine ⟨?_, ?_, ?_⟩ <;> (first | (simp only; omega) | simp only [Int.le_refl])
        · simp at e
    · rw [U_append, U_opt, U_opt]
      unfold In
      simp only
      omega
    · split <;> split <;> simp
    · split <;> split <;> simp <;> omega
theorem ref_subtract_l0 (s : List S39) (z : S39) (hk : okS s) (hz : ok1 z) (hl : s.length < 1000000) : ∀ (d i : Nat) (out : List S39), i + d = s.length → out.length ≤ 2 * i → ∀ k, worldmintref14_subtract.l0 (k + 3 * d + 1) s out (i : Int) z.f0 z.f1 z.f2 = some (out ++ (s.drop i).flatMap (sub1 z)) := by
  intro d
  induction d with
  | zero =>
    intro i out hi ho k
    have e : s.drop i = [] := List.drop_eq_nil_of_le (by omega)
    simp only [worldmintref14_subtract.l0]
    rw [if_neg (by omega), e]
    simp
  | succ d ih =>
    intro i out hi ho k
    have hlt : i < s.length := by omega
    have hd : s.drop i = s[i] :: s.drop (i + 1) := List.drop_eq_getElem_cons hlt
    have hy := hk.ok _ (List.getElem_mem hlt)
    have hrd := rd39_nat s i hlt
    have hz' := hz
    unfold ok1 at hz'
    generalize s[i] = y at *
    have e1 : wrap64 (y.f1 + y.f2) = y.f1 + y.f2 := w64 (by omega) (by omega)
    have e2 : wrap64 (z.f1 + z.f2) = z.f1 + z.f2 := w64 (by omega) (by omega)
    rw [hd, List.flatMap_cons, ← List.append_assoc]
    have I := fun o ho => ih (i + 1) o (by omega) ho k
    -- the parts behind a cut
    have J2 : ∀ o : List S39, o.length ≤ 2 * i + 1 → worldmintref14_subtract.j2 (k + 3 * d + 1 + 1) s o (i : Int) (y.f1 + y.f2) z.f0 z.f1 z.f2 = some (o ++ (if z.f1 + z.f2 < y.f1 + y.f2 then [⟨z.f0, z.f1 + z.f2, y.f1 + y.f2 - z.f1 - z.f2⟩] else []) ++ (s.drop (i + 1)).flatMap (sub1 z)) := by
      intro o ho'
      generalize hK : k + 3 * d + 1 = K at *
      simp only [worldmintref14_subtract.j2]
      rw [e2]
      split
      · rw [if_pos (by omega), w64_1 i (by omega), w64 (x := y.f1 + y.f2 - z.f1) (by omega) (by omega), w64 (by omega) (by omega)]
        exact I _ (by simp; omega)
      · rw [w64_1 i (by omega), List.append_nil]
        exact I _ (by omega)
    have J1 : ∀ b : Bool, (b = true ↔ (y.f0 ≠ z.f0 ∨ z.f1 + z.f2 ≤ y.f1 ∨ z.f1 ≥ y.f1 + y.f2)) → worldmintref14_subtract.j1 (k + 3 * d + 1 + 1 + 1) s out (i : Int) y.f1 (y.f1 + y.f2) b z.f0 z.f1 z.f2 = some (out ++ sub1 z y ++ (s.drop (i + 1)).flatMap (sub1 z)) := by
      intro b hb
      generalize hK2 : k + 3 * d + 1 + 1 = K2 at *
      simp only [worldmintref14_subtract.j1]
      rw [show sub1 z y = if y.f0 ≠ z.f0 ∨ z.f1 + z.f2 ≤ y.f1 ∨ z.f1 ≥ y.f1 + y.f2 then [y] else (if z.f1 > y.f1 then [⟨z.f0, y.f1, z.f1 - y.f1⟩] else []) ++ (if z.f1 + z.f2 < y.f1 + y.f2 then [⟨z.f0, z.f1 + z.f2, y.f1 + y.f2 - z.f1 - z.f2⟩] else []) from rfl]
      by_cases h : y.f0 ≠ z.f0 ∨ z.f1 + z.f2 ≤ y.f1 ∨ z.f1 ≥ y.f1 + y.f2
      · have hi1 := I (out ++ [y]) (by simp; omega)
        rw [if_pos (hb.2 h), if_pos h, if_pos (by omega), if_pos (by omega), if_pos (by omega), w64_1 i (by omega), hrd, ← hK2]
        rw [show k + 3 * d + 1 + 1 = (k + 1) + 3 * d + 1 by omega]
        exact ih (i + 1) (out ++ [y]) (by omega) (by simp; omega) (k + 1)
      · rw [if_neg (fun g => h (hb.1 g)), if_neg h]
        split
        · rw [if_pos (by omega), w64 (x := z.f1 - y.f1) (by omega) (by omega), J2 _ (by simp; omega)]
          simp only [List.append_assoc]
        · rw [J2 _ (by omega)]
          simp only [List.append_assoc, List.nil_append]
    rw [show k + 3 * (d + 1) + 1 = (k + 3 * d + 1 + 1 + 1) + 1 by omega]
    generalize hK : k + 3 * d + 1 + 1 + 1 = K at *
    simp only [worldmintref14_subtract.l0]
    rw [if_pos (by omega), if_pos (by omega), hrd, e1, e2]
    by_cases h0 : y.f0 = z.f0
    · rw [if_pos h0]
      by_cases h1 : z.f1 + z.f2 ≤ y.f1
      · rw [if_pos h1]
        exact J1 true (by simp [h1])
      · rw [if_neg h1]
        exact J1 _ (by simp [h0, h1])
    · rw [if_neg h0]
      exact J1 true (by simp [h0])
theorem sub_len (z : S39) (hz : 1 ≤ z.f2) : ∀ (s : List S39), NF s → (s.flatMap (sub1 z)).length ≤ s.length + 1
  | [], _ => by simp
  | y :: s, h => by
    obtain ⟨_, _, _, h1, h2⟩ := sub1_ok z y h.cons.1 hz
    rw [List.flatMap_cons, List.length_append, List.length_cons]
    have ih := sub_len z hz s h.cons.2.1
    by_cases h3 : (sub1 z y).length = 2
    · have h4 := h2 h3
      have : s.flatMap (sub1 z) = s := by
        have : ∀ w ∈ s, sub1 z w = [w] := fun w hw => by
          have := h.cons.2.2 w hw
          unfold bef at this
          unfold sub1
          rw [if_pos (by omega)]
        clear ih h
        induction s with
        | nil => rfl
        | cons w s ih2 =>
          rw [List.flatMap_cons, this w (List.mem_cons_self ..), ih2 (fun v hv => this v (List.mem_cons_of_mem _ hv))]
          rfl
      rw [this]
      omega
    · omega
/-- What the reference leaves of a lot. -/
def subs (set : List S39) (l : List S39) : List S39 := set.foldl (fun r z => r.flatMap (sub1 z)) l
theorem subs_ok : ∀ (set l : List S39), okS set → NF l → okS l → NF (subs set l) ∧ okS (subs set l) ∧ (∀ f i, U (subs set l) f i ↔ U l f i ∧ ¬ U set f i) ∧ (subs set l).length ≤ l.length + set.length
  | [], l, _, h1, h2 => ⟨h1, h2, fun f i => by simp [subs, U_nil], by simp [subs]⟩
  | z :: set, l, hs, h1, h2 => by
    have hz := hs.cons.1
    have g1 : NF (l.flatMap (sub1 z)) := NF.flatMap h1 (fun y hy => ⟨(sub1_ok z y (h1.pos y hy) (by omega)).1, (sub1_ok z y (h1.pos y hy) (by omega)).2.1⟩)
    have g2 : okS (l.flatMap (sub1 z)) := ⟨fun w hw => by
      obtain ⟨y, hy, hwy⟩ := List.mem_flatMap.1 hw
      have a1 := (sub1_ok z y (h1.pos y hy) (by omega)).2.1 w hwy
      have a2 := g1.pos w hw
      have a3 := h2.ok y hy
      unfold part at a1
      omega⟩
    have g3 : ∀ f i, U (l.flatMap (sub1 z)) f i ↔ U l f i ∧ ¬ In z f i := fun f i => by
      rw [U_flatMap]
      constructor
      · rintro ⟨y, hy, h⟩
        have := ((sub1_ok z y (h1.pos y hy) (by omega)).2.2.1 f i).1 h
        exact ⟨⟨y, hy, this.1⟩, this.2⟩
      · rintro ⟨⟨y, hy, h⟩, h'⟩
        exact ⟨y, hy, ((sub1_ok z y (h1.pos y hy) (by omega)).2.2.1 f i).2 ⟨h, h'⟩⟩
    have g4 := sub_len z (by omega) l h1
    obtain ⟨r1, r2, r3, r4⟩ := subs_ok set (l.flatMap (sub1 z)) hs.cons.2 g1 g2
    refine ⟨r1, r2, fun f i => ?_, ?_⟩
    · show U (subs set (l.flatMap (sub1 z))) f i ↔ _
      rw [r3, g3, U_cons, and_assoc, not_or]
    · show (subs set (l.flatMap (sub1 z))).length ≤ _
      rw [List.length_cons]
      omega
theorem ref_Without_l2 (x0 x1 : List S39) (i : Nat) (rest : List S39) (hl : rest.length < 1000000) (hk : okS rest) (ho : x0.length ≤ 100000) : ∀ (d j : Nat) (out : List S39), j + d = rest.length → okS out → out.length + d < 5864062014805 → ∀ k, 1 ≤ k → worldmintref14_Without.l2 (k + d + 1) x0 x1 out (i : Int) rest (j : Int) = worldmintref14_Without.l0 k x0 x1 ((rest.drop j).foldl jn out) (wrap64 ((i : Int) + 1)) := by
  intro d
  induction d with
  | zero =>
    intro j out hj ho' hlen k hk1
    have e : rest.drop j = [] := List.drop_eq_nil_of_le (by omega)
    simp only [worldmintref14_Without.l2]
    rw [if_neg (by omega), e]
    rfl
  | succ d ih =>
    intro j out hj ho' hlen k hk1
    have hlt : j < rest.length := by omega
    have hd : rest.drop j = rest[j] :: rest.drop (j + 1) := List.drop_eq_getElem_cons hlt
    have hy := hk.ok _ (List.getElem_mem hlt)
    have hrd := rd39_nat rest j hlt
    rw [hd, List.foldl_cons]
    generalize rest[j] = y at *
    have hj1 := joins_all [y] out ho' ⟨fun w hw => by rw [List.mem_singleton] at hw; exact hw ▸ hy⟩ (by simp; omega)
    simp only [List.foldl_cons, List.foldl_nil, List.length_singleton] at hj1
    rw [show k + (d + 1) + 1 = (k + d + 1) + 1 by omega]
    generalize hK : k + d + 1 = K
    simp only [worldmintref14_Without.l2]
    rw [if_pos (by omega), if_pos (by omega), hrd, ref_Add out y K (by omega) (by omega) (by omega), Option.bind_some, w64_1 j (by omega), ← hK]
    exact ih (j + 1) (jn out y) (by omega) hj1.1 (by omega) k hk1
theorem ref_Without_l1 (x0 x1 out : List S39) (i : Nat) (hk : okS x1) (hl : x1.length ≤ 100000) : ∀ (d j : Nat) (rest : List S39), j + d = x1.length → NF rest → okS rest → rest.length ≤ 1 + j → ∀ k, worldmintref14_Without.l1 (k + 3 * x1.length + 10 + d) x0 x1 out (i : Int) rest (j : Int) = worldmintref14_Without.l2 (k + 3 * x1.length + 9) x0 x1 out (i : Int) (subs (x1.drop j) rest) 0 := by
  intro d
  induction d with
  | zero =>
    intro j rest hj h1 h2 h3 k
    have e : x1.drop j = [] := List.drop_eq_nil_of_le (by omega)
    rw [show k + 3 * x1.length + 10 + 0 = (k + 3 * x1.length + 9) + 1 by omega]
    generalize k + 3 * x1.length + 9 = K
    simp only [worldmintref14_Without.l1]
    rw [if_neg (by omega), e]
    rfl
  | succ d ih =>
    intro j rest hj h1 h2 h3 k
    have hlt : j < x1.length := by omega
    have hd : x1.drop j = x1[j] :: x1.drop (j + 1) := List.drop_eq_getElem_cons hlt
    have hz := hk.ok _ (List.getElem_mem hlt)
    have hrd := rd39_nat x1 j hlt
    rw [hd]
    generalize x1[j] = z at *
    obtain ⟨g1, g2, _, _⟩ := subs_ok [z] rest ⟨fun w hw => by rw [List.mem_singleton] at hw; exact hw ▸ hz⟩ h1 h2
    have g4 := sub_len z (by omega) rest h1
    have hs := ref_subtract_l0 rest z h2 hz (by omega) rest.length 0 [] (by omega) (by simp) (k + 3 * x1.length + 10 + d - 3 * rest.length - 1)
    rw [show k + 3 * x1.length + 10 + d - 3 * rest.length - 1 + 3 * rest.length + 1 = k + 3 * x1.length + 10 + d by omega, List.nil_append, List.drop_zero] at hs
    have := ih (j + 1) (rest.flatMap (sub1 z)) (by omega) g1 g2 (by omega) k
    rw [show k + 3 * x1.length + 10 + (d + 1) = (k + 3 * x1.length + 10 + d) + 1 by omega]
    generalize hK : k + 3 * x1.length + 10 + d = K at *
    simp only [worldmintref14_Without.l1]
    rw [if_pos (by omega), if_pos (by omega), hrd]
    unfold worldmintref14_subtract.f
    rw [show (0 : Int) = ((0 : Nat) : Int) from rfl, hs, Option.bind_some, w64_1 j (by omega), this]
    rfl
end Go.Proofs.Ytcicjbgfahdejaa.P
