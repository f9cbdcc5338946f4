/- This session's own: sets of units as lists of lots in their normal form: uniqueness, flat maps, joins. -/
import Derived.Test.YtcicjbgfahdejaaQ1
namespace Go.Proofs.Ytcicjbgfahdejaa.P
open Go Go.RowKit Go.Proofs.YtcicjbgfahdejaaW.PrintWords Go.Proofs.YtcicjbgfahdejaaW.PrintLast Go.Proofs.YtcicjbgfahdejaaW.PrintMore
set_option linter.unusedSimpArgs false
set_option linter.unusedVariables false
/-- The unit i of the flow f is a unit of a lot, of lots. -/
def In (x : S39) (f i : Int) : Prop := x.f0 = f ∧ x.f1 ≤ i ∧ i < x.f1 + x.f2
def U (l : List S39) (f i : Int) : Prop := ∃ x ∈ l, In x f i
def bef (x y : S39) : Prop := x.f0 < y.f0 ∨ x.f0 = y.f0 ∧ x.f1 + x.f2 < y.f1
structure NF (l : List S39) : Prop where
  pos : ∀ x ∈ l, 1 ≤ x.f2
  pw : l.Pairwise bef
theorem U_nil (f i : Int) : ¬ U [] f i := fun ⟨_, h, _⟩ => by simp at h
theorem U_cons (x : S39) (l : List S39) (f i : Int) : U (x :: l) f i ↔ In x f i ∨ U l f i := by
  unfold U
  constructor
  · rintro ⟨y, hy, h⟩
    rcases List.mem_cons.1 hy with e | e
    · exact .inl (e ▸ h)
    · exact .inr ⟨y, e, h⟩
  · rintro (h | ⟨y, hy, h⟩)
    · exact ⟨x, List.mem_cons_self .., h⟩
    · exact ⟨y, List.mem_cons_of_mem _ hy, h⟩
theorem U_append (a b : List S39) (f i : Int) : U (a ++ b) f i ↔ U a f i ∨ U b f i := by
  unfold U
  constructor
  · rintro ⟨y, hy, h⟩
    rcases List.mem_append.1 hy with e | e
    · exact .inl ⟨y, e, h⟩
    · exact .inr ⟨y, e, h⟩
  · rintro (⟨y, hy, h⟩ | ⟨y, hy, h⟩)
    · exact ⟨y, List.mem_append.2 (.inl hy), h⟩
    · exact ⟨y, List.mem_append.2 (.inr hy), h⟩
theorem U_single (x : S39) (f i : Int) : U [x] f i ↔ In x f i := by rw [U_cons]; simp [U_nil]
theorem NF.nil : NF [] := ⟨by simp, .nil⟩
theorem NF.cons {x : S39} {l : List S39} (h : NF (x :: l)) : 1 ≤ x.f2 ∧ NF l ∧ ∀ y ∈ l, bef x y :=
  ⟨h.pos x (List.mem_cons_self ..), ⟨fun y hy => h.pos y (List.mem_cons_of_mem _ hy), (List.pairwise_cons.1 h.pw).2⟩, (List.pairwise_cons.1 h.pw).1⟩
theorem NF.mk' {x : S39} {l : List S39} (h1 : 1 ≤ x.f2) (h2 : NF l) (h3 : ∀ y ∈ l, bef x y) : NF (x :: l) :=
  ⟨fun y hy => by rcases List.mem_cons.1 hy with e | e; exact e ▸ h1; exact h2.pos y e, List.pairwise_cons.2 ⟨h3, h2.pw⟩⟩
theorem NF.single {x : S39} (h : 1 ≤ x.f2) : NF [x] := NF.mk' h NF.nil (by simp)
theorem NF.append {a b : List S39} (ha : NF a) (hb : NF b) (h : ∀ x ∈ a, ∀ y ∈ b, bef x y) : NF (a ++ b) :=
  ⟨fun x hx => by rcases List.mem_append.1 hx with e | e; exact ha.pos x e; exact hb.pos x e, List.pairwise_append.2 ⟨ha.pw, hb.pw, h⟩⟩
theorem NF.of_append {a b : List S39} (h : NF (a ++ b)) : NF a ∧ NF b ∧ ∀ x ∈ a, ∀ y ∈ b, bef x y := by
  obtain ⟨p1, p2, p3⟩ := List.pairwise_append.1 h.pw
  exact ⟨⟨fun x hx => h.pos x (List.mem_append.2 (.inl hx)), p1⟩, ⟨fun x hx => h.pos x (List.mem_append.2 (.inr hx)), p2⟩, p3⟩
theorem bef_trans {x y z : S39} (hy : 1 ≤ y.f2) (h1 : bef x y) (h2 : bef y z) : bef x z := by unfold bef at *; omega
theorem NF.disjoint {x : S39} {l : List S39} (h : NF (x :: l)) {f i : Int} (h1 : In x f i) : ¬ U l f i := by
  rintro ⟨y, hy, h2⟩
  have := h.cons.2.2 y hy
  unfold bef at this
  unfold In at h1 h2
  omega
/-- The first unit of a list in normal form. -/
theorem NF.first {y : S39} {b : List S39} (h : NF (y :: b)) {f i : Int} (hu : U (y :: b) f i) : y.f0 < f ∨ y.f0 = f ∧ y.f1 ≤ i := by
  obtain ⟨z, hz, h1, h2, h3⟩ := hu
  rcases List.mem_cons.1 hz with e | e
  · subst e; omega
  · have := h.cons.2.2 z e
    have := h.cons.1
    unfold bef at *
    omega
theorem NF.ends {x y : S39} {a b : List S39} (ha : NF (x :: a)) (hf : x.f0 = y.f0) (hs : x.f1 = y.f1) (hu : ∀ f i, U (y :: b) f i → U (x :: a) f i) : y.f1 + y.f2 ≤ x.f1 + x.f2 := by
  have hx := ha.cons.1
  by_cases h : y.f1 + y.f2 ≤ x.f1 + x.f2
  · exact h
  · exfalso
    have h1 : U (y :: b) y.f0 (x.f1 + x.f2) := ⟨y, List.mem_cons_self .., rfl, by omega, by omega⟩
    obtain ⟨z, hz, h2, h3, h4⟩ := hu _ _ h1
    rcases List.mem_cons.1 hz with e | e
    · subst e; omega
    · have := ha.cons.2.2 z e
      unfold bef at this
      omega
/-- The normal form is unique. -/
theorem NF.unique : ∀ {a b : List S39}, NF a → NF b → (∀ f i, U a f i ↔ U b f i) → a = b
  | [], [], _, _, _ => rfl
  | [], y :: b, _, hb, h => absurd ((h y.f0 y.f1).2 ⟨y, List.mem_cons_self .., rfl, by omega, by have := hb.cons.1; omega⟩) (U_nil _ _)
  | x :: a, [], ha, _, h => absurd ((h x.f0 x.f1).1 ⟨x, List.mem_cons_self .., rfl, by omega, by have := ha.cons.1; omega⟩) (U_nil _ _)
  | x :: a, y :: b, ha, hb, h => by
    have hx := ha.cons.1
    have hy := hb.cons.1
    have f1 := hb.first ((h x.f0 x.f1).1 ⟨x, List.mem_cons_self .., rfl, by omega, by omega⟩)
    have f2 := ha.first ((h y.f0 y.f1).2 ⟨y, List.mem_cons_self .., rfl, by omega, by omega⟩)
    have e0 : x.f0 = y.f0 := by omega
    have e1 : x.f1 = y.f1 := by omega
    have g1 := ha.ends e0 e1 (fun f i hu => (h f i).2 hu)
    have g2 := hb.ends e0.symm e1.symm (fun f i hu => (h f i).1 hu)
    have e : x = y := by
      obtain ⟨x0, x1, x2⟩ := x
      obtain ⟨y0, y1, y2⟩ := y
      simp only at *
      subst e0 e1
      congr 1
      omega
    subst e
    congr 1
    refine NF.unique ha.cons.2.1 hb.cons.2.1 (fun f i => ?_)
    have := h f i
    rw [U_cons, U_cons] at this
    constructor
    · intro hu
      rcases this.1 (.inr hu) with h1 | h1
      · exact absurd hu (ha.disjoint h1)
      · exact h1
    · intro hu
      rcases this.2 (.inr hu) with h1 | h1
      · exact absurd hu (hb.disjoint h1)
      · exact h1
/-- A part of a lot. -/
def part (x y : S39) : Prop := y.f0 = x.f0 ∧ x.f1 ≤ y.f1 ∧ y.f1 + y.f2 ≤ x.f1 + x.f2
theorem U_flatMap (g : S39 → List S39) (l : List S39) (f i : Int) : U (l.flatMap g) f i ↔ ∃ x ∈ l, U (g x) f i := by
  unfold U
  constructor
  · rintro ⟨y, hy, h⟩
    obtain ⟨x, hx, hxy⟩ := List.mem_flatMap.1 hy
    exact ⟨x, hx, y, hxy, h⟩
  · rintro ⟨x, hx, y, hy, h⟩
    exact ⟨y, List.mem_flatMap.2 ⟨x, hx, hy⟩, h⟩
theorem NF.flatMap {g : S39 → List S39} : ∀ {l : List S39}, NF l → (∀ x ∈ l, NF (g x) ∧ ∀ y ∈ g x, part x y) → NF (l.flatMap g)
  | [], _, _ => NF.nil
  | x :: l, h, hg => by
    rw [List.flatMap_cons]
    refine NF.append (hg x (List.mem_cons_self ..)).1 (NF.flatMap h.cons.2.1 (fun y hy => hg y (List.mem_cons_of_mem _ hy))) (fun y hy z hz => ?_)
    obtain ⟨w, hw, hzw⟩ := List.mem_flatMap.1 hz
    have p1 := (hg x (List.mem_cons_self ..)).2 y hy
    have p2 := (hg w (List.mem_cons_of_mem _ hw)).2 z hzw
    have := h.cons.2.2 w hw
    unfold bef part at *
    omega
/-! ### joins -/
theorem jn_nil (p : S39) : jn [] p = [p] := rfl
/-- A lot that continues the last one is joined with it, another is appended. -/
theorem jn_snoc (out : List S39) (z p : S39) (h : out.length + 1 < 5864062014805) (hz0 : 0 ≤ z.f1) (hz1 : z.f1 ≤ 1099511627776) (hz2 : 0 ≤ z.f2) (hz3 : z.f2 ≤ 1099511627776) (hp0 : 0 ≤ p.f2) (hp : p.f2 ≤ 1099511627776) :
    jn (out ++ [z]) p = if z.f0 = p.f0 ∧ z.f1 + z.f2 = p.f1 then out ++ [⟨z.f0, z.f1, z.f2 + p.f2⟩] else out ++ [z, p] := by
  unfold jn lots_join.f lots_end.f
  have e1 : wrap64 (((out ++ [z]).length : Int) - 1) = (out.length : Int) := by rw [List.length_append, List.length_singleton]; unfold wrap64; omega
  have e2 : rd_T39 (out ++ [z]) (out.length : Int) = z := by rw [rd39_nat _ _ (by simp)]; exact List.getElem_concat_length rfl _
  have e3 : wrap64 (z.f1 + z.f2) = z.f1 + z.f2 := w64 (by omega) (by omega)
  have e4 : wrap64 (z.f2 + p.f2) = z.f2 + p.f2 := w64 (by omega) (by omega)
  rw [if_pos (by simp only [List.length_append, List.length_singleton]; omega), e1, if_pos (by omega), if_pos (by simp only [List.length_append, List.length_singleton]; omega), e2, e3, e4]
  simp only [Option.bind_some]
  by_cases h0 : z.f0 = p.f0
  · by_cases h1 : z.f1 + z.f2 = p.f1
    · rw [if_pos (by simp [h0, h1]), if_pos ⟨h0, h1⟩]
      simp only [Option.getD_some, Int.toNat_natCast]
      rw [List.set_append_right _ _ (by omega), Nat.sub_self, List.set_cons_zero]
    · rw [if_neg (by simp [h0, h1]), if_pos (by simpa using h), if_neg (fun h => h1 h.2)]
      simp
  · rw [if_neg (by simp [h0]), if_pos (by simpa using h), if_neg (fun h => h0 h.1)]
    simp
structure okS (l : List S39) : Prop where
  ok : ∀ x ∈ l, 0 ≤ x.f0 ∧ 0 ≤ x.f1 ∧ 1 ≤ x.f2 ∧ x.f1 + x.f2 ≤ 1099511627776
theorem okS.nil : okS [] := ⟨by simp⟩
theorem okS.cons {x : S39} {l : List S39} (h : okS (x :: l)) : (0 ≤ x.f0 ∧ 0 ≤ x.f1 ∧ 1 ≤ x.f2 ∧ x.f1 + x.f2 ≤ 1099511627776) ∧ okS l := ⟨h.ok x (List.mem_cons_self ..), ⟨fun y hy => h.ok y (List.mem_cons_of_mem _ hy)⟩⟩
theorem okS.append {a b : List S39} (ha : okS a) (hb : okS b) : okS (a ++ b) := ⟨fun x hx => by rcases List.mem_append.1 hx with e | e; exact ha.ok x e; exact hb.ok x e⟩
theorem okS.of_append {a b : List S39} (h : okS (a ++ b)) : okS a ∧ okS b := ⟨⟨fun x hx => h.ok x (List.mem_append.2 (.inl hx))⟩, ⟨fun x hx => h.ok x (List.mem_append.2 (.inr hx))⟩⟩
theorem okS_valid (l : List S39) : valid l = true ↔ l.length ≤ 4096 ∧ okS l := by
  constructor
  · intro h
    obtain ⟨h1, h2⟩ := valid_mem h
    exact ⟨h1, ⟨fun x hx => by have := h2 x hx; omega⟩⟩
  · rintro ⟨h1, h2⟩
    unfold valid
    rw [Bool.and_eq_true]
    refine ⟨decide_eq_true h1, List.all_eq_true.2 (fun x hx => ?_)⟩
    have := h2.ok x hx
    unfold possible
    simp only [decide_eq_true_eq]
    omega
/-- Joining a list in normal form leaves it as it is. -/
theorem joins_NF : ∀ (l out : List S39), NF (out ++ l) → okS (out ++ l) → (out ++ l).length < 5864062014805 → l.foldl jn out = out ++ l
  | [], out, _, _, _ => by simp
  | p :: l, out, h, hk, hl => by
    have e : jn out p = out ++ [p] := by
      rcases List.eq_nil_or_concat out with e | ⟨o, z, e⟩
      · subst e; rfl
      · subst e
        simp only [List.concat_eq_append] at *
        have hz := hk.ok z (by simp)
        have hp := hk.ok p (by simp)
        rw [jn_snoc o z p (by simp at hl; omega) (by omega) (by omega) (by omega) (by omega) (by omega) (by omega), if_neg]
        · simp
        · have := (List.pairwise_append.1 h.pw).2.2 z (by simp) p (by simp)
          unfold bef at this
          omega
    rw [List.foldl_cons, e, joins_NF l (out ++ [p]) (by simpa using h) (by simpa using hk) (by simpa using hl)]
    simp
/-- The units of joined lots; the sum of their numbers. -/
theorem joins_all : ∀ (l out : List S39), okS out → okS l → out.length + l.length < 5864062014805 → okS (l.foldl jn out) ∧ (l.foldl jn out).length ≤ out.length + l.length ∧ (∀ f i, U (l.foldl jn out) f i ↔ U out f i ∨ U l f i) ∧ ((l.foldl jn out).map (·.f2)).sum = (out.map (·.f2)).sum + (l.map (·.f2)).sum
  | [], out, ho, _, _ => ⟨ho, by simp, fun f i => by simp [U_nil], by simp⟩
  | p :: l, out, ho, hl, hn => by
    have hp := hl.cons.1
    simp only [List.length_cons] at hn
    have key : okS (jn out p) ∧ (jn out p).length ≤ out.length + 1 ∧ (∀ f i, U (jn out p) f i ↔ U out f i ∨ In p f i) ∧ ((jn out p).map (·.f2)).sum = (out.map (·.f2)).sum + p.f2 := by
      rcases List.eq_nil_or_concat out with e | ⟨o, z, e⟩
      · subst e
        exact ⟨⟨fun x hx => by rw [jn_nil, List.mem_singleton] at hx; exact hx ▸ hp⟩, by simp [jn_nil], fun f i => by rw [jn_nil, U_single]; simp [U_nil], by simp [jn_nil]⟩
      · subst e
        simp only [List.concat_eq_append] at *
        have hz := ho.ok z (by simp)
        rw [jn_snoc o z p (by simp at hn; omega) (by omega) (by omega) (by omega) (by omega) (by omega) (by omega)]
        split
        · rename_i hc
          refine ⟨okS.append ho.of_append.1 ⟨fun x hx => ?_⟩, by simp, fun f i => ?_, by simp [Int.add_assoc]⟩
          · rw [List.mem_singleton] at hx
            subst hx
            simp only
            omega
          · rw [U_append, U_append, U_single, U_single]
            unfold In
            simp only
            constructor
            · rintro (h | h)
              · exact .inl (.inl h)
              · by_cases h2 : i < z.f1 + z.f2
                · exact .inl (.inr ⟨h.1, h.2.1, h2⟩)
                · exact .inr ⟨by omega, by omega, by omega⟩
            · rintro ((h | h) | h)
              · exact .inl h
              · exact .inr ⟨h.1, h.2.1, by omega⟩
              · exact .inr ⟨by omega, by omega, by omega⟩
        · rename_i hc
          refine ⟨okS.append ho.of_append.1 ⟨fun x hx => ?_⟩, by simp, fun f i => ?_, by simp [Int.add_assoc]⟩
          · simp only [List.mem_cons, List.not_mem_nil, or_false] at hx
            rcases hx with e | e
            · exact e ▸ hz
            · exact e ▸ hp
          · rw [U_append, U_append, U_cons, U_single, U_single]
            constructor
            · rintro (h | h | h)
              · exact .inl (.inl h)
              · exact .inl (.inr h)
              · exact .inr h
            · rintro ((h | h) | h)
              · exact .inl h
              · exact .inr (.inl h)
              · exact .inr (.inr h)
    obtain ⟨k1, k2, k3, k4⟩ := key
    obtain ⟨r1, r2, r3, r4⟩ := joins_all l (jn out p) k1 hl.cons.2 (by omega)
    rw [List.foldl_cons, List.length_cons]
    refine ⟨r1, by omega, fun f i => ?_, ?_⟩
    · rw [r3, k3, U_cons, or_assoc]
    · rw [r4, k4, List.map_cons, List.sum_cons]; omega
end Go.Proofs.Ytcicjbgfahdejaa.P
