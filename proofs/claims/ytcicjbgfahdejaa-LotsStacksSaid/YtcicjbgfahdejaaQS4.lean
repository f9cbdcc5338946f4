/- This session's own: the reference's insert, Set and subtract, plainly. -/
import Derived.Test.YtcicjbgfahdejaaQS3
namespace Go.Proofs.Ytcicjbgfahdejaa.P
open Go Go.RowKit Go.Sort Go.Proofs.YtcicjbgfahdejaaW.PrintWords Go.Proofs.YtcicjbgfahdejaaW.PrintLast Go.Proofs.YtcicjbgfahdejaaW.PrintMore
set_option linter.unusedSimpArgs false
set_option linter.unusedVariables false
/-- What the reference's insert has done with the first i lots of s. -/
structure Ins (s : List S39) (l : S39) (i : Nat) (B A : List S39) (fr tz : Int) : Prop where
  nB : NF B
  nA : NF A
  kB : okS B
  kA : okS A
  f0 : 0 ≤ l.f0
  fr0 : 0 ≤ fr
  frto : fr < tz
  to1 : tz ≤ 1099511627776
  bB : ∀ b ∈ B, b.f0 < l.f0 ∨ b.f0 = l.f0 ∧ b.f1 + b.f2 < fr
  bA : ∀ a ∈ A, l.f0 < a.f0 ∨ l.f0 = a.f0 ∧ tz < a.f1
  rB : ∀ b ∈ B, ∀ y ∈ s.drop i, bef b y
  rA : ∀ a ∈ A, ∀ y ∈ s.drop i, bef a y
  un : ∀ f j, (U B f j ∨ (f = l.f0 ∧ fr ≤ j ∧ j < tz) ∨ U A f j) ↔ In l f j ∨ U (s.take i) f j
  len : B.length + A.length ≤ i
  fB : ∀ x ∈ B ++ A, x ∈ s
theorem take_snoc39 (s : List S39) (i : Nat) (h : i < s.length) : s.take (i + 1) = s.take i ++ [s[i]] := by rw [List.take_succ_eq_append_getElem h]
theorem ref_insert_l0 (s : List S39) (l : S39) (hn : NF s) (hk : okS s) (hl : s.length < 1000000) : ∀ (d i : Nat) (B A : List S39) (fr tz : Int), i + d = s.length → Ins s l i B A fr tz → ∃ B' A' fr' tz', Ins s l s.length B' A' fr' tz' ∧ ∀ k, worldmintref14_insert.l0 (k + 2 * d + 1) s B A fr tz (i : Int) l.f0 l.f1 l.f2 = some (B' ++ [(⟨l.f0, fr', tz' - fr'⟩ : S39)] ++ A') := by
  intro d
  induction d with
  | zero =>
    intro i B A fr tz hi h
    obtain rfl : i = s.length := by omega
    refine ⟨B, A, fr, tz, h, fun k => ?_⟩
    have := h.len
    simp only [worldmintref14_insert.l0]
    have h1 := h.fr0; have h2 := h.frto; have h3 := h.to1
    rw [if_neg (by omega), if_pos (by omega), Option.bind_some, if_pos (by simp only [List.length_append, List.length_singleton]; omega), w64 (by omega) (by omega)]
  | succ d ih =>
    intro i B A fr tz hi h
    have hlt : i < s.length := by omega
    have hy := hk.ok _ (List.getElem_mem hlt)
    have hd : s.drop i = s[i] :: s.drop (i + 1) := List.drop_eq_getElem_cons hlt
    have hnd : NF (s[i] :: s.drop (i + 1)) := by
      rw [← hd]
      have : NF (s.take i ++ s.drop i) := by rw [List.take_append_drop]; exact hn
      exact this.of_append.2.1
    have hyr := hnd.cons.2.2
    have hBy : ∀ b ∈ B, bef b s[i] := fun b hb => h.rB b hb _ (by rw [hd]; exact List.mem_cons_self ..)
    have hAy : ∀ a ∈ A, bef a s[i] := fun a ha => h.rA a ha _ (by rw [hd]; exact List.mem_cons_self ..)
    have rB' : ∀ b ∈ B, ∀ y ∈ s.drop (i + 1), bef b y := fun b hb y hy => h.rB b hb y (by rw [hd]; exact List.mem_cons_of_mem _ hy)
    have rA' : ∀ a ∈ A, ∀ y ∈ s.drop (i + 1), bef a y := fun a ha y hy => h.rA a ha y (by rw [hd]; exact List.mem_cons_of_mem _ hy)
    have hmem : s[i] ∈ s := List.getElem_mem hlt
    have hts := take_snoc39 s i hlt
    have eu : ∀ f j, U (s.take (i + 1)) f j ↔ U (s.take i) f j ∨ In s[i] f j := fun f j => by rw [hts, U_append, U_single]
    have hrd := rd39_nat s i hlt
    generalize s[i] = y at *
    have ee : wrap64 (y.f1 + y.f2) = y.f1 + y.f2 := w64 (by omega) (by omega)
    have hlen := h.len
    have hfr := h.fr0; have hft := h.frto; have hto := h.to1
    -- the three ways
    have before : (y.f0 < l.f0 ∨ y.f0 = l.f0 ∧ y.f1 + y.f2 < fr) → Ins s l (i + 1) (B ++ [y]) A fr tz := fun hb =>
      ⟨NF.append h.nB (NF.single hy.2.2.1) (fun b hb y' hy' => by rw [List.mem_singleton] at hy'; exact hy' ▸ hBy b hb), h.nA, okS.append h.kB ⟨fun z hz => by rw [List.mem_singleton] at hz; exact hz ▸ hy⟩, h.kA, h.f0, h.fr0, h.frto, h.to1,
        fun b hb' => by
          rcases List.mem_append.1 hb' with e | e
          · exact h.bB b e
          · rw [List.mem_singleton] at e; exact e ▸ hb, h.bA,
        fun b hb' z hz => by
          rcases List.mem_append.1 hb' with e | e
          · exact rB' b e z hz
          · rw [List.mem_singleton] at e; exact e ▸ hyr z hz, rA',
        fun f j => by
          rw [U_append, U_single, eu, ← or_assoc (b := U (s.take i) f j), ← h.un]
          constructor
          · rintro ((g | g) | g | g)
            · exact .inl (.inl g)
            · exact .inr g
            · exact .inl (.inr (.inl g))
            · exact .inl (.inr (.inr g))
          · rintro ((g | g | g) | g)
            · exact .inl (.inl g)
            · exact .inr (.inl g)
            · exact .inr (.inr g)
            · exact .inl (.inr g),
        by simp only [List.length_append, List.length_singleton]; omega,
        fun z hz => by
          rcases List.mem_append.1 hz with e | e
          · rcases List.mem_append.1 e with e | e
            · exact h.fB z (List.mem_append.2 (.inl e))
            · rw [List.mem_singleton] at e; exact e ▸ hmem
          · exact h.fB z (List.mem_append.2 (.inr e))⟩
    have after : (l.f0 < y.f0 ∨ l.f0 = y.f0 ∧ tz < y.f1) → Ins s l (i + 1) B (A ++ [y]) fr tz := fun hb =>
      ⟨h.nB, NF.append h.nA (NF.single hy.2.2.1) (fun b hb y' hy' => by rw [List.mem_singleton] at hy'; exact hy' ▸ hAy b hb), h.kB, okS.append h.kA ⟨fun z hz => by rw [List.mem_singleton] at hz; exact hz ▸ hy⟩, h.f0, h.fr0, h.frto, h.to1,
        h.bB, fun b hb' => by
          rcases List.mem_append.1 hb' with e | e
          · exact h.bA b e
          · rw [List.mem_singleton] at e; exact e ▸ hb,
        rB', fun b hb' z hz => by
          rcases List.mem_append.1 hb' with e | e
          · exact rA' b e z hz
          · rw [List.mem_singleton] at e; exact e ▸ hyr z hz,
        fun f j => by
          rw [U_append, U_single, eu, ← or_assoc (b := U (s.take i) f j), ← h.un]
          constructor
          · rintro (g | g | g | g)
            · exact .inl (.inl g)
            · exact .inl (.inr (.inl g))
            · exact .inl (.inr (.inr g))
            · exact .inr g
          · rintro ((g | g | g) | g)
            · exact .inl g
            · exact .inr (.inl g)
            · exact .inr (.inr (.inl g))
            · exact .inr (.inr (.inr g)),
        by simp only [List.length_append, List.length_singleton]; omega,
        fun z hz => by
          rcases List.mem_append.1 hz with e | e
          · exact h.fB z (List.mem_append.2 (.inl e))
          · rcases List.mem_append.1 e with e | e
            · exact h.fB z (List.mem_append.2 (.inr e))
            · rw [List.mem_singleton] at e; exact e ▸ hmem⟩
    have merge : y.f0 = l.f0 → ¬ (y.f1 + y.f2 < fr) → ¬ (y.f1 > tz) → Ins s l (i + 1) B A (mn fr y.f1) (mx tz (y.f1 + y.f2)) := fun e0 h1 h2 => by
      have m1 := mn_le fr y.f1
      have m2 := mx_le tz (y.f1 + y.f2)
      generalize mn fr y.f1 = fr' at *
      generalize mx tz (y.f1 + y.f2) = tz' at *
      have hA0 : ∀ a ∈ A, False := fun a ha => by
        have g1 := h.bA a ha
        have g2 := hAy a ha
        have g3 := h.kA.ok a ha
        unfold bef at g2
        omega
      exact ⟨h.nB, h.nA, h.kB, h.kA, h.f0, by omega, by omega, by omega,
        fun b hb => by
          have g1 := h.bB b hb
          have g2 := hBy b hb
          unfold bef at g2
          omega,
        fun a ha => (hA0 a ha).elim, rB', rA',
        fun f j => by
          rw [eu, ← or_assoc (b := U (s.take i) f j), ← h.un]
          unfold In
          constructor
          · rintro (g | g | g)
            · exact .inl (.inl g)
            · by_cases c : fr ≤ j ∧ j < tz
              · exact .inl (.inr (.inl ⟨g.1, c⟩))
              · exact .inr ⟨by omega, by omega, by omega⟩
            · exact .inl (.inr (.inr g))
          · rintro ((g | g | g) | g)
            · exact .inl g
            · exact .inr (.inl ⟨g.1, by omega, by omega⟩)
            · exact .inr (.inr g)
            · exact .inr (.inl ⟨by omega, by omega, by omega⟩),
        by omega, h.fB⟩
    have J : ∀ b : Bool, (b = true ↔ (y.f0 < l.f0 ∨ y.f0 = l.f0 ∧ y.f1 + y.f2 < fr)) → ∃ B' A' fr' tz', Ins s l s.length B' A' fr' tz' ∧ ∀ k, worldmintref14_insert.j1 (k + 2 * d + 1 + 1) s B A fr tz (i : Int) b l.f0 l.f1 l.f2 y.f0 y.f1 y.f2 = some (B' ++ [(⟨l.f0, fr', tz' - fr'⟩ : S39)] ++ A') := by
      intro b hb
      by_cases hc : y.f0 < l.f0 ∨ y.f0 = l.f0 ∧ y.f1 + y.f2 < fr
      · obtain ⟨B', A', fr', tz', h1, h2⟩ := ih (i + 1) _ _ _ _ (by omega) (before hc)
        refine ⟨B', A', fr', tz', h1, fun k => ?_⟩
        have := h2 k
        generalize k + 2 * d + 1 = K at *
        simp only [worldmintref14_insert.j1]
        rw [if_pos (hb.2 hc), if_pos (by omega), w64_1 i (by omega)]
        exact this
      · have hbf : ¬ b = true := fun h => hc (hb.1 h)
        by_cases c1 : y.f0 > l.f0
        · obtain ⟨B', A', fr', tz', h1, h2⟩ := ih (i + 1) _ _ _ _ (by omega) (after (.inl c1))
          refine ⟨B', A', fr', tz', h1, fun k => ?_⟩
          have := h2 k
          generalize k + 2 * d + 1 = K at *
          simp only [worldmintref14_insert.j1]
          rw [if_neg hbf, if_pos c1, if_pos (by omega), w64_1 i (by omega)]
          exact this
        · by_cases c2 : y.f1 > tz
          · obtain ⟨B', A', fr', tz', h1, h2⟩ := ih (i + 1) _ _ _ _ (by omega) (after (.inr ⟨by omega, c2⟩))
            refine ⟨B', A', fr', tz', h1, fun k => ?_⟩
            have := h2 k
            generalize k + 2 * d + 1 = K at *
            simp only [worldmintref14_insert.j1]
            rw [if_neg hbf, if_neg c1, if_pos c2, if_pos (by omega), w64_1 i (by omega)]
            exact this
          · obtain ⟨B', A', fr', tz', h1, h2⟩ := ih (i + 1) _ _ _ _ (by omega) (merge (by omega) (by omega) c2)
            refine ⟨B', A', fr', tz', h1, fun k => ?_⟩
            have := h2 k
            generalize k + 2 * d + 1 = K at *
            simp only [worldmintref14_insert.j1]
            rw [if_neg hbf, if_neg c1, if_neg c2, w64_1 i (by omega), ee]
            exact this
    by_cases q0 : y.f0 < l.f0
    · obtain ⟨B', A', fr', tz', h1, h2⟩ := J true (by simp [q0])
      refine ⟨B', A', fr', tz', h1, fun k => ?_⟩
      have := h2 k
      rw [show k + 2 * (d + 1) + 1 = (k + 2 * d + 1 + 1) + 1 by omega]
      generalize k + 2 * d + 1 + 1 = K at *
      simp only [worldmintref14_insert.l0]
      rw [if_pos (by omega), if_pos (by omega), hrd, if_pos q0]
      exact this
    · by_cases q1 : y.f0 = l.f0
      · obtain ⟨B', A', fr', tz', h1, h2⟩ := J (decide (y.f1 + y.f2 < fr)) (by simp [q0, q1])
        refine ⟨B', A', fr', tz', h1, fun k => ?_⟩
        have := h2 k
        rw [show k + 2 * (d + 1) + 1 = (k + 2 * d + 1 + 1) + 1 by omega]
        generalize k + 2 * d + 1 + 1 = K at *
        simp only [worldmintref14_insert.l0]
        rw [if_pos (by omega), if_pos (by omega), hrd, if_neg q0, if_pos q1, ee]
        exact this
      · obtain ⟨B', A', fr', tz', h1, h2⟩ := J false (by simp [q0, q1])
        refine ⟨B', A', fr', tz', h1, fun k => ?_⟩
        have := h2 k
        rw [show k + 2 * (d + 1) + 1 = (k + 2 * d + 1 + 1) + 1 by omega]
        generalize k + 2 * d + 1 + 1 = K at *
        simp only [worldmintref14_insert.l0]
        rw [if_pos (by omega), if_pos (by omega), hrd, if_neg q0, if_neg q1]
        exact this
theorem ref_insert_eq (s : List S39) (l : S39) (hn : NF s) (hk : okS s) (hl : s.length < 1000000) (h0 : ok1 l) : ∃ r : List S39, NF r ∧ okS r ∧ (∀ f i, U r f i ↔ U s f i ∨ In l f i) ∧ r.length ≤ s.length + 1 ∧ (fl s → l.f0 ≤ 9223372036854775807 → fl r) ∧ ∀ k, 2 * s.length + 1 ≤ k → worldmintref14_insert.f k s l.f0 l.f1 l.f2 = some r := by
  have h0' := h0
  unfold ok1 at h0'
  obtain ⟨B, A, fr, tz, h, e⟩ := ref_insert_l0 s l hn hk hl s.length 0 [] [] l.f1 (l.f1 + l.f2) (by omega)
    ⟨NF.nil, NF.nil, okS.nil, okS.nil, by omega, by omega, by omega, by omega, by simp, by simp, by simp, by simp, fun f j => by
      rw [List.take_zero]
      unfold In
      constructor
      · rintro (g | g | g)
        · exact absurd g (U_nil _ _)
        · exact .inl ⟨g.1.symm, g.2⟩
        · exact absurd g (U_nil _ _)
      · rintro (g | g)
        · exact .inr (.inl ⟨g.1.symm, g.2⟩)
        · exact absurd g (U_nil _ _), by simp, by simp⟩
  have h1 := h.fr0; have h2 := h.frto; have h3 := h.to1; have h4 := h.len; have h5 := h.f0
  refine ⟨B ++ [⟨l.f0, fr, tz - fr⟩] ++ A, ?_, ?_, fun f i => ?_, ?_, fun g1 g2 x hx => ?_, fun k hk => ?_⟩
  · refine NF.append (NF.append h.nB (NF.single (by simp only; omega)) (fun b hb c hc => ?_)) h.nA (fun b hb a ha => ?_)
    · rw [List.mem_singleton] at hc
      subst hc
      have := h.bB b hb
      unfold bef
      simp only
      omega
    · have ga := h.bA a ha
      rcases List.mem_append.1 hb with e | e
      · have := h.bB b e
        unfold bef
        omega
      · rw [List.mem_singleton] at e
        subst e
        unfold bef
        simp only
        omega
  · refine okS.append (okS.append h.kB ⟨fun c hc => ?_⟩) h.kA
    rw [List.mem_singleton] at hc
    subst hc
    simp only
    omega
  · rw [U_append, U_append, U_single, or_assoc]
    have := h.un f i
    rw [List.take_length] at this
    rw [or_comm (a := U s f i), ← this]
    unfold In
    simp only
    constructor
    · rintro (g | g | g)
      · exact .inl g
      · exact .inr (.inl ⟨by omega, by omega, by omega⟩)
      · exact .inr (.inr g)
    · rintro (g | g | g)
      · exact .inl g
      · exact .inr (.inl ⟨by omega, by omega, by omega⟩)
      · exact .inr (.inr g)
  · simp only [List.length_append, List.length_singleton]
    omega
  · rcases List.mem_append.1 hx with e | e
    · rcases List.mem_append.1 e with e | e
      · exact g1 x (h.fB x (List.mem_append.2 (.inl e)))
      · rw [List.mem_singleton] at e
        subst e
        exact g2
    · exact g1 x (h.fB x (List.mem_append.2 (.inr e)))
  · obtain ⟨k, rfl⟩ : ∃ q, k = q + 2 * s.length + 1 := ⟨k - 2 * s.length - 1, by omega⟩
    unfold worldmintref14_insert.f
    rw [w64 (by omega) (by omega)]
    exact e k
end Go.Proofs.Ytcicjbgfahdejaa.P
