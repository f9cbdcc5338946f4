/- This session's own: lots.pieces and lots.chosen, plainly. -/
import Derived.Test.YtcicjbgfahdejaaQS2
namespace Go.Proofs.Ytcicjbgfahdejaa.P
open Go Go.RowKit Go.Sort Go.Proofs.YtcicjbgfahdejaaW.PrintWords Go.Proofs.YtcicjbgfahdejaaW.PrintLast Go.Proofs.YtcicjbgfahdejaaW.PrintMore
set_option linter.unusedSimpArgs false
set_option linter.unusedVariables false
/-- A lot that is possible and whose flow is an int. -/
def ok1 (x : S39) : Prop := 0 ≤ x.f0 ∧ 0 ≤ x.f1 ∧ 1 ≤ x.f2 ∧ x.f1 + x.f2 ≤ 1099511627776
def fl (l : List S39) : Prop := ∀ x ∈ l, x.f0 ≤ 9223372036854775807
def lessS (s x : S39) : Prop := s.f0 < x.f0 ∨ s.f0 = x.f0 ∧ s.f1 + s.f2 ≤ x.f1
theorem cmp_eq (s x : S39) (hs : ok1 s) (hx : ok1 x) (fs : s.f0 ≤ 9223372036854775807) (fx : x.f0 ≤ 9223372036854775807) : ∃ c, lots_pieces_1_1.f s.f0 s.f1 s.f2 x.f0 x.f1 x.f2 = some c ∧ (c < 0 ↔ lessS s x) := by
  unfold lots_pieces_1_1.f lots_end.f lessS
  unfold ok1 at hs hx
  by_cases e : s.f0 = x.f0
  · refine ⟨s.f1 + s.f2 - 1 - x.f1, ?_, by omega⟩
    rw [if_pos e, Option.bind_some, w64 (x := s.f1 + s.f2) (by omega) (by omega), w64 (x := s.f1 + s.f2 - 1) (by omega) (by omega), w64 (by omega) (by omega)]
  · refine ⟨s.f0 - x.f0, ?_, by omega⟩
    rw [if_neg e, w64 (by omega) (by omega)]
theorem less_mono {s : List S39} (hn : NF s) (x : S39) {i j : Nat} (hij : i ≤ j) (hj : j < s.length) (h : lessS (s[j]) x) : lessS (s[i]'(by omega)) x := by
  by_cases e : i = j
  · subst e; exact h
  · have hb := List.pairwise_iff_getElem.1 hn.pw i j (by omega) hj (by omega)
    have := hn.pos s[j] (List.getElem_mem hj)
    unfold bef at hb
    unfold lessS at *
    omega
theorem search_eq (s : List S39) (x : S39) (hn : NF s) (hs : okS s) (hx : ok1 x) (fs : fl s) (fx : x.f0 ≤ 9223372036854775807) (hl : s.length ≤ 1000000) : ∀ (d k i j : Nat), j - i ≤ d → i ≤ j → j ≤ s.length → (∀ m (h : m < s.length), m < i → lessS s[m] x) → (∀ m (h : m < s.length), j ≤ m → ¬ lessS s[m] x) → d < k →
    ∃ (p : Nat) (b : Bool), api_Lot_95.l0 k s (s.length : Int) (i : Int) (j : Int) x.f0 x.f1 x.f2 = some ((p : Int), b) ∧ p ≤ s.length ∧ (∀ m (h : m < s.length), m < p → lessS s[m] x) ∧ (∀ m (h : m < s.length), p ≤ m → ¬ lessS s[m] x) := by
  intro d
  induction d with
  | zero =>
    intro k i j hd hij hj h1 h2 hk
    obtain ⟨k, rfl⟩ : ∃ q, k = q + 1 := ⟨k - 1, by omega⟩
    obtain rfl : i = j := by omega
    unfold api_Lot_95.l0
    rw [if_neg (by omega)]
    by_cases hc : (i : Int) < s.length
    · obtain ⟨c, hc1, _⟩ := cmp_eq s[i] x (hs.ok _ (List.getElem_mem _)) hx (fs _ (List.getElem_mem _)) fx
      rw [if_pos hc, if_pos (by omega), if_pos hc, rd39_nat s i (by omega), hc1, Option.bind_some]
      exact ⟨i, _, rfl, hj, h1, h2⟩
    · rw [if_neg hc]
      exact ⟨i, _, rfl, hj, h1, h2⟩
  | succ d ih =>
    intro k i j hd hij hj h1 h2 hk
    obtain ⟨k, rfl⟩ : ∃ q, k = q + 1 := ⟨k - 1, by omega⟩
    unfold api_Lot_95.l0
    by_cases hc : i = j
    · subst hc
      rw [if_neg (by omega)]
      by_cases hc : (i : Int) < s.length
      · obtain ⟨c, hc1, _⟩ := cmp_eq s[i] x (hs.ok _ (List.getElem_mem _)) hx (fs _ (List.getElem_mem _)) fx
        rw [if_pos hc, if_pos (by omega), if_pos hc, rd39_nat s i (by omega), hc1, Option.bind_some]
        exact ⟨i, _, rfl, hj, h1, h2⟩
      · rw [if_neg hc]
        exact ⟨i, _, rfl, hj, h1, h2⟩
    · have em : wrap64 ((IntKind.u64.wrap (wrap64 ((i : Int) + (j : Int)))) / 2) = (((i + j) / 2 : Nat) : Int) := by
        rw [w64 (x := (i : Int) + j) (by omega) (by omega), show IntKind.u64.wrap ((i : Int) + j) = (i : Int) + j by
          have : IntKind.u64.wrap ((i : Int) + j) = ((i : Int) + j) % 18446744073709551616 := by simp [IntKind.wrap, IntKind.bits, IntKind.signed]
          rw [this]; omega, w64 (by omega) (by omega)]
        omega
      rw [em]
      generalize hm : (i + j) / 2 = m
      have hml : m < s.length := by omega
      obtain ⟨c, hc1, hc2⟩ := cmp_eq s[m] x (hs.ok _ (List.getElem_mem _)) hx (fs _ (List.getElem_mem _)) fx
      rw [if_pos (by omega), if_pos (by omega), if_pos (by omega), rd39_nat s m hml, hc1, Option.bind_some]
      by_cases h : c < 0
      · rw [if_pos h, w64_1 m (by omega)]
        exact ih k (m + 1) j (by omega) (by omega) hj (fun q hq hqm => less_mono hn x (show q ≤ m by omega) hml (hc2.1 h)) h2 (by omega)
      · rw [if_neg h]
        exact ih k i m (by omega) (by omega) (by omega) h1 (fun q hq hqm hless => h (hc2.2 (less_mono hn x hqm hq hless))) (by omega)
def sel (b : Bool) (P : List (S39 × Bool)) : List S39 := (P.filter fun p => p.2 == b).map (·.1)
theorem fold_sel (b : Bool) : ∀ (P : List (S39 × Bool)) (o : List S39), P.foldl (stepC b) o = (sel b P).foldl jn o
  | [], o => rfl
  | p :: P, o => by
    rw [List.foldl_cons, fold_sel b P]
    unfold stepC sel
    rw [List.filter_cons]
    split <;> rfl
theorem sel_append (b : Bool) (P Q : List (S39 × Bool)) : sel b (P ++ Q) = sel b P ++ sel b Q := by simp [sel]
def sumN (l : List S39) : Int := (l.map (·.f2)).sum
theorem sumN_cons (x : S39) (l : List S39) : sumN (x :: l) = x.f2 + sumN l := by simp [sumN]
theorem sumN_append (a b : List S39) : sumN (a ++ b) = sumN a + sumN b := by simp [sumN]
structure Pieces (x : S39) (t : List S39) (at_ : Int) (F T : List S39) : Prop where
  nF : NF F
  nT : NF T
  pF : ∀ y ∈ F, y.f0 = x.f0 ∧ at_ ≤ y.f1 ∧ y.f1 + y.f2 ≤ x.f1 + x.f2
  pT : ∀ y ∈ T, y.f0 = x.f0 ∧ at_ ≤ y.f1 ∧ y.f1 + y.f2 ≤ x.f1 + x.f2
  uF : ∀ f i, U F f i ↔ f = x.f0 ∧ at_ ≤ i ∧ i < x.f1 + x.f2 ∧ ¬ U t f i
  uT : ∀ f i, U T f i ↔ f = x.f0 ∧ at_ ≤ i ∧ i < x.f1 + x.f2 ∧ U t f i
  sum : sumN F + sumN T = x.f1 + x.f2 - at_
theorem pieces_tail (x : S39) (hx : ok1 x) (t : List S39) (at_ : Int) (h0 : x.f1 ≤ at_) (h1 : at_ ≤ x.f1 + x.f2) (ht : ∀ s ∈ t, x.f0 < s.f0 ∨ x.f0 = s.f0 ∧ x.f1 + x.f2 ≤ s.f1) : Pieces x t at_ (sel false (tailL x at_)) (sel true (tailL x at_)) := by
  unfold ok1 at hx
  have he : endL x = x.f1 + x.f2 := w64 (by omega) (by omega)
  have hu : ∀ i, i < x.f1 + x.f2 → ¬ U t x.f0 i := fun i hi ⟨s, hs, h1, h2, h3⟩ => by have := ht s hs; omega
  unfold tailL
  rw [he]
  by_cases h : at_ < x.f1 + x.f2
  · rw [if_pos h, w64 (by omega) (by omega)]
    have eF : sel false [(⟨x.f0, at_, x.f1 + x.f2 - at_⟩, false)] = [⟨x.f0, at_, x.f1 + x.f2 - at_⟩] := rfl
    have eT : sel true [((⟨x.f0, at_, x.f1 + x.f2 - at_⟩ : S39), false)] = [] := rfl
    rw [eF, eT]
    refine ⟨NF.single (by simp only; omega), NF.nil, fun y hy => ?_, fun y hy => by simp at hy, fun f i => ?_, fun f i => ?_, by simp [sumN]⟩
    · rw [List.mem_singleton] at hy
      subst hy
      refine ⟨rfl, ?_, ?_⟩ <;> simp only <;> omega
    · rw [U_single]
      unfold In
      simp only
      constructor
      · rintro ⟨rfl, h2, h3⟩
        exact ⟨rfl, h2, by omega, hu i (by omega)⟩
      · rintro ⟨rfl, h2, h3, _⟩
        exact ⟨rfl, h2, by omega⟩
    · constructor
      · intro h; exact absurd h (U_nil _ _)
      · rintro ⟨rfl, h2, h3, h4⟩
        exact absurd h4 (hu i h3)
  · rw [if_neg h]
    have e : ∀ b, sel b ([] : List (S39 × Bool)) = [] := fun b => rfl
    rw [e, e]
    refine ⟨NF.nil, NF.nil, by simp, by simp, fun f i => ?_, fun f i => ?_, by simp [sumN]; omega⟩
    · constructor
      · intro h; exact absurd h (U_nil _ _)
      · rintro ⟨rfl, h2, h3, h4⟩; omega
    · constructor
      · intro h; exact absurd h (U_nil _ _)
      · rintro ⟨rfl, h2, h3, h4⟩; omega
theorem pieces_go (x : S39) (hx : ok1 x) : ∀ (t : List S39) (at_ : Int), NF t → okS t → x.f1 ≤ at_ → at_ ≤ x.f1 + x.f2 → (∀ s ∈ t, x.f0 < s.f0 ∨ x.f0 = s.f0 ∧ at_ < s.f1 + s.f2 ∧ (at_ < x.f1 + x.f2 ∨ x.f1 + x.f2 ≤ s.f1)) → Pieces x t at_ (sel false (piecesGo x t at_)) (sel true (piecesGo x t at_))
  | [], at_, _, _, h0, h1, _ => pieces_tail x hx [] at_ h0 h1 (by simp)
  | s :: t, at_, hn, hk, h0, h1, hh => by
    have hx' := hx
    unfold ok1 at hx'
    have he : endL x = x.f1 + x.f2 := w64 (by omega) (by omega)
    obtain ⟨hs, hkt⟩ := hk.cons
    have hes : endL s = s.f1 + s.f2 := w64 (by omega) (by omega)
    obtain ⟨hs1, hnt, hst⟩ := hn.cons
    have hs0 := hh s (List.mem_cons_self ..)
    unfold piecesGo
    rw [he, hes]
    by_cases hc : s.f0 = x.f0 ∧ s.f1 < x.f1 + x.f2
    · rw [if_pos hc]
      obtain ⟨c0, c1⟩ := hc
      have hfrom := mx_le at_ s.f1
      have hto := mn_le (x.f1 + x.f2) (s.f1 + s.f2)
      generalize hF : mx at_ s.f1 = fr at *
      generalize hT : mn (x.f1 + x.f2) (s.f1 + s.f2) = tz at *
      have hlt : fr < tz := by omega
      have R := pieces_go x hx t tz hnt hkt (by omega) (by omega) (fun s' hs' => by
        have h2 := hst s' hs'
        have h3 := hkt.ok s' hs'
        unfold bef at h2
        rcases h2 with h2 | ⟨h2, h4⟩
        · exact .inl (by omega)
        · exact .inr ⟨by omega, by omega, by omega⟩)
      have hut : ∀ f i, U t f i → s.f0 < f ∨ s.f0 = f ∧ s.f1 + s.f2 < i := by
        rintro f i ⟨s', hs', g1, g2, g3⟩
        have := hst s' hs'
        unfold bef at this
        omega
      rw [w64 (x := fr - at_) (by omega) (by omega), w64 (x := tz - fr) (by omega) (by omega)]
      have eT : sel true ((if at_ < fr then [((⟨x.f0, at_, fr - at_⟩ : S39), false)] else []) ++ ((⟨x.f0, fr, tz - fr⟩ : S39), true) :: piecesGo x t tz) = (⟨x.f0, fr, tz - fr⟩ : S39) :: sel true (piecesGo x t tz) := by
        rw [sel_append]; split <;> rfl
      have eF : sel false ((if at_ < fr then [((⟨x.f0, at_, fr - at_⟩ : S39), false)] else []) ++ ((⟨x.f0, fr, tz - fr⟩ : S39), true) :: piecesGo x t tz) = (if at_ < fr then [(⟨x.f0, at_, fr - at_⟩ : S39)] else []) ++ sel false (piecesGo x t tz) := by
        rw [sel_append]; split <;> rfl
      rw [eT, eF]
      generalize sel true (piecesGo x t tz) = T at *
      generalize sel false (piecesGo x t tz) = F at *
      refine ⟨?_, NF.mk' (by simp only; omega) R.nT (fun y hy => ?_), fun y hy => ?_, fun y hy => ?_, fun f i => ?_, fun f i => ?_, ?_⟩
      · split
        · refine NF.append (NF.single (by simp only; omega)) R.nF (fun a ha y hy => ?_)
          rw [List.mem_singleton] at ha
          subst ha
          have := R.pF y hy
          unfold bef
          simp only
          omega
        · exact R.nF
      · have h2 := R.pT y hy
        have h3 := R.nT.pos y hy
        have h4 := ((R.uT y.f0 y.f1).1 ⟨y, hy, rfl, by omega, by omega⟩).2.2.2
        have := hut _ _ h4
        unfold bef
        simp only
        omega
      · rcases List.mem_append.1 hy with e | e
        · split at e
          · rw [List.mem_singleton] at e
            subst e
            refine ⟨rfl, ?_, ?_⟩ <;> simp only <;> omega
          · simp at e
        · have := R.pF y e; omega
      · rcases List.mem_cons.1 hy with e | e
        · subst e; refine ⟨rfl, ?_, ?_⟩ <;> simp only <;> omega
        · have := R.pT y e; omega
      · rw [U_append, R.uF, U_cons]
        have hsplit : U (if at_ < fr then [(⟨x.f0, at_, fr - at_⟩ : S39)] else []) f i ↔ f = x.f0 ∧ at_ ≤ i ∧ i < fr := by
          split
          · rw [U_single]; unfold In; simp only; constructor <;> rintro ⟨h1, h2, h3⟩ <;> exact ⟨by omega, by omega, by omega⟩
          · constructor
            · intro h; exact absurd h (U_nil _ _)
            · rintro ⟨h1, h2, h3⟩; omega
        rw [hsplit]
        constructor
        · rintro (⟨g1, g2, g3⟩ | ⟨g1, g2, g3, g4⟩)
          · refine ⟨g1, g2, by omega, ?_⟩
            rintro (g | g)
            · unfold In at g; omega
            · have := hut _ _ g; omega
          · refine ⟨g1, by omega, g3, ?_⟩
            rintro (g | g)
            · unfold In at g; omega
            · exact g4 g
        · rintro ⟨g1, g2, g3, g4⟩
          by_cases h : i < fr
          · exact .inl ⟨g1, g2, h⟩
          · refine .inr ⟨g1, ?_, g3, fun g => g4 (.inr g)⟩
            by_cases h2 : tz ≤ i
            · exact h2
            · exfalso
              exact g4 (.inl ⟨by omega, by omega, by omega⟩)
      · rw [U_cons, R.uT, U_cons]
        unfold In
        simp only
        constructor
        · rintro (⟨g1, g2, g3⟩ | ⟨g1, g2, g3, g4⟩)
          · exact ⟨g1.symm, by omega, by omega, .inl ⟨by omega, by omega, by omega⟩⟩
          · exact ⟨g1, by omega, g3, .inr g4⟩
        · rintro ⟨g1, g2, g3, g4 | g4⟩
          · exact .inl ⟨by omega, by omega, by omega⟩
          · have := hut _ _ g4
            exact .inr ⟨g1, by omega, g3, g4⟩
      · have h2 := R.sum
        rw [sumN_append, sumN_cons]
        simp only
        split
        · simp only [sumN, List.map_cons, List.map_nil, List.sum_cons, List.sum_nil] at *
          omega
        · simp only [sumN, List.map_nil, List.sum_nil] at *
          omega
    · rw [if_neg hc]
      refine pieces_tail x hx (s :: t) at_ h0 h1 (fun y hy => ?_)
      have h2 := hh y hy
      rcases List.mem_cons.1 hy with e | e
      · subst e; omega
      · have := hst y e
        unfold bef at this
        omega
/-- The parts of a lot that are (b), or are not, in a set. -/
def pc (s : List S39) (b : Bool) (x : S39) : List S39 := sel b (piecesOf s x)
theorem pc_ok (s : List S39) (x : S39) (hn : NF s) (hs : okS s) (hx : ok1 x) (fs : fl s) (fx : x.f0 ≤ 9223372036854775807) (hl : s.length ≤ 1000000) : okStart s x = true ∧ Pieces x s x.f1 (pc s false x) (pc s true x) := by
  obtain ⟨p, b, h1, h2, h3, h4⟩ := search_eq s x hn hs hx fs fx hl s.length (s.length + 2) 0 s.length (by omega) (by omega) (by omega) (fun m h hm => by omega) (fun m h hm => by omega) (by omega)
  have e : startC s x = some ((p : Int), b) := h1
  have hx' := hx
  unfold ok1 at hx'
  refine ⟨by unfold okStart; rw [e]; simp, ?_⟩
  unfold pc piecesOf
  rw [e]
  simp only [Int.toNat_natCast]
  have hdrop : NF (s.drop p) := by
    have : NF (s.take p ++ s.drop p) := by rw [List.take_append_drop]; exact hn
    exact this.of_append.2.1
  have R := pieces_go x hx (s.drop p) x.f1 hdrop ⟨fun y hy => hs.ok y (List.mem_of_mem_drop hy)⟩ (by omega) (by omega) (fun y hy => by
    obtain ⟨m, hm, rfl⟩ := List.getElem_of_mem hy
    rw [List.getElem_drop]
    have := h4 (p + m) (by simp at hm; omega) (by omega)
    unfold lessS at this
    omega)
  have hU : ∀ i, x.f1 ≤ i → (U s x.f0 i ↔ U (s.drop p) x.f0 i) := by
    intro i hi
    constructor
    · rintro ⟨y, hy, g1, g2, g3⟩
      obtain ⟨m, hm, rfl⟩ := List.getElem_of_mem hy
      by_cases hmp : m < p
      · have := h3 m hm hmp
        unfold lessS at this
        omega
      · refine ⟨s[m], ?_, g1, g2, g3⟩
        have : s[m] = (s.drop p)[m - p]'(by simp; omega) := by rw [List.getElem_drop]; congr 1; omega
        rw [this]
        exact List.getElem_mem _
    · rintro ⟨y, hy, h⟩
      exact ⟨y, List.mem_of_mem_drop hy, h⟩
  exact ⟨R.nF, R.nT, R.pF, R.pT, fun f i => by
    rw [R.uF]
    constructor
    · rintro ⟨rfl, g2, g3, g4⟩; exact ⟨rfl, g2, g3, fun h => g4 ((hU i g2).1 h)⟩
    · rintro ⟨rfl, g2, g3, g4⟩; exact ⟨rfl, g2, g3, fun h => g4 ((hU i g2).2 h)⟩, fun f i => by
    rw [R.uT]
    constructor
    · rintro ⟨rfl, g2, g3, g4⟩; exact ⟨rfl, g2, g3, (hU i g2).2 g4⟩
    · rintro ⟨rfl, g2, g3, g4⟩; exact ⟨rfl, g2, g3, (hU i g2).1 g4⟩, R.sum⟩
theorem chosen_flat (s : List S39) (b : Bool) : ∀ (l out : List S39), chosenL s b l out = (l.flatMap (pc s b)).foldl jn out
  | [], out => rfl
  | x :: l, out => by
    have := chosen_flat s b l ((piecesOf s x).foldl (stepC b) out)
    unfold chosenL at *
    rw [List.foldl_cons, this, List.flatMap_cons, List.foldl_append, fold_sel]
    rfl
theorem pc_len (s : List S39) (b : Bool) (x : S39) : (pc s b x).length ≤ 2 * s.length + 1 := by
  unfold pc sel
  rw [List.length_map]
  exact Nat.le_trans (List.length_filter_le _ _) (piecesOf_len s x)
theorem flat_len (s : List S39) (b : Bool) : ∀ l : List S39, (l.flatMap (pc s b)).length ≤ l.length * (2 * s.length + 1)
  | [] => by simp
  | x :: l => by
    have h1 := pc_len s b x
    have h2 := flat_len s b l
    rw [List.flatMap_cons, List.length_append, List.length_cons, Nat.add_mul]
    omega
theorem chosen_eq (l s : List S39) (b : Bool) (hn : NF s) (hs : okS s) (hl : okS l) (fs : fl s) (fl_ : fl l) (h1 : l.length ≤ 65536) (h2 : s.length ≤ 65536) : lots_chosen.f l s b = some ((l.flatMap (pc s b)).foldl jn []) := by
  unfold lots_chosen.f
  rw [if_pos ⟨h1, h2, List.all_eq_true.2 (fun x hx => (pc_ok s x hn hs (hl.ok x hx) fs (fl_ x hx) (by omega)).1)⟩, chosen_flat]
/-- What is taken out of lots by a set: its units, and that it stands in normal form if the lots do. -/
structure Chosen (l s : List S39) (b : Bool) (r : List S39) : Prop where
  ok : okS r
  nf : NF l → NF r
  units : ∀ f i, U r f i ↔ U l f i ∧ (U s f i ↔ b = true)
  flows : fl r
theorem pc_units {s : List S39} {x : S39} (h : Pieces x s x.f1 (pc s false x) (pc s true x)) (b : Bool) : NF (pc s b x) ∧ (∀ y ∈ pc s b x, part x y) ∧ ∀ f i, U (pc s b x) f i ↔ In x f i ∧ (U s f i ↔ b = true) := by
  cases b with
  | false =>
    refine ⟨h.nF, fun y hy => ?_, fun f i => ?_⟩
    · have := h.pF y hy; unfold part; omega
    · rw [h.uF]
      unfold In
      constructor
      · rintro ⟨g1, g2, g3, g4⟩; exact ⟨⟨g1.symm, g2, g3⟩, by simp [g4]⟩
      · rintro ⟨⟨g1, g2, g3⟩, g4⟩; exact ⟨g1.symm, g2, g3, by simpa using g4⟩
  | true =>
    refine ⟨h.nT, fun y hy => ?_, fun f i => ?_⟩
    · have := h.pT y hy; unfold part; omega
    · rw [h.uT]
      unfold In
      constructor
      · rintro ⟨g1, g2, g3, g4⟩; exact ⟨⟨g1.symm, g2, g3⟩, by simp [g4]⟩
      · rintro ⟨⟨g1, g2, g3⟩, g4⟩; exact ⟨g1.symm, g2, g3, by simpa using g4⟩
theorem flat_chosen (l s : List S39) (b : Bool) (hn : NF s) (hs : okS s) (hl : okS l) (fs : fl s) (fl_ : fl l) (h2 : s.length ≤ 65536) : Chosen l s b (l.flatMap (pc s b)) := by
  have hp : ∀ x ∈ l, NF (pc s b x) ∧ (∀ y ∈ pc s b x, part x y) ∧ ∀ f i, U (pc s b x) f i ↔ In x f i ∧ (U s f i ↔ b = true) := fun x hx => pc_units (pc_ok s x hn hs (hl.ok x hx) fs (fl_ x hx) (by omega)).2 b
  refine ⟨⟨fun y hy => ?_⟩, fun hN => NF.flatMap hN (fun x hx => ⟨(hp x hx).1, (hp x hx).2.1⟩), fun f i => ?_, fun y hy => ?_⟩
  · obtain ⟨x, hx, hxy⟩ := List.mem_flatMap.1 hy
    have h1 := (hp x hx).2.1 y hxy
    have h2 := (hp x hx).1.pos y hxy
    have h3 := hl.ok x hx
    unfold part at h1
    omega
  · rw [U_flatMap]
    constructor
    · rintro ⟨x, hx, h⟩
      have := ((hp x hx).2.2 f i).1 h
      exact ⟨⟨x, hx, this.1⟩, this.2⟩
    · rintro ⟨⟨x, hx, h⟩, h2⟩
      exact ⟨x, hx, ((hp x hx).2.2 f i).2 ⟨h, h2⟩⟩
  · obtain ⟨x, hx, hxy⟩ := List.mem_flatMap.1 hy
    have h1 := (hp x hx).2.1 y hxy
    have := fl_ x hx
    unfold part at h1
    omega
end Go.Proofs.Ytcicjbgfahdejaa.P
