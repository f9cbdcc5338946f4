/- This session's own: the law LotsUnits, plainly. -/
import Derived.Test.YtcicjbgfahdejaaQS7
import Derived.Test.YtcicjbgfahdejaaQL3
namespace Go.Proofs.Ytcicjbgfahdejaa.P
open Go Go.RowKit Go.Sort Go.Proofs.YtcicjbgfahdejaaW.PrintWords Go.Proofs.YtcicjbgfahdejaaW.PrintLast Go.Proofs.YtcicjbgfahdejaaW.PrintMore
set_option linter.unusedSimpArgs false
set_option linter.unusedVariables false
/-- What the law holds of its lists. -/
structure UL (a b s u m e w : List S39) : Prop where
  ka : okS a
  kb : okS b
  ks : okS s
  ku : okS u
  km : okS m
  ke : okS e
  kw : okS w
  la : a.length < 100000
  lb : b.length < 100000
  ls : s.length < 100000
  lu : u.length < 100000
  lm : m.length < 100000
  le : e.length < 100000
  lw : w.length < 100000
  hs : ∀ f i, U s f i ↔ U a f i
  hu : ∀ f i, U u f i ↔ U a f i ∨ U b f i
  hm : ∀ f i, U m f i ↔ U a f i ∧ ¬ U b f i
  he : ∀ f i, U e f i ↔ U a f i ∧ U b f i
  hw : ∀ f i, U w f i ↔ U a f i ∧ ¬ U b f i
def bad (a b : List S39) : Prop := ∃ f i, U a f i ∧ ¬ U b f i
theorem Units_one {a b s u m e w : List S39} (h : UL a b s u m e w) (K : Nat) (x : Bool) (f i : Int) (j : Nat) (hi : i = (j : Int)) (hj : j < 21) (hK : 1000000 ≤ K) (hx : x = false → bad a b) :
    ∃ x' : Bool, (x' = false → bad a b) ∧ worldmintlaw14_LotsUnits.l1 (K + 2) a b s u m e w x f i = worldmintlaw14_LotsUnits.l1 K a b s u m e w x' f ((j + 1 : Nat) : Int) := by
  have es : hasB s f i = hasB a f i := by rw [Bool.eq_iff_iff, hasB_iff, hasB_iff, h.hs]
  have eu : hasB u f i = (hasB a f i || hasB b f i) := by rw [Bool.eq_iff_iff, Bool.or_eq_true, hasB_iff, hasB_iff, hasB_iff, h.hu]
  have em : hasB m f i = (hasB a f i && !hasB b f i) := by rw [Bool.eq_iff_iff, Bool.and_eq_true, Bool.not_eq_true', ← Bool.not_eq_true, hasB_iff, hasB_iff, hasB_iff, h.hm]
  have ee : hasB e f i = (hasB a f i && hasB b f i) := by rw [Bool.eq_iff_iff, Bool.and_eq_true, hasB_iff, hasB_iff, hasB_iff, h.he]
  have ew : hasB w f i = (hasB a f i && !hasB b f i) := by rw [Bool.eq_iff_iff, Bool.and_eq_true, Bool.not_eq_true', ← Bool.not_eq_true, hasB_iff, hasB_iff, hasB_iff, h.hw]
  have gb : hasB a f i = true → hasB b f i = false → bad a b := fun g1 g2 => ⟨f, i, (hasB_iff a f i).1 g1, fun g => by rw [(hasB_iff b f i).2 g] at g2; exact Bool.noConfusion g2⟩
  refine ⟨x && (!hasB a f i || hasB b f i), fun hf => ?_, ?_⟩
  · cases hx' : x with
    | false => exact hx hx'
    | true =>
      rw [hx'] at hf
      cases ha : hasB a f i <;> cases hb : hasB b f i <;> simp [ha, hb] at hf
      exact gb ha hb
  have hw1 : wrap64 (i + 1) = ((j + 1 : Nat) : Int) := by rw [hi]; exact w64_1 j (by omega)
  rw [show K + 2 = (K + 1) + 1 by omega]
  conv => lhs; unfold worldmintlaw14_LotsUnits.l1
  rw [if_pos (by omega), Has_eq a f i h.ka h.la (K + 1) (by omega), Option.bind_some, Has_eq b f i h.kb h.lb (K + 1) (by omega), Option.bind_some, Has_eq s f i h.ks h.ls (K + 1) (by omega), Option.bind_some, Has_eq u f i h.ku h.lu (K + 1) (by omega), Has_eq m f i h.km h.lm (K + 1) (by omega), Has_eq e f i h.ke h.le (K + 1) (by omega), Has_eq w f i h.kw h.lw (K + 1) (by omega)]
  rw [es, eu, em, ee, ew]
  cases ha : hasB a f i <;> cases hb : hasB b f i <;> cases x <;> simp [worldmintlaw14_LotsUnits.j2, hw1]
theorem Units_row {a b s u m e w : List S39} (h : UL a b s u m e w) (f : Int) : ∀ (d j K : Nat) (x : Bool), j + d = 21 → 1000000 ≤ K → (x = false → bad a b) → ∃ x' : Bool, (x' = false → bad a b) ∧ worldmintlaw14_LotsUnits.l1 (K + 2 * d) a b s u m e w x f (j : Int) = worldmintlaw14_LotsUnits.l1 K a b s u m e w x' f 21 := by
  intro d
  induction d with
  | zero =>
    intro j K x hj hK hx
    obtain rfl : j = 21 := by omega
    exact ⟨x, hx, rfl⟩
  | succ d ih =>
    intro j K x hj hK hx
    obtain ⟨x1, h1, e1⟩ := Units_one h (K + 2 * d) x f (j : Int) j rfl (by omega) (by omega) hx
    obtain ⟨x2, h2, e2⟩ := ih (j + 1) K x1 (by omega) hK h1
    exact ⟨x2, h2, by rw [show K + 2 * (d + 1) = K + 2 * d + 2 by omega, e1, e2]⟩
theorem Units_flow {a b s u m e w : List S39} (h : UL a b s u m e w) : ∀ (d j K : Nat) (x : Bool), j + d = 5 → 1000000 ≤ K → (x = false → bad a b) → ∃ x' : Bool, (x' = false → bad a b) ∧ worldmintlaw14_LotsUnits.l0 (K + 44 * d) a b s u m e w x (j : Int) = worldmintlaw14_LotsUnits.l0 K a b s u m e w x' 5 := by
  intro d
  induction d with
  | zero =>
    intro j K x hj hK hx
    obtain rfl : j = 5 := by omega
    exact ⟨x, hx, rfl⟩
  | succ d ih =>
    intro j K x hj hK hx
    obtain ⟨x1, h1, e1⟩ := Units_row h (j : Int) 21 0 (K + 44 * d + 1) x (by omega) (by omega) hx
    obtain ⟨x2, h2, e2⟩ := ih (j + 1) K x1 (by omega) hK h1
    refine ⟨x2, h2, ?_⟩
    rw [show K + 44 * (d + 1) = (K + 44 * d + 1 + 2 * 21) + 1 by omega]
    conv => lhs; unfold worldmintlaw14_LotsUnits.l0
    rw [if_pos (by omega)]
    refine Eq.trans e1 ?_
    conv => lhs; unfold worldmintlaw14_LotsUnits.l1
    rw [if_neg (by omega), w64_1 j (by omega)]
    exact e2
theorem LotsUnits_pure (l0 l1 : List Int) : ∃ k, worldmintlaw14_LotsUnits.f k l0 l1 = some true := by
  obtain ⟨A, lA, gA, hA⟩ := Lots_good l0 0
  obtain ⟨B, lB, gB, hB⟩ := Lots_good l1 0
  have vA := good_V lA gA
  have vB := good_V lB gB
  obtain ⟨s, s1, s2, s3, s4, s5, _⟩ := Set_both vA (by omega)
  obtain ⟨t, t1, t2, t3, t4, t5, _⟩ := Set_both vB (by omega)
  obtain ⟨u, u1, u2, u3, u4, _⟩ := Union_both vA vB (by omega)
  obtain ⟨m, m1, m2, m3, m4, _⟩ := Minus_both vA vB (by omega) (by omega)
  obtain ⟨e, e1, e2, e3, e4, _⟩ := Meet_both vA vB (by omega)
  obtain ⟨S, S1, S2, S3, c, _, w4, _⟩ := Without_both vA vB (by omega) (by omega)
  obtain ⟨W, W1, W2, _⟩ := Within_both vA vB (by omega) (by omega)
  have hfl := flat_len S false A
  have hb2 : A.length * (2 * S.length + 1) ≤ 8 * 17 := Nat.mul_le_mul (by omega) (by omega)
  obtain ⟨q1, q2, q3, _⟩ := joins_all (A.flatMap (pc S false)) [] okS.nil c.ok (by rw [List.length_nil]; omega)
  generalize hw : (A.flatMap (pc S false)).foldl jn [] = w at *
  have h : UL A B s u m e w := ⟨vA.ok, vB.ok, s1.ok, u1.ok, m1.ok, e1.ok, q1, by omega, by omega, by omega, by omega, by omega, by omega, by rw [List.length_nil] at q2; omega, s2, u2, m2, e2, fun f i => by rw [q3, c.units, S2]; simp [U_nil]⟩
  obtain ⟨N, hN⟩ : ∃ N : Nat, N = 2000000 := ⟨_, rfl⟩
  have lv : worldmintlaw14_lives.f N = some true := by rw [hN]; exact lives_2000000
  refine ⟨N + 221, ?_⟩
  unfold worldmintlaw14_LotsUnits.f
  rw [hA _ (by omega), Option.bind_some, hB _ (by omega), Option.bind_some, s5 _ (by omega), Option.bind_some, u4 _ (by omega), Option.bind_some, m4 _ (by omega), Option.bind_some, e4 _ (by omega), Option.bind_some, w4 _ (by omega), Option.bind_some]
  obtain ⟨x, hx, ex⟩ := Units_flow h 5 0 (N + 1) true (by omega) (by omega) (by simp)
  refine Eq.trans ex ?_
  have fl4 : ∀ {l : List S39}, okS l → (∀ f i, U l f i → U A f i ∨ U B f i) → ∀ y ∈ l, y.f0 < ((4 : Nat) : Int) := fun hk hU y hy => by
    have := hk.ok y hy
    rcases hU y.f0 y.f1 ⟨y, hy, rfl, by omega, by omega⟩ with ⟨z, hz, g⟩ | ⟨z, hz, g⟩
    · have := gA z hz; unfold okG at this; unfold In at g; omega
    · have := gB z hz; unfold okG at this; unfold In at g; omega
  obtain ⟨M, hM⟩ : ∃ M : Nat, (M : Int) = 1099511627776 := ⟨1099511627776, rfl⟩
  have ns := c2_NF M 4 hM s s1.nf s1.ok (fl4 s1.ok fun f i g => .inl ((s2 f i).1 g))
  have nt := c2_NF M 4 hM t t1.nf t1.ok (fl4 t1.ok fun f i g => .inr ((t2 f i).1 g))
  have nu := c2_NF M 4 hM u u1.nf u1.ok (fl4 u1.ok fun f i g => (u2 f i).1 g)
  have nm := c2_NF M 4 hM m m1.nf m1.ok (fl4 m1.ok fun f i g => .inl ((m2 f i).1 g).1)
  have ne := c2_NF M 4 hM e e1.nf e1.ok (fl4 e1.ok fun f i g => .inl ((e2 f i).1 g).1)
  have o1 := c2_or (U A) (U B) M 4
  have o2 := c2_or (U m) (U e) M 4
  rw [c2_congr (P := fun f i => U A f i ∨ U B f i) (Q := U u) (fun f i => (u2 f i).symm), c2_congr (P := fun f i => U A f i ∧ U B f i) (Q := U e) (fun f i => (e2 f i).symm), c2_congr (P := U A) (Q := U s) (fun f i => (s2 f i).symm), c2_congr (P := U B) (Q := U t) (fun f i => (t2 f i).symm)] at o1
  rw [c2_congr (P := fun f i => U m f i ∨ U e f i) (Q := U s) (fun f i => by rw [m2, e2, s2]; constructor; (rintro (g | g) <;> exact g.1); (intro g; by_cases hb : U B f i; exact .inr ⟨g, hb⟩; exact .inl ⟨g, hb⟩)), c2_none (P := fun f i => U m f i ∧ U e f i) (fun f i g => ((m2 f i).1 g.1).2 ((e2 f i).1 g.2).2)] at o2
  have Vs : V 100 s := ⟨s1.ok, s1.fl, by omega⟩
  have Vt : V 100 t := ⟨t1.ok, t1.fl, by omega⟩
  have Vu : V 100 u := ⟨u1.ok, u1.fl, by omega⟩
  have Vm : V 100 m := ⟨m1.ok, m1.fl, by omega⟩
  have Ve : V 100 e := ⟨e1.ok, e1.fl, by omega⟩
  have T : ∀ {l : List S39}, V 100 l → ∀ k, 1000000 ≤ k → lots_Total.f k l = some (sumN l) := fun {l} hV k hk => by
    have := hV.len
    rw [lots_Total_eq l k (by omega) (by omega), tot_sum hV (by omega)]
  have r : ∀ {l : List S39}, V 100 l → 0 ≤ sumN l ∧ sumN l ≤ 4503599627370496 := fun hV => by rw [← tot_sum hV (by omega)]; exact tot_range _
  have r1 := r Vs; have r2 := r Vt; have r3 := r Vu; have r4 := r Vm; have r5 := r Ve
  conv => lhs; unfold worldmintlaw14_LotsUnits.l0
  rw [if_neg (by omega)]
  have fin : ((lots_Total.f N u).bind fun t893 => ((lots_Total.f N s).bind fun t894 => ((lots_Set.f N B).bind fun t895 => ((lots_Total.f N t895).bind fun t898 => ((lots_Total.f N e).bind fun t899 => (if t893 = (wrap64 ((wrap64 (t894 + t898)) - t899)) then ((lots_Total.f N s).bind fun t900 => ((lots_Total.f N m).bind fun t901 => ((lots_Total.f N e).bind fun t902 => (if t900 = (wrap64 (t901 + t902)) then ((worldmintlaw14_lives.f N).bind fun t903 => (some t903)) else (some false))))) else (some false))))))) = some true := by
    rw [T Vu _ (by omega), Option.bind_some, T Vs _ (by omega), Option.bind_some, t5 _ (by omega), Option.bind_some, T Vt _ (by omega), Option.bind_some, T Ve _ (by omega), Option.bind_some, w64 (x := sumN s + sumN t) (by omega) (by omega), w64 (by omega) (by omega), if_pos (by omega), Option.bind_some, T Vm _ (by omega), Option.bind_some, Option.bind_some, w64 (by omega) (by omega), if_pos (by omega), lv, Option.bind_some]
  have hW : x = false → W = false := fun hx' => by
    cases hW : W with
    | false => rfl
    | true =>
      obtain ⟨f, i, g1, g2⟩ := hx hx'
      exact absurd (W1.1 hW f i g1) g2
  cases x with
  | true => rw [if_pos rfl]; exact fin
  | false =>
    rw [if_neg (by decide), W2 N (by omega), Option.bind_some, hW rfl, if_neg (by decide)]
    exact fin
end Go.Proofs.Ytcicjbgfahdejaa.P
