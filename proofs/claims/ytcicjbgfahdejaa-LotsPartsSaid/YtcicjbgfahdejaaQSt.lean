/- This session's own: insertion sort from the numbers in their order is stable; the first greatest of what is left is the next of the sorted list. -/
import Derived.Sort.LotA
import Derived.Sort.Statements
import Derived.Sort.Row
namespace Go.Sort
variable {m : Nat}
theorem swp_at {α : Type} [Inhabited α] (d : Array α) (i j : Nat) (hi : i < d.size) (hj : j < d.size) (hij : i ≠ j) : (swp d i j)[j]! = d[i]! ∧ (swp d i j)[i]! = d[j]! ∧ ∀ k, k ≠ i → k ≠ j → (swp d i j)[k]! = d[k]! := by
  unfold swp
  refine ⟨?_, ?_, fun k h1 h2 => ?_⟩
  · rw [getElem!_set_same _ _ _ (by simpa using hj)]
  · rw [getElem!_set_other _ _ _ _ hij, getElem!_set_same _ _ _ hi]
  · rw [getElem!_set_other _ _ _ _ h2, getElem!_set_other _ _ _ _ h1]
theorem swp_sz {α : Type} [Inhabited α] (d : Array α) (i j : Nat) : (swp d i j).size = d.size := by simp [swp]
/-- What is moved down is behind all that it passes: the two orders answer alike. -/
theorem insInner_agree {α : Type} [Inhabited α] (lt lt' : α → α → Bool) (p : α → α → Prop) (hp : ∀ x y, p y x → lt x y = lt' x y) (a : Nat) : ∀ (j : Nat) (d : Array α) (v : α), j < d.size → d[j]! = v → (∀ k, k < j → p d[k]! v) → insInner lt a j d = insInner lt' a j d
  | 0, d, v, _, _, _ => rfl
  | j + 1, d, v, hj, hv, hk => by
    unfold insInner
    have e : lt d[j + 1]! d[j]! = lt' d[j + 1]! d[j]! := by rw [hv]; exact hp _ _ (hk j (by omega))
    rw [e]
    split
    · obtain ⟨h1, h2, h3⟩ := swp_at d (j + 1) j hj (by omega) (by omega)
      refine insInner_agree lt lt' p hp a j _ v (by rw [swp_sz]; omega) (h1.trans hv) (fun k hkj => ?_)
      rw [h3 k (by omega) (by omega)]
      exact hk k (by omega)
    · rfl
theorem insInner_all {α : Type} [Inhabited α] (lt : α → α → Bool) (P : α → Prop) (a : Nat) : ∀ (j : Nat) (d : Array α), j < d.size → (∀ k, k ≤ j → P d[k]!) → (insInner lt a j d).size = d.size ∧ (∀ k, k ≤ j → P (insInner lt a j d)[k]!) ∧ ∀ k, j < k → (insInner lt a j d)[k]! = d[k]!
  | 0, d, _, h => ⟨rfl, h, fun _ _ => rfl⟩
  | j + 1, d, hj, h => by
    unfold insInner
    split
    · obtain ⟨h1, h2, h3⟩ := swp_at d (j + 1) j hj (by omega) (by omega)
      obtain ⟨g0, g1, g2⟩ := insInner_all lt P a j (swp d (j + 1) j) (by rw [swp_sz]; omega) (fun k hk => by
        by_cases e : k = j
        · subst e; rw [h1]; exact h _ (Nat.le_refl _)
        · rw [h3 k (by omega) e]; exact h k (by omega))
      refine ⟨g0.trans (swp_sz ..), fun k hk => ?_, fun k hk => ?_⟩
      · by_cases e : k = j + 1
        · subst e; rw [g2 _ (by omega), h2]; exact h _ (by omega)
        · exact g1 k (by omega)
      · rw [g2 k (by omega), h3 k (by omega) (by omega)]
    · exact ⟨rfl, h, fun _ _ => rfl⟩
/-- From the numbers in their order, 'less' and 'less, or even and before' sort alike. -/
theorem insOuter_agree (lt lt' : Fin (m + 1) → Fin (m + 1) → Bool) (hp : ∀ x y : Fin (m + 1), y < x → lt x y = lt' x y) (b : Nat) (hb : b ≤ m + 1) : ∀ (n i : Nat) (d : Array (Fin (m + 1))), b - i = n → d.size = m + 1 → (∀ k, i ≤ k → k < m + 1 → (d[k]! : Nat) = k) → (∀ k, k < i → (d[k]! : Nat) < i) →
    insOuter lt 0 b i d = insOuter lt' 0 b i d
  | 0, i, d, h, _, _, _ => by
    rw [insOuter, if_neg (by omega), insOuter, if_neg (by omega)]
  | n + 1, i, d, h, hs, h1, h2 => by
    have hi : i < b := by omega
    have e : insInner lt 0 i d = insInner lt' 0 i d := insInner_agree lt lt' (fun y x => y < x) hp 0 i d d[i]! (by omega) rfl (fun k hk => by
      show (d[k]! : Nat) < (d[i]! : Nat)
      rw [h1 i (Nat.le_refl _) (by omega)]
      exact h2 k hk)
    obtain ⟨g0, g1, g2⟩ := insInner_all lt' (fun x : Fin (m + 1) => (x : Nat) < i + 1) 0 i d (by omega) (fun k hk => by
      by_cases e : k = i
      · subst e; rw [h1 k (Nat.le_refl _) (by omega)]; omega
      · have := h2 k (by omega); omega)
    rw [insOuter, if_pos hi, e]
    conv => rhs; rw [insOuter, if_pos hi]
    exact insOuter_agree lt lt' hp b hb n (i + 1) _ (by omega) (g0.trans hs) (fun k hk hk2 => by rw [g2 k (by omega)]; exact h1 k (by omega) hk2) (fun k hk => g1 k (by omega))
def ltK (key : Fin (m + 1) → Int) (x y : Fin (m + 1)) : Bool := decide (key y < key x)
def ltI (key : Fin (m + 1) → Int) (x y : Fin (m + 1)) : Bool := decide (key y < key x ∨ key y = key x ∧ x < y)
theorem ltI_swo (key : Fin (m + 1) → Int) : SWO (ltI key) where
  irrefl x := by simp [ltI]
  trans x y z h1 h2 := by
    simp only [ltI, decide_eq_true_eq, Fin.lt_def] at *
    omega
  ntrans x y z h1 h2 := by
    simp only [ltI, decide_eq_false_iff_not, Fin.lt_def] at *
    omega
theorem stable_sort (key : Fin (m + 1) → Int) :
    (insertionSort (ltK key) (Array.ofFn fun i : Fin (m + 1) => i) 0 (m + 1)).size = m + 1 ∧
    (∀ i j, i < j → j < m + 1 → ltI key (insertionSort (ltK key) (Array.ofFn fun i : Fin (m + 1) => i) 0 (m + 1))[i]! (insertionSort (ltK key) (Array.ofFn fun i : Fin (m + 1) => i) 0 (m + 1))[j]! = true) ∧
    (∀ x, ∃ i, i < m + 1 ∧ (insertionSort (ltK key) (Array.ofFn fun i : Fin (m + 1) => i) 0 (m + 1))[i]! = x) := by
  have hs : (Array.ofFn fun i : Fin (m + 1) => i).size = m + 1 := by simp
  have hv : ∀ k, k < m + 1 → ((Array.ofFn fun i : Fin (m + 1) => i)[k]! : Nat) = k := fun k hk => by
    rw [getElem!_pos _ k (by omega)]
    simp
  have e : insertionSort (ltK key) (Array.ofFn fun i : Fin (m + 1) => i) 0 (m + 1) = insertionSort (ltI key) (Array.ofFn fun i : Fin (m + 1) => i) 0 (m + 1) := by
    unfold insertionSort
    refine insOuter_agree _ _ (fun x y h => ?_) (m + 1) (Nat.le_refl _) _ 1 _ rfl hs (fun k _ hk => hv k hk) (fun k hk => ?_)
    · simp only [ltK, ltI]
      apply decide_eq_decide.2
      constructor
      · intro h1; exact Or.inl h1
      · intro h1
        rcases h1 with h1 | ⟨_, h1⟩
        · exact h1
        · exfalso
          simp only [Fin.lt_def] at *
          omega
    · rw [hv k (by omega)]; omega
  rw [e]
  obtain ⟨⟨p1, p2, p3⟩, h2⟩ := insertionSort_holds (ltI_swo key) (Array.ofFn fun i : Fin (m + 1) => i) 0 (m + 1) (by omega) (by omega)
  generalize insertionSort (ltI key) (Array.ofFn fun i : Fin (m + 1) => i) 0 (m + 1) = s at *
  have hsz : s.size = m + 1 := by omega
  have hxe : ∀ t : Array (Fin (m + 1)), t.size = m + 1 → t.extract 0 (m + 1) = t := fun t ht => by
    apply Array.ext'
    rw [Array.toList_extract, List.extract_eq_take_drop, List.drop_zero, Nat.sub_zero]
    exact List.take_of_length_le (by rw [Array.length_toList]; omega)
  rw [hxe s hsz, hxe _ hs] at p3
  have hmem : ∀ x : Fin (m + 1), x ∈ s.toList := fun x => p3.mem_iff.2 (by rw [Array.toList_ofFn]; exact List.mem_ofFn.2 ⟨x, rfl⟩)
  have hnd0 : (Array.ofFn fun i : Fin (m + 1) => i).toList.Nodup := by
    rw [Array.toList_ofFn]
    refine List.pairwise_iff_getElem.2 (fun i j hi hj hij => ?_)
    rw [List.getElem_ofFn, List.getElem_ofFn]
    intro h
    have := congrArg Fin.val h
    simp only at this
    omega
  have hnd : s.toList.Nodup := p3.nodup_iff.2 hnd0
  have hne : ∀ i j, i < j → j < m + 1 → s[i]! ≠ s[j]! := by
    intro i j hij hj
    rw [getElem!_pos s i (by omega), getElem!_pos s j (by omega)]
    have := List.pairwise_iff_getElem.1 hnd i j (by rw [Array.length_toList]; omega) (by rw [Array.length_toList]; omega) hij
    simpa using this
  refine ⟨hsz, fun i j hij hj => ?_, fun x => ?_⟩
  · have h := h2 i j (Nat.zero_le _) hij hj
    have hn := hne i j hij hj
    simp only [ltI, decide_eq_false_iff_not, decide_eq_true_eq, Fin.lt_def] at *
    have hn' : (s[i]! : Nat) ≠ (s[j]! : Nat) := fun e => hn (Fin.ext e)
    omega
  · obtain ⟨i, hi, he⟩ := List.getElem_of_mem (hmem x)
    refine ⟨i, by simpa [hsz] using hi, ?_⟩
    rw [getElem!_pos s i (by simpa using hi)]
    simpa using he
/-- The first greatest of what is left is the next one of the sorted list. -/
theorem pick {r R : List Int} (h0 : ∀ j, j < m + 1 → 0 ≤ r.getD j 0) {s : Array (Fin (m + 1))} (hs : ∀ i j, i < j → j < m + 1 → ltI (fun x : Fin (m + 1) => r.getD x 0) s[i]! s[j]! = true) (hall : ∀ x, ∃ i, i < m + 1 ∧ s[i]! = x)
    {t b : Nat} (ht : t < m + 1) (hR : ∀ j, j < m + 1 → ((∃ i, i < t ∧ (s[i]! : Nat) = j) → R.getD j 0 = -1) ∧ ((¬ ∃ i, i < t ∧ (s[i]! : Nat) = j) → R.getD j 0 = r.getD j 0))
    (hb : b < m + 1) (hmax : ∀ j, j < m + 1 → R.getD j 0 ≤ R.getD b 0) (hfirst : ∀ j, j < b → R.getD j 0 < R.getD b 0) : b = (s[t]! : Nat) := by
  have hc := (s[t]!).isLt
  have hcn : ¬ ∃ i, i < t ∧ (s[i]! : Nat) = (s[t]! : Nat) := by
    rintro ⟨i, hi, he⟩
    have := hs i t hi ht
    simp only [ltI, decide_eq_true_eq, Fin.lt_def, he] at this
    omega
  have hRc := (hR _ hc).2 hcn
  have h1 := hmax _ hc
  have h2 := h0 _ hc
  have hbn : ¬ ∃ i, i < t ∧ (s[i]! : Nat) = b := fun h => by
    have := (hR b hb).1 h
    omega
  have hRb := (hR b hb).2 hbn
  obtain ⟨i, hi, he⟩ := hall ⟨b, hb⟩
  have he' : (s[i]! : Nat) = b := by rw [he]
  by_cases hit : i < t
  · exact absurd ⟨i, hit, he'⟩ hbn
  · by_cases hti : t = i
    · rw [hti]; exact he'.symm
    · exfalso
      have h3 := hs t i (by omega) hi
      simp only [ltI, decide_eq_true_eq, Fin.lt_def, he'] at h3
      rcases h3 with h3 | ⟨h3, h4⟩
      · omega
      · have := hfirst _ h4
        omega
end Go.Sort
