/- slices.SortFunc over lots, as the printed walks take it: the row that was handed in holds the sorted lots. -/
import Derived.Shelf.SlSortCmp.NoneTotal
import Derived.Test.YtcicjbgfahdejaaES
import Derived.Test.YtcicjbgfahdejaaEQ
namespace Go.Proofs.Ytcicjbgfahdejaa.P
open Go.RowKit Go.Shelf Go.Lib Go.Sort Go.Proofs.YtcicjbgfahdejaaW.PrintWords Go.Proofs.YtcicjbgfahdejaaW.PrintLast Go.Proofs.YtcicjbgfahdejaaW.PrintMore
set_option linter.unusedSimpArgs false
set_option linter.unusedVariables false

def possibleQ (x : S39) : Bool := decide (0 ≤ x.f0 ∧ 0 ≤ x.f1 ∧ 1 ≤ x.f2 ∧ x.f2 ≤ 1099511627776 ∧ x.f1 ≤ 1099511627776 - x.f2)
def okLot (x : S39) : Bool := decide (0 ≤ x.f0 ∧ x.f0 ≤ 9223372036854775807 ∧ 0 ≤ x.f1 ∧ x.f1 ≤ 1099511627776)
abbrev PLot := { x : S39 // okLot x = true }
instance : Inhabited PLot := ⟨⟨z39, by decide⟩⟩
theorem PLot.bd (x : PLot) : 0 ≤ x.1.f0 ∧ x.1.f0 ≤ 9223372036854775807 ∧ 0 ≤ x.1.f1 ∧ x.1.f1 ≤ 1099511627776 := of_decide_eq_true x.2
def encL (x : PLot) : List Value := [.int .i64 x.1.f0, .int .i64 x.1.f1, .int .i64 x.1.f2]
def cfL (x y : PLot) : Int := if x.1.f0 = y.1.f0 then wrap64 (x.1.f1 - y.1.f1) else wrap64 (x.1.f0 - y.1.f0)
theorem ltL (x y : PLot) : ltOf cfL x y = decide (x.1.f0 < y.1.f0 ∨ x.1.f0 = y.1.f0 ∧ x.1.f1 < y.1.f1) := by
  have h1 := x.bd
  have h2 := y.bd
  unfold ltOf cfL
  by_cases e : x.1.f0 = y.1.f0
  · rw [if_pos e, decide_eq_decide]
    have : wrap64 (x.1.f1 - y.1.f1) = x.1.f1 - y.1.f1 := by unfold wrap64; omega
    rw [this]
    omega
  · rw [if_neg e, decide_eq_decide]
    have : wrap64 (x.1.f0 - y.1.f0) = x.1.f0 - y.1.f0 := by unfold wrap64; omega
    rw [this]
    omega
theorem swoL : SWO (ltOf cfL) where
  irrefl x := by rw [ltL]; simp
  trans x y z h1 h2 := by rw [ltL] at *; simp only [decide_eq_true_eq] at *; omega
  ntrans x y z h1 h2 := by rw [ltL] at *; simp only [decide_eq_false_iff_not] at *; omega

set_option maxHeartbeats 1000000 in
theorem set1_calls (x y : PLot) (W : World) : Calls Try.prog 81 #[.agg #[.int .i64 x.1.f0, .int .i64 x.1.f1, .int .i64 x.1.f2], .agg #[.int .i64 y.1.f0, .int .i64 y.1.f1, .int .i64 y.1.f2]] W fun e w' => e = .returned (.int .i64 (cfL x y)) ∧ ∃ q os', w' = grow (W.drewN q) os' := by
  unfold cfL
  by_cases e : x.1.f0 = y.1.f0
  · rw [if_pos e]
    have e1 : (x.1.f0 != y.1.f0) = false := bne_eq_false_iff_eq.2 e
    clear e
    go_enter Try.func81, Try.ntmps81
    go_wp2
    go_ret
    exact ⟨rfl, 0, _, by rw [alloc_eq_grow, alloc_eq_grow, grow_grow]; rfl⟩
  · rw [if_neg e]
    have e1 : (x.1.f0 != y.1.f0) = true := bne_iff_ne.2 e
    clear e
    go_enter Try.func81, Try.ntmps81
    go_wp2
    go_ret
    exact ⟨rfl, 0, _, by rw [alloc_eq_grow, alloc_eq_grow, grow_grow]; rfl⟩

def toP (l : List S39) (h : l.all okLot = true) : List PLot := l.attachWith (fun x => okLot x = true) (List.all_eq_true.1 h)
theorem toP_val (l : List S39) (h : l.all okLot = true) : (toP l h).map (·.1) = l := by simp [toP]
theorem toP_len (l : List S39) (h : l.all okLot = true) : (toP l h).length = l.length := by simp [toP]
def sortL (l : List S39) (h : l.all okLot = true) : List S39 := ((pdq (ltOf cfL) (toP l h).toArray 0 (toP l h).toArray.size (Lib.bitLen (toP l h).toArray.size) true true).toList).map (·.1)
def api_Lot_80.f (l : List S39) : Option (List S39) := if h : l.all okLot = true then (if l.length < 4611686018427387904 then some (sortL l h) else none) else none

/-! ### a row of lots as the library's sort takes it -/
theorem flat_at (ds : Array PLot) (j i : Nat) (hj : j < ds.size) (hi : i < 3) : (flatK encL 3 ds)[j * 3 + i]! = (encL ds[j]!)[i]! := by
  rw [get_flatK encL 3 ds (j * 3 + i) (by omega)]
  have h1 : (j * 3 + i) / 3 = j := by omega
  have h2 : (j * 3 + i) % 3 = i := by omega
  rw [h1, h2]
theorem reps_at {w : World} {base : Nat} {ok : Nat → Prop} {l : List S39} {inner : List Value} (hr : Reps (k39.M w base ok) 3 l inner) (j i : Nat) (p : S39) (hj : l[j]? = some p) (hi : i < 3) :
    inner[j * 3 + i]? = [Value.int .i64 p.f0, .int .i64 p.f1, .int .i64 p.f2][i]? := by
  have h1 := k39_openM (hr.2 j p hj)
  rw [← h1, List.getElem?_take_of_lt hi, List.getElem?_drop]
theorem R_holds {w : World} {base : Nat} {ok : Nat → Prop} {u : Value} {l : List S39} (h : Kd.R k39 39 w base ok u l) (hn : 0 < l.length) (ds : List PLot) (hd : ds.map (·.1) = l) :
    ∃ g cap cur, u = .slice (some ⟨g, 0, none⟩) l.length cap ∧ base ≤ g ∧ w.heap[g]? = some (.cells cur 39 (0, 0)) ∧ l.length ≤ cap ∧ cap ≤ maxLen ∧ cur.size = cap * 3 ∧ HoldsK encL 3 w g 0 ds.toArray := by
  obtain ⟨_, inner, ⟨hlen, hc⟩, hr⟩ := h
  rcases hc with ⟨_, h0⟩ | ⟨g, cap, cur, rfl, hb, hh, hnc, hcm, hsz, htk⟩
  · omega
  · refine ⟨g, cap, cur, rfl, hb, hh, hnc, hcm, hsz, ?_⟩
    have hsz3 : cur.size = cap * 3 := hsz
    have htk3 : cur.toList.take (l.length * 3) = inner := htk
    have hdl : ds.length = l.length := by rw [← hd, List.length_map]
    intro t ht
    have ht' : t < l.length * 3 := by simp only [size_flatK, List.size_toArray] at ht; omega
    have hfr : w.frozen? ⟨g, 0 + t, none⟩ = false := blk_frozen hh _
    refine ⟨?_, hfr⟩
    obtain ⟨j, i, hi, rfl⟩ : ∃ j i, i < 3 ∧ t = j * 3 + i := ⟨t / 3, t % 3, by omega, by omega⟩
    have hj : j < l.length := by omega
    have hp := List.getElem?_eq_getElem hj
    have h1 := reps_at hr j i _ hp hi
    rw [← htk3, List.getElem?_take_of_lt ht', Array.getElem?_toList] at h1
    have hjd : j < ds.toArray.size := by simp; omega
    have hpe : l[j] = (ds.toArray[j]!).1 := by
      subst hd
      rw [getElem!_pos ds.toArray j hjd]
      simp
    rw [Nat.zero_add, blk_cell hh, h1, flat_at ds.toArray j i hjd hi]
    unfold encL
    rw [hpe]
    rcases i with _ | _ | _ | i
    · rfl
    · rfl
    · rfl
    · omega
theorem mapBlock_at (w : World) (blk : Nat) (f : Array Value → Array Value) {c : Array Value} {e : TypeId} {fr : Nat × Nat} (h : w.heap[blk]? = some (.cells c e fr)) : (mapBlock w blk f).heap[blk]? = some (.cells (f c) e fr) := by
  simp [mapBlock, Array.getElem?_modify, h, onCells]
theorem mapBlock_far (w : World) (blk k : Nat) (f : Array Value → Array Value) (h : k ≠ blk) : (mapBlock w blk f).heap[k]? = w.heap[k]? := by
  simp [mapBlock, Array.getElem?_modify, Ne.symm h]
theorem sortW_at (w : World) (blk n : Nat) (ds : Array PLot) (os : Array Obj) {c : Array Value} {e : TypeId} {fr : Nat × Nat} (h : w.heap[blk]? = some (.cells c e fr)) :
    (sortWorldK encL 3 w blk 0 n ds os).heap[blk]? = some (.cells (putCells id 0 (flatK encL 3 ds) c) e fr) := by
  unfold sortWorldK grow putRowK putRow
  have hh : (Sort.ahead w n).heap[blk]? = some (.cells c e fr) := h
  have h1 := mapBlock_at (Sort.ahead w n) blk (putCells id 0 (flatK encL 3 ds)) hh
  have hlt := (Array.getElem?_eq_some_iff.1 h1).1
  simp only
  rw [Array.getElem?_append_left hlt]
  exact h1
theorem sortW_far (w : World) (blk n k : Nat) (ds : Array PLot) (os : Array Obj) (hk : k < w.heap.size) (h : k ≠ blk) : (sortWorldK encL 3 w blk 0 n ds os).heap[k]? = w.heap[k]? := by
  unfold sortWorldK grow putRowK putRow
  have h1 := mapBlock_far (Sort.ahead w n) blk k (putCells id 0 (flatK encL 3 ds)) h
  have hlt : k < (mapBlock (Sort.ahead w n) blk (putCells id 0 (flatK encL 3 ds))).heap.size := by simpa [mapBlock, Sort.ahead] using hk
  simp only
  rw [Array.getElem?_append_left hlt]
  exact h1
theorem put_at (ds : Array PLot) (c : Array Value) (j i : Nat) (hj : j < ds.size) (hi : i < 3) (hc : j * 3 + i < c.size) : (putCells id 0 (flatK encL 3 ds) c)[j * 3 + i]? = some ((encL ds[j]!)[i]!) := by
  unfold putCells
  rw [Array.getElem?_mapIdx, Array.getElem?_eq_getElem hc]
  simp only [Option.map_some]
  rw [if_pos ⟨Nat.zero_le _, by simp; omega⟩, Nat.sub_zero, flat_at ds j i hj hi]
  rfl
theorem R_sorted {w : World} {base g n cap : Nat} {cur : Array Value} {ok : Nat → Prop} {ds : List PLot} {os : Array Obj} (hb : base ≤ g) (hh : w.heap[g]? = some (.cells cur 39 (0, 0))) (hnc : ds.length ≤ cap) (hcm : cap ≤ maxLen) (hsz : cur.size = cap * 3) (hok : ok g) :
    Kd.R k39 39 (sortWorldK encL 3 w g 0 n ds.toArray os) base ok (.slice (some ⟨g, 0, none⟩) ds.length cap) (ds.map (·.1)) := by
  have hat := sortW_at w g n ds.toArray os hh
  have hs' : (putCells id 0 (flatK encL 3 ds.toArray) cur).size = cap * 3 := by simp [putCells, hsz]
  refine ⟨fun k hk => by simp [Value.ownBlock] at hk; subst hk; exact hok, (putCells id 0 (flatK encL 3 ds.toArray) cur).toList.take ((ds.map (·.1)).length * 3), ⟨?_, .inr ⟨g, cap, _, by rw [List.length_map], hb, hat, by rw [List.length_map]; exact hnc, hcm, hs', rfl⟩⟩, ?_, ?_⟩
  · simp only [List.length_take, Array.length_toList, hs', List.length_map]
    show min (ds.length * 3) (cap * 3) = ds.length * 3
    omega
  · simp only [List.length_take, Array.length_toList, hs', List.length_map]
    show min (ds.length * 3) (cap * 3) = ds.length * 3
    omega
  · intro j p hj
    have hjl : j < ds.length := by
      have := (List.getElem?_eq_some_iff.1 hj).1
      simpa using this
    have hjd : j < ds.toArray.size := by simpa using hjl
    have hpe : p = (ds.toArray[j]!).1 := by
      rw [List.getElem?_map, List.getElem?_eq_getElem hjl] at hj
      rw [getElem!_pos ds.toArray j hjd]
      simpa using (Option.some.inj hj).symm
    have he : List.take k39.sz (List.drop (j * k39.sz) (List.take ((ds.map (·.1)).length * 3) (putCells id 0 (flatK encL 3 ds.toArray) cur).toList)) = [.int .i64 p.f0, .int .i64 p.f1, .int .i64 p.f2] := by
      show List.take 3 (List.drop (j * 3) _) = _
      apply List.ext_getElem?
      intro i
      rcases Nat.lt_or_ge i 3 with hi | hi
      · rw [List.getElem?_take_of_lt hi, List.getElem?_drop, List.getElem?_take_of_lt (by rw [List.length_map]; omega), Array.getElem?_toList, put_at ds.toArray cur j i hjd hi (by omega), hpe]
        unfold encL
        rcases i with _ | _ | _ | i
        · rfl
        · rfl
        · rfl
        · omega
      · rw [List.getElem?_eq_none (by simp only [List.length_take]; omega), List.getElem?_eq_none (by simpa using hi)]
    rw [he]
    exact k39_mkM _ _ _ p

theorem sortL_len (l : List S39) (h : l.all okLot = true) : (sortL l h).length = l.length := by
  unfold sortL
  rw [List.length_map]
  have h1 := (pdq_sorts (ltOf cfL) swoL (toP l h).toArray 0 (toP l h).toArray.size (Lib.bitLen (toP l h).toArray.size) true true (Nat.zero_le _) (Nat.le_refl _) (Or.inl rfl)).1.1
  rw [Array.length_toList, h1]
  simp [toP_len]

theorem api_Lot_80.calls (P0_ : Nat → Prop) (u9000_ : Value) (l0 : List S39) (r : List S39) (w0 w : World) (hB : RowKit.Below w0.heap.size w0 w) (ho0 : Kd.R k39 39 w w0.heap.size P0_ u9000_ l0) (h : api_Lot_80.f l0 = some r) :
    Calls Try.prog 80 #[u9000_, .func (.func 81) #[] #[]] w fun e w' => e = .returned (.tuple #[]) ∧ Kd.R k39 39 w' w0.heap.size (fun k_ => (P0_ k_ ∨ w.heap.size ≤ k_)) u9000_ r ∧ RowKit.Below w0.heap.size w0 w' ∧ Kept w w' (fun k_ => P0_ k_) := by
  unfold api_Lot_80.f at h
  by_cases hall : l0.all okLot = true
  case neg => rw [dif_neg hall] at h; exact absurd h (by simp)
  rw [dif_pos hall] at h
  by_cases hsz : l0.length < 4611686018427387904
  case neg => rw [if_neg hsz] at h; exact absurd h (by simp)
  rw [if_pos hsz] at h
  obtain rfl := Option.some.inj h
  clear h
  rcases Nat.eq_zero_or_pos l0.length with h0 | h0
  · obtain rfl : l0 = [] := List.length_eq_zero_iff.1 h0
    obtain ⟨A, c, rfl⟩ := Kd.R_slice ho0
    refine (AnyF.slices_SortFunc_none Try.sortLots A c _ w).mono ?_
    rintro e w' ⟨rfl, rfl⟩
    have hs : sortL [] hall = [] := List.length_eq_zero_iff.1 (by rw [sortL_len]; rfl)
    rw [hs]
    exact ⟨rfl, Kd.R_mono ho0 (fun k hk => .inl hk), hB, Kept.refl _ _⟩
  · obtain ⟨g, cap, cur, rfl, hb, hh, hnc, hcm, hcs, hH⟩ := R_holds ho0 h0 (toP l0 hall) (toP_val l0 hall)
    have hPg : P0_ g := ho0.1 g rfl
    have hts : (toP l0 hall).toArray.size = l0.length := by simp [toP_len]
    have eg : ∀ args w, (callFunc 81 args).run Try.prog w = .ok (.enter 81 args) w := enters_of Try.func81 (by kernel_rfl) rfl
    have hcon := AnyQ.slices_SortFunc_eq Try.sortLots 3 Try.isAgg39 Try.sizeOf39 encL (fun _ => rfl) (fun x v hv => by simp [encL] at hv; rcases hv with rfl | rfl | rfl <;> rfl) cfL swoL 81 #[] g 0 cap (toP l0 hall).toArray w eg
      (fun _ _ _ _ x y => set1_calls x y _) hH (blk_lt hh) (by rw [hts]; exact hsz)
    change Calls Try.prog 80 _ _ _ at hcon
    rw [hts] at hcon
    refine hcon.mono ?_
    rintro e w' ⟨rfl, n, os, rfl⟩
    have hpl : (pdq (ltOf cfL) (toP l0 hall).toArray 0 l0.length (Lib.bitLen l0.length) true true).toList.length = l0.length := by
      have h1 := sortL_len l0 hall
      unfold sortL at h1
      rw [List.length_map, hts] at h1
      exact h1
    have hR := R_sorted (w := w) (base := w0.heap.size) (n := n) (os := os) (ok := fun k_ => (P0_ k_ ∨ w.heap.size ≤ k_)) (ds := (pdq (ltOf cfL) (toP l0 hall).toArray 0 l0.length (Lib.bitLen l0.length) true true).toList) hb hh (by omega) hcm hcs (.inl hPg)
    rw [Array.toArray_toList, hpl] at hR
    have hfar : ∀ k, k < w.heap.size → k ≠ g → (sortWorldK encL 3 w g 0 n (pdq (ltOf cfL) (toP l0 hall).toArray 0 l0.length (Lib.bitLen l0.length) true true) os).heap[k]? = w.heap[k]? := fun k hk hne => sortW_far w g n k _ os hk hne
    have hsize : w.heap.size ≤ (sortWorldK encL 3 w g 0 n (pdq (ltOf cfL) (toP l0 hall).toArray 0 l0.length (Lib.bitLen l0.length) true true) os).heap.size := size_sortWorldK_c encL 3 w g 0 n _ os
    have hw0 := hB.size
    refine ⟨rfl, ?_, hB.trans ⟨rfl, rfl, rfl, hsize, fun k hk => hfar k (by omega) (by omega)⟩, ⟨hsize, fun k hk hn => hfar k hk (fun e => hn (e ▸ hPg))⟩⟩
    unfold sortL
    rw [hts]
    exact hR
end Go.Proofs.Ytcicjbgfahdejaa.P
