/- This session's own: slices.SortStableFunc of at most 19 numbers, under share.Split's comparison. -/
import Derived.Test.YtcicjbgfahdejaaEI
import Derived.Test.YtcicjbgfahdejaaPx2
import Derived.WalkSpells
import Derived.Deep.RegionHeld3

namespace Go.Proofs.Ytcicjbgfahdejaa.P
open Go.RowKit Go.Proofs.YtcicjbgfahdejaaW.PrintWords Go.Proofs.YtcicjbgfahdejaaW.PrintLast Go.Proofs.YtcicjbgfahdejaaW.PrintMore
open Go.Shelf Go.Sort Go.Lib
set_option linter.unusedSimpArgs false
set_option linter.unusedVariables false

set_option maxHeartbeats 4000000 in
set_option maxRecDepth 100000 in
theorem split1_calls (rest : List Int) (gb : Nat) (ad : Addr) (n c : Nat) (x y : Int) (hx0 : 0 ≤ x) (hx1 : x < n) (hy0 : 0 ≤ y) (hy1 : y < n) (W : World)
    (hB : W.cell? ⟨gb, 0, none⟩ = some (.slice (some ad) n c)) (hcx : W.cell? (ad.add x.toNat) = some (.int .i64 (rd rest x))) (hcy : W.cell? (ad.add y.toNat) = some (.int .i64 (rd rest y))) :
    Calls Try.prog 91 #[.int .i64 x, .int .i64 y, .pointer (some ⟨gb, 0, none⟩)] W fun e w' => e = .returned (.int .i64 (wrap64 (rd rest y - rd rest x))) ∧ ∃ q, w' = W.drewN q := by
  have HX := Aside0.mk hcx
  have HY := Aside0.mk hcy
  have HBX := Aside0.mk hB
  clear hcx hcy hB
  go_enter Try.func91, Try.ntmps91
  go_wp2
  go_region_held3 (fun w' => w'.cell? ⟨gb, 0, none⟩ = some (.slice (some ad) n c) ∧ w'.cell? (ad.add x.toNat) = some (.int .i64 (rd rest x)) ∧ w'.cell? (ad.add y.toNat) = some (.int .i64 (rd rest y)) ∧ ∃ q, w' = W.drewN q)
    (exact ⟨by simpa using HBX.out, by simpa using HX.out, by simpa using HY.out, 1, rfl⟩)
    (fail)
  go_wp2
  go_ret
  exact ⟨by simp only [i64_w]; rfl, 1, rfl⟩

def enI {m : Nat} (i : Fin (m + 1)) : Value := .int .i64 ((i : Nat) : Int)
def cfR (rest : List Int) {m : Nat} (x y : Fin (m + 1)) : Int := wrap64 (rd rest ((y : Nat) : Int) - rd rest ((x : Nat) : Int))
def sortedF (rest : List Int) (m : Nat) : Array (Fin (m + 1)) := Sort.insertionSort (ltOf (cfR rest)) (Array.ofFn fun i => i) 0 (m + 1)

set_option maxHeartbeats 4000000 in
set_option maxRecDepth 100000 in
theorem stable_calls (m : Nat) (rest : List Int) (hm : m + 1 < 20) (w : World) (gb blk cap c : Nat) (ad : Addr) (hH : Holds enI w blk 0 (Array.ofFn fun i : Fin (m + 1) => i))
    (hB : w.cell? ⟨gb, 0, none⟩ = some (.slice (some ad) (m + 1) c)) (hC : ∀ x : Nat, x < m + 1 → w.cell? (ad.add x) = some (.int .i64 (rd rest (x : Int)))) (hgb : gb ≠ blk) (had : ad.block ≠ blk) :
    Calls Try.prog 90 #[.slice (some ⟨blk, 0, none⟩) (m + 1) cap, .func (.func 91) #[] #[.pointer (some ⟨gb, 0, none⟩)]] w fun e w' => e = .returned (.tuple #[]) ∧ ∃ n, w' = (putRow enI w blk 0 (sortedF rest m)).drewN n := by
  have hsz : (Array.ofFn fun i : Fin (m + 1) => i).size = m + 1 := by simp
  have hO : OneCell (enI (m := m)) := fun x => rfl
  have hcmp : CmpReads Try.prog 91 #[.pointer (some ⟨gb, 0, none⟩)] (enI (m := m)) (cfR rest) blk 0 (Array.ofFn fun i : Fin (m + 1) => i).size w := by
    intro k os dk hk x y
    have hcell : ∀ a : Addr, ∀ v, a.block ≠ blk → w.cell? a = some v → (sortWorld enI w blk 0 k dk os).cell? a = some v := by
      intro a v ha hv
      unfold sortWorld
      rw [cell?_grow _ _ _ (by rw [size_putRow]; exact World.block_lt_of_cell? w _ hv)]
      exact (cell?_putRow_other _ _ _ _ _ _ (Or.inl ha)).trans hv
    exact split1_calls rest gb ad (m + 1) c _ _ (by omega) (by omega) (by omega) (by omega) _ (hcell _ _ hgb hB) (hcell _ _ (by rw [add_block]; exact had) (by simpa using hC x.1 x.2)) (hcell _ _ (by rw [add_block]; exact had) (by simpa using hC y.1 y.2))
  have eg : ∀ args w, (callFunc 91 args).run Try.prog w = .ok (.enter 91 args) w := enters_of Try.func91 (by kernel_rfl) rfl
  have hins := Any.insertionSortCmpFunc_one Try.insInts (enI (m := m)) hO (cfR rest) 91 #[.pointer (some ⟨gb, 0, none⟩)] blk 0 cap 0 (m + 1) (Array.ofFn fun i => i) w eg hcmp hH (Nat.zero_le _) (by rw [hsz]; exact Nat.le_refl _) (by rw [hsz]; omega)
  rw [hsz] at hins
  have h112 : ∀ args w, (callFunc 112 args).run Try.prog w = .ok (.enter 112 args) w := enters_of Try.func112 (by kernel_rfl) rfl
  have h101 : ∀ args w, (callFunc 101 args).run Try.prog w = .ok (.enter 101 args) w := enters_of Try.func101 (by kernel_rfl) rfl
  have e1 : decide ((20 : Int) ≤ (((m + 1 : Nat) : Int))) = false := decide_eq_false (by omega)
  have e2 : decide ((20 : Int) < (((m + 1 : Nat) : Int))) = false := decide_eq_false (by omega)
  have h3 : Calls Try.prog 101 #[.slice (some ⟨blk, 0, none⟩) (m + 1) cap, .int .i64 ((m + 1 : Nat) : Int), .func (.func 91) #[] #[.pointer (some ⟨gb, 0, none⟩)]] w fun e w' => e = .returned (.tuple #[]) ∧ ∃ n, w' = (putRow enI w blk 0 (sortedF rest m)).drewN n := by
    have HI := Aside0.mk hins
    clear hins hcmp hH hB hC
    go_enter Try.func101, Try.ntmps101
    go_wp2
    go_loopg [7, 8] 0 (fun _ v7 v8 w' => v7 = .int .i64 0 ∧ v8 = .int .i64 20 ∧ w' = w)
    case atStart => exact ⟨rfl, rfl, rfl⟩
    case round =>
      obtain ⟨rfl, rfl, rfl⟩ := hrel
      go_wp2_with (first | (go_at_call 112; refine HI.out.mono ?_; rintro e w1 ⟨rfl, n, rfl⟩))
      go_loopg [6, 7, 8, 9] 0 (fun _ v6 _ _ _ w' => v6 = .int .i64 20 ∧ w' = (putRow enI wr blk 0 (sortedF rest m)).drewN n)
      case atStart => exact ⟨rfl, rfl⟩
      case round =>
        obtain ⟨rfl, rfl⟩ := hrel
        go_wp2
        go_end0
        exact ⟨rfl, n, rfl⟩
  have H3 := Aside0.mk h3
  clear h3 hins hcmp hH hB hC
  go_enter Try.func90, Try.ntmps90
  go_wp2_with (first | (go_at_call 101; refine H3.out.mono ?_; rintro e w1 ⟨rfl, n, rfl⟩))
  go_end0
  exact ⟨rfl, n, rfl⟩
theorem putRow_heap {m : Nat} (w : World) (blk : Nat) (d : Array (Fin (m + 1))) {c : Array Value} {e : TypeId} {fr : Nat × Nat} (h : w.heap[blk]? = some (.cells c e fr)) : (putRow enI w blk 0 d).heap[blk]? = some (.cells (putCells enI 0 d c) e fr) := by
  simp [putRow, mapBlock, Array.getElem?_modify, h, onCells]
theorem putRow_away {m : Nat} (w : World) (blk k : Nat) (d : Array (Fin (m + 1))) (h : k ≠ blk) : (putRow enI w blk 0 d).heap[k]? = w.heap[k]? := by
  simp [putRow, mapBlock, Array.getElem?_modify, Ne.symm h]
theorem insInner_sz {α : Type} [Inhabited α] (lt : α → α → Bool) (a : Nat) : ∀ (j : Nat) (d : Array α), (insInner lt a j d).size = d.size
  | 0, d => rfl
  | j + 1, d => by
    unfold insInner
    split
    · rw [insInner_sz lt a j]
      simp [swp]
    · rfl
theorem insOuter_sz {α : Type} [Inhabited α] (lt : α → α → Bool) (a b : Nat) : ∀ (n i : Nat) (d : Array α), b - i = n → (insOuter lt a b i d).size = d.size
  | 0, i, d, h => by
    rw [insOuter, if_neg (by omega)]
  | n + 1, i, d, h => by
    rw [insOuter, if_pos (by omega), insOuter_sz lt a b n (i + 1) _ (by omega), insInner_sz]
theorem sortedF_size (rest : List Int) (m : Nat) : (sortedF rest m).size = m + 1 := by
  unfold sortedF Sort.insertionSort
  rw [insOuter_sz _ _ _ _ _ _ rfl]
  simp
def slices_SortStableFunc_int_int.f (order rest : List Int) : Option (List Int) :=
  match rest.length with
  | 0 => none
  | m + 1 => if m + 1 < 20 ∧ order = (List.range (m + 1)).map (fun i : Nat => (i : Int)) then some ((sortedF rest m).toList.map fun i => ((i.1 : Nat) : Int)) else none

set_option maxHeartbeats 4000000 in
theorem Split.sorted {w wr : World} {ok ok' : Nat → Prop} (order rest t : List Int) (Ao Ar : Option Addr) (co cr gb : Nat) (HO : Kd.R (Kd.int .i64) 3 wr w.heap.size ok (.slice Ao order.length co) order)
    (HR : Kd.R (Kd.int .i64) 3 wr w.heap.size ok' (.slice Ar rest.length cr) rest) (hne : ∀ k, (Value.slice Ao order.length co).ownBlock = some k → some k ≠ (Value.slice Ar rest.length cr).ownBlock)
    (HX : wr.heap[gb]? = some (.cells #[.slice Ar rest.length cr] 23 (0, 0))) (h : slices_SortStableFunc_int_int.f order rest = some t) (HB : Below w.heap.size w wr) :
    Calls Try.prog 90 #[.slice Ao order.length co, .func (.func 91) #[] #[.pointer (some ⟨gb, 0, none⟩)]] wr fun e w' => e = .returned (.tuple #[]) ∧ Kd.R (Kd.int .i64) 3 w' w.heap.size ok (.slice Ao order.length co) t ∧
      wr.grownBy w' (Value.slice Ao order.length co).ownBlock ∧ Below w.heap.size w w' := by
  unfold slices_SortStableFunc_int_int.f at h
  split at h
  · cases h
  · rename_i m hlen
    by_cases hc : m + 1 < 20 ∧ order = (List.range (m + 1)).map (fun i : Nat => (i : Int))
    · rw [if_pos hc] at h
      obtain rfl := Option.some.inj h
      clear h
      obtain ⟨hm, hord⟩ := hc
      have hol : order.length = m + 1 := by rw [hord]; simp
      obtain ⟨go, ca, eo, hgo, hgl, cl, hg⟩ := Kd.R_form HO (by omega)
      injection eo with e1 e2 e3
      subst e1
      subst e3
      obtain ⟨gr, cb, er, hgr, hrl, cr', hr⟩ := Kd.R_form HR (by omega)
      injection er with e1 e2 e3
      subst e1
      subst e3
      have hgne : gr ≠ go := by
        intro e
        subst e
        exact hne gr (by simp [Value.ownBlock]) (by simp [Value.ownBlock])
      have hgb : gb ≠ go := blk_ne HX hg (by decide)
      have hH : Holds enI wr go 0 (Array.ofFn fun i : Fin (m + 1) => i) := by
        intro j hj
        have hj' : j < m + 1 := by simpa using hj
        obtain ⟨h1, h2⟩ := Kd.R_celln 0 HO (j : Int) (by omega) (by omega)
        rw [Int.toNat_natCast] at h1 h2
        rw [Nat.zero_add]
        refine ⟨h1.trans ?_, h2⟩
        rw [getElem!_pos _ j hj]
        simp only [Array.getElem_ofFn, enI, rdOf, Int.toNat_natCast]
        rw [hord]
        simp [List.getD_eq_getElem?_getD, hj']
      have hcells : ∀ x : Nat, x < m + 1 → wr.cell? ((⟨gr, 0, none⟩ : Addr).add x) = some (.int .i64 (rd rest (x : Int))) := by
        intro x hx
        obtain ⟨h1, _⟩ := Kd.R_celln 0 HR (x : Int) (by omega) (by omega)
        rw [Int.toNat_natCast] at h1
        rw [add_plain]
        exact h1
      have hcb : wr.cell? ⟨gb, 0, none⟩ = some (.slice (some ⟨gr, 0, none⟩) (m + 1) cr) := by
        rw [blk_cell HX]
        simp [hlen]
      rw [hol]
      refine (stable_calls m rest hm wr gb go co cr ⟨gr, 0, none⟩ hH hcb hcells hgb hgne).mono ?_
      rintro e w' ⟨rfl, q, rfl⟩
      have hown := (Kd.own_of_R HO).2
      have hsz := sortedF_size rest m
      refine ⟨rfl, ?_, ?_, ?_⟩
      · rcases hown with ⟨he, _⟩ | ⟨g2, c2, cur, he, hb2, hh2, hnc, hcm, hcs, _⟩
        · cases he
        · injection he with ha _ hc2
          injection ha with ha
          injection ha with ha
          subst ha
          subst hc2
          have htl : ((sortedF rest m).toList.map fun i => ((i.1 : Nat) : Int)).length = m + 1 := by simp [hsz]
          have hat := putRow_heap wr go (sortedF rest m) hh2
          refine Kd.R_of_own (enc := Value.int .i64) ⟨by simp [encs_length], .inr ⟨go, co, putCells enI 0 (sortedF rest m) cur, by rw [htl], hb2, hat, by rw [htl]; omega, hcm, by simpa [putCells] using hcs, ?_⟩⟩ (fun k hk => HO.1 k (by simpa [Value.ownBlock] using hk))
          rw [htl, Nat.mul_one]
          apply List.ext_getElem?
          intro j
          by_cases hj : j < m + 1
          · rw [List.getElem?_take_of_lt hj, Array.getElem?_toList]
            unfold putCells encs
            have hjc : j < cur.size := by omega
            have hjs : j < (sortedF rest m).size := by omega
            rw [Array.getElem?_mapIdx, Array.getElem?_eq_getElem hjc, Option.map_some, if_pos ⟨Nat.zero_le _, by omega⟩, Nat.sub_zero, getElem!_pos _ j hjs, List.map_map, List.getElem?_map, Array.getElem?_toList, Array.getElem?_eq_getElem hjs]
            rfl
          · rw [List.getElem?_eq_none (by simp; omega), List.getElem?_eq_none (by rw [encs_length, htl]; omega)]
      · exact ⟨rfl, rfl, rfl, by show _ ≤ (putRow _ _ _ _ _).heap.size; rw [size_putRow]; exact Nat.le_refl _, fun k hk hne => putRow_away wr go k _ (fun e => hne (by rw [e]; simp [Value.ownBlock]))⟩
      · exact ⟨HB.os, HB.tape, HB.output, Nat.le_trans HB.size (by show _ ≤ (putRow _ _ _ _ _).heap.size; rw [size_putRow]; exact Nat.le_refl _), fun k hk => (putRow_away wr go k _ (by omega)).trans (HB.block k hk)⟩
    · rw [if_neg hc] at h
      cases h
end Go.Proofs.Ytcicjbgfahdejaa.P
