/- This session's own: lots.chosen is walked. -/
import Derived.Test.YtcicjbgfahdejaaEQ
namespace Go.Proofs.Ytcicjbgfahdejaa.P
open Go.RowKit Go.Shelf Go.Proofs.YtcicjbgfahdejaaW.PrintWords Go.Proofs.YtcicjbgfahdejaaW.PrintLast Go.Proofs.YtcicjbgfahdejaaW.PrintMore
set_option linter.unusedSimpArgs false
attribute [local go_sem] Oper.semAt_some
set_option linter.unusedVariables false

def mkColl (D : Nat) : Deferred := { target := .collected D, args := #[] }

/-- Whatever marks an activation bears: each is taken in. -/
theorem leaves_coll {fn : Func} {tmps : Array Value} {R : Ending → World → Prop} {v : Value} (hres : ∀ W : World, (results fn tmps).run Try.prog W = .ok v W) (I : World → Prop)
    (B : Nat) (hI : ∀ W D, B ≤ D → I W → W.heap[D]? = some (.deferred (some [])) → I (W.putObj D (.deferred none))) (hR : ∀ W, I W → R (.returned v) W) :
    ∀ (Ds : List Nat) (W : World), Ds.Nodup → (∀ D ∈ Ds, B ≤ D ∧ W.heap[D]? = some (.deferred (some []))) → I W → LeavesInM Fence.wide 2 Try.prog fn tmps R (Ds.map mkColl) .returning W := by
  intro Ds
  induction Ds with
  | nil => intro W _ _ hi; exact ⟨v, hres W, hR W hi⟩
  | cons D t ih =>
    intro W hn hd hi
    refine ⟨by simp, .inl ⟨D, _, rfl, run_takeDeferred (hd D List.mem_cons_self).2, ?_⟩⟩
    obtain ⟨hn1, hn2⟩ := List.nodup_cons.1 hn
    refine ih _ hn2 (fun E hE => ?_) (hI W D (hd D List.mem_cons_self).1 hi (hd D List.mem_cons_self).2)
    have h := hd E (List.mem_cons_of_mem _ hE)
    exact ⟨h.1, by rw [World.putObj_heap_other (fun e => hn1 (by rw [← e]; exact hE) : E ≠ D)]; exact h.2⟩


/-- What holds between two rounds of the outer loop. -/
structure CInv (A0 : Option Addr) (c0 : Nat) (l0 : List S39) (A1 : Option Addr) (c1 : Nat) (l1 : List S39) (a2 : Bool) (w : World) (k : Nat) (Ds : List Nat) (v : Value) (W : World) : Prop where
  nodup : Ds.Nodup
  marks : ∀ D ∈ Ds, w.heap.size ≤ D ∧ W.heap[D]? = some (.deferred (some []))
  out : Kd.R k39 39 W w.heap.size (fun _ => True) v (chosenL l1 a2 (l0.take k) [])
  box : W.heap[w.heap.size + 1]? = some (.cells #[v] 22 (0, 0))
  inb : W.heap[w.heap.size]? = some (.cells #[.bool a2] 4 (0, 0))
  bel : Below w.heap.size w W

set_option maxRecDepth 100000 in
set_option maxHeartbeats 4000000 in
theorem lots_chosen.calls (A0 : Option Addr) (c0 : Nat) (l0 : List (S39)) (A1 : Option Addr) (c1 : Nat) (l1 : List (S39)) (a2 : Bool) (r : List S39) (w : World) (hr0 : Kd.C k39 w A0 l0.length l0) (hc0 : l0.length ≤ c0) (hr1 : Kd.C k39 w A1 l1.length l1) (hc1 : l1.length ≤ c1) (h : lots_chosen.f l0 l1 a2 = some r) :
    Calls Try.prog 60 #[.slice A0 l0.length c0, .slice A1 l1.length c1, .bool a2] w fun e w' => ∃ v0_ : Value, e = .returned v0_ ∧ Kd.R k39 39 w' w.heap.size (fun _ => True) v0_ r ∧ Below w.heap.size w w' := by
  unfold lots_chosen.f at h
  by_cases hcond : l0.length ≤ 65536 ∧ l1.length ≤ 65536 ∧ l0.all (okStart l1) = true
  case neg => rw [if_neg hcond] at h; exact absurd h (by simp)
  rw [if_pos hcond] at h
  obtain rfl := Option.some.inj h
  obtain ⟨hl0, hl1, hall⟩ := hcond
  clear h
  have hlen := hr0.2.1
  have HR0 := Aside0.mk hr0
  have HR1 := Aside0.mk hr1
  have HC1 := Aside0.mk hc1
  have HALL := Aside0.mk hall
  clear hr0 hr1 hc1 hall
  refine (callsIn_wide (n := 2)).1 ?_
  refine callsIn_of_wp_marks Try.func60 rfl trivial ?_ rfl
  simp only [Try.ntmps60, List.size_toArray, List.length_cons, List.length_nil, Nat.reduceAdd, Nat.reduceSub, Array.replicate_succ, Array.replicate_zero, List.push_toArray, List.append_toArray, List.nil_append, List.cons_append]
  gi_wp2_with fail
  refine wpIn_loop (fun a W => ∃ (k : Nat) (Ds : List Nat) (v u8 u9 u10 u11 u15 u16 u17 u18 u19 u20 u21 u22 u23 u24 u25 u26 u27 u28 u29 u30 : Value), k ≤ l0.length ∧ Aside0 (CInv A0 c0 l0 A1 c1 l1 a2 w k Ds v W) ∧
      a = { tmps := #[.slice A0 l0.length c0, .slice A1 l1.length c1, .bool a2, undef, undef, .pointer (some ⟨w.heap.size, 0, none⟩), .slice none 0 0, .pointer (some ⟨w.heap.size + 1, 0, none⟩), u8, u9, u10, u11, .slice A0 l0.length c0, .int .i64 l0.length, .int .i64 k, u15, u16, u17, u18, u19, u20, u21, u22, u23, u24, u25, u26, u27, u28, u29, u30], defers := Ds.map mkColl })
    (fun a _ => l0.length - (intOf (a.tmps.getD 14 undef)).toNat) ?start ?round
  case start =>
    refine ⟨0, [], .slice none 0 0, undef, undef, undef, undef, undef, undef, undef, undef, undef, undef, undef, undef, undef, undef, undef, undef, undef, undef, undef, undef, Nat.zero_le _, ⟨?_⟩, rfl⟩
    exact { nodup := List.nodup_nil, marks := by simp, out := Kd.R_nil _ _ _ _ _, box := by simpa using heap_alloc_new (w.alloc (.cells #[.bool a2] 4)) (.cells #[.slice none 0 0] 22), inb := (Below.heap_alloc (w.alloc (.cells #[.bool a2] 4)) _ _ (by simp)).trans (World.alloc_heap_new w _), bel := below_alloc (below_alloc (Below.refl _ _) _) _ }
  case round =>
    rintro a W ⟨k, Ds, v, u8, u9, u10, u11, u15, u16, u17, u18, u19, u20, u21, u22, u23, u24, u25, u26, u27, u28, u29, u30, hk, HI, rfl⟩
    by_cases hlt : k < l0.length
    · have e1 : decide ((k : Int) < (l0.length : Int)) = true := decide_eq_true (by omega)
      have h0 : (0 : Int) ≤ (k : Int) := by omega
      have hi : (k : Int) < (l0.length : Int) := by omega
      obtain ⟨ad, hA, hx0, hx1, hx2⟩ := at_T39 (Kd.C_below HR0.out HI.out.bel) (k : Int) h0 hi
      cases hA
      simp only [Int.toNat_natCast] at hx0 hx1 hx2
      have HS : Aside0 (chosenL l1 a2 (l0.take (k + 1)) [] = (piecesOf l1 (rd_T39 l0 (k : Int))).foldl (stepC a2) (chosenL l1 a2 (l0.take k) [])) := ⟨by
        rw [List.take_succ_eq_append_getElem hlt]
        simp only [chosenL, List.foldl_append, List.foldl_cons, List.foldl_nil, rd_T39, Int.toNat_natCast, List.getD_eq_getElem?_getD, List.getElem?_eq_getElem hlt, Option.getD_some]⟩
      have HOK : Aside0 (okStart l1 (rd_T39 l0 (k : Int)) = true) := ⟨by
        have h := List.all_eq_true.1 HALL.out (l0[k]) (List.getElem_mem hlt)
        simpa only [rd_T39, Int.toNat_natCast, List.getD_eq_getElem?_getD, List.getElem?_eq_getElem hlt, Option.getD_some] using h⟩
      generalize rd_T39 l0 (k : Int) = x at hx0 hx1 hx2 HS HOK
      obtain ⟨i0, b0, hi0, hbs, hps⟩ : ∃ (i0 : Int) (b0 : Bool), 0 ≤ i0 ∧ startC l1 x = some (i0, b0) ∧ piecesOf l1 x = piecesGo x (l1.drop i0.toNat) x.f1 := by
        have h := HOK.out
        unfold okStart at h
        unfold piecesOf
        cases hs : startC l1 x with
        | none => rw [hs] at h; exact absurd h (by simp)
        | some p => rw [hs] at h; exact ⟨p.1, p.2, of_decide_eq_true h, rfl, rfl⟩
      have HBS := Aside0.mk hbs
      have HPS := Aside0.mk hps
      clear hbs hps HOK
      have HW : Aside0 (W.heap.size + 3 = (((W.alloc (.cells #[.int .i64 x.f0, .int .i64 x.f1, .int .i64 x.f2] 39)).alloc (.cells #[.int .i64 x.f0, .int .i64 x.f1, .int .i64 x.f2] 39)).alloc (.cells #[.slice A1 l1.length c1] 22)).heap.size) := ⟨by simp⟩
      have HB3 : Aside0 (Below W.heap.size W (((W.alloc (.cells #[.int .i64 x.f0, .int .i64 x.f1, .int .i64 x.f2] 39)).alloc (.cells #[.int .i64 x.f0, .int .i64 x.f1, .int .i64 x.f2] 39)).alloc (.cells #[.slice A1 l1.length c1] 22))) := ⟨below_alloc (below_alloc (below_alloc (Below.refl _ _) _) _) _⟩
      have HG : Aside0 (Good (W.heap.size + 1) (W.heap.size + 2) A1 c1 x l1 (((W.alloc (.cells #[.int .i64 x.f0, .int .i64 x.f1, .int .i64 x.f2] 39)).alloc (.cells #[.int .i64 x.f0, .int .i64 x.f1, .int .i64 x.f2] 39)).alloc (.cells #[.slice A1 l1.length c1] 22))) := ⟨by
        have hl : (((W.alloc (.cells #[.int .i64 x.f0, .int .i64 x.f1, .int .i64 x.f2] 39)).alloc (.cells #[.int .i64 x.f0, .int .i64 x.f1, .int .i64 x.f2] 39)).alloc (.cells #[.slice A1 l1.length c1] 22)).heap[W.heap.size + 1]? = some (.cells #[.int .i64 x.f0, .int .i64 x.f1, .int .i64 x.f2] 39 (0, 0)) :=
          (Below.heap_alloc _ _ _ (by simp)).trans (by simpa using World.alloc_heap_new (W.alloc (.cells #[.int .i64 x.f0, .int .i64 x.f1, .int .i64 x.f2] 39)) (.cells #[.int .i64 x.f0, .int .i64 x.f1, .int .i64 x.f2] 39))
        have hs : (((W.alloc (.cells #[.int .i64 x.f0, .int .i64 x.f1, .int .i64 x.f2] 39)).alloc (.cells #[.int .i64 x.f0, .int .i64 x.f1, .int .i64 x.f2] 39)).alloc (.cells #[.slice A1 l1.length c1] 22)).heap[W.heap.size + 2]? = some (.cells #[.slice A1 l1.length c1] 22 (0, 0)) := by
          simpa using World.alloc_heap_new ((W.alloc (.cells #[.int .i64 x.f0, .int .i64 x.f1, .int .i64 x.f2] 39)).alloc (.cells #[.int .i64 x.f0, .int .i64 x.f1, .int .i64 x.f2] 39)) (.cells #[.slice A1 l1.length c1] 22)
        exact ⟨(blk_cell hl 0).trans rfl, (blk_cell hl 1).trans rfl, (blk_cell hl 2).trans rfl, (blk_cell hs 0).trans rfl, Kd.C_below (Kd.C_below HR1.out HI.out.bel) HB3.out, HC1.out⟩⟩
      gi_wp2_with (refine ⟨trivial, ?_⟩; gi_at_call 79; refine (callsIn_wide.2 (pieces_calls x A1 l1.length c1 _)).mono ?_; rintro e w' ⟨rfl, rfl⟩)
      obtain ⟨WL, hWL⟩ : ∃ WL, (((W.alloc (.cells #[.int .i64 x.f0, .int .i64 x.f1, .int .i64 x.f2] 39)).alloc (.cells #[.int .i64 x.f0, .int .i64 x.f1, .int .i64 x.f2] 39)).alloc (.cells #[.slice A1 l1.length c1] 22)) = WL := ⟨_, rfl⟩
      rw [hWL] at HG HB3 HW ⊢
      clear hWL
      have hnW : w.heap.size + 2 ≤ W.heap.size := by
        have := blk_lt HI.out.box
        omega
      refine wpIn_rangeFunc_ownH rfl (by omega) (gf := 94) (lb := #[.pointer (some ⟨W.heap.size + 1, 0, none⟩), .pointer (some ⟨W.heap.size + 1 + 1, 0, none⟩)]) rfl trivial (enters_of Try.func94 (by kernel_rfl) rfl)
        (Kp := fun X Y => Kept X Y (fun j => ¬ (j < w.heap.size ∨ (W.heap.size ≤ j ∧ j < W.heap.size + 3))))
        (pieces_stops (W.heap.size + 1) (W.heap.size + 2) A1 c1 x l1 (l1.length + 2) i0 b0 hi0 HBS.out _ ?hKG (2 * l1.length + 1) (Nat.le_trans (piecesGo_len _ _ _) (by rw [List.length_drop]; omega)) WL HG.out)
        (fun h k => h.then_ k (fun _ hk => .inl hk)) ?hKb (Below.refl _ _) (fun _ => rfl)
        (fun pre Y => ∃ v, Kd.R k39 39 Y w.heap.size (fun j => ¬ (W.heap.size ≤ j ∧ j < W.heap.size + 3)) v (pre.foldl (stepC a2) (chosenL l1 a2 (l0.take k) [])) ∧ Y.heap[w.heap.size + 1]? = some (.cells #[v] 22 (0, 0)) ∧ Y.heap[w.heap.size]? = some (.cells #[.bool a2] 4 (0, 0)) ∧ Below w.heap.size w Y ∧ WL.heap.size ≤ Y.heap.size ∧ ∀ D ∈ Ds, D < W.heap.size ∧ Y.heap[D]? = some (.deferred (some [])))
        (fun _ _ _ => False) ?hI (fun _ _ _ _ _ hs _ _ => hs) ?h0
        (fun y a' Y => ∃ (Bp : Nat), Y.heap[Bp]? = some (.cells #[.int .i64 y.1.f0, .int .i64 y.1.f1, .int .i64 y.1.f2] 39 (0, 0)) ∧ WL.heap.size ≤ Bp ∧ a' = { tmps := #[.slice (some ad) l0.length c0, .slice A1 l1.length c1, .bool a2, undef, undef, .pointer (some ⟨w.heap.size, 0, none⟩), .slice none 0 0, .pointer (some ⟨w.heap.size + 1, 0, none⟩), u8, .pointer (some ⟨W.heap.size, 0, none⟩), .pointer (some ⟨Bp, 0, none⟩), .bool y.2, .slice (some ad) l0.length c0, .int .i64 l0.length, .int .i64 k, .bool true, .pointer (some (ad.add (k * 3))), .agg #[.int .i64 x.f0, .int .i64 x.f1, .int .i64 x.f2], .agg #[.int .i64 x.f0, .int .i64 x.f1, .int .i64 x.f2], .slice A1 l1.length c1, .func (.func 94) #[] #[.pointer (some ⟨W.heap.size + 1, 0, none⟩), .pointer (some ⟨W.heap.size + 1 + 1, 0, none⟩)], .agg #[.int .i64 y.1.f0, .int .i64 y.1.f1, .int .i64 y.1.f2], .bool y.2, u23, u24, u25, u26, u27, u28, u29, u30], defers := [] }) ?hAx ?assign ?body ?done ?stop
      case hKG =>
        intro X Y hk hg
        have ckept : ∀ {a : Addr} {u : Value}, X.cell? a = some u → Kept X Y (fun j => ¬ (j < w.heap.size ∨ (W.heap.size ≤ j ∧ j < W.heap.size + 3))) → ¬ ¬ (a.block < w.heap.size ∨ (W.heap.size ≤ a.block ∧ a.block < W.heap.size + 3)) → Y.cell? a = some u := fun h1 h2 h3 => Go.Proofs.YtcicjbgfahdejaaW.PrintWords.cell_kept h1 h2 h3
        have e1 : ∀ j, j < w.heap.size ∨ (W.heap.size ≤ j ∧ j < W.heap.size + 3) → ¬ ¬ (j < w.heap.size ∨ (W.heap.size ≤ j ∧ j < W.heap.size + 3)) := fun j h h' => h' h
        exact ⟨ckept hg.l0 hk (e1 _ (.inr ⟨by simp, by simp⟩)), ckept hg.l1 hk (e1 _ (.inr ⟨by simp, by simp⟩)), ckept hg.l2 hk (e1 _ (.inr ⟨by simp, by simp⟩)), ckept hg.s0 hk (e1 _ (.inr ⟨by simp, by simp⟩)), C_same' HR1.out hg.cs hk.2 (fun i hi => e1 _ (.inl hi)), hg.cap⟩
      case hKb =>
        intro Y l o o' hl _ _ _
        have := HW.out
        exact ⟨by simp, fun i hi hn => World.putObj_heap_other (fun e => hn (fun h => by omega))⟩
      case hI =>
        rintro pre Y Y' row ⟨v, hR, hb, hi, hB, hs, hD⟩ hg hr
        have := HW.out
        have hne : ∀ j, j < WL.heap.size → some j ≠ row := fun j hj e => by have := (hr j e.symm).1; omega
        exact ⟨v, R_others hR hg (fun r e => (hr r e).2), (hg.block _ (blk_lt hb) (hne _ (by omega))).trans hb, (hg.block _ (blk_lt hi) (hne _ (by omega))).trans hi, hB.grown hg hB.size (fun j e => by have := (hr j e).1; omega), Nat.le_trans hs hg.size, fun D hDD => ⟨(hD D hDD).1, (hg.block _ (blk_lt (hD D hDD).2) (hne _ (by have := (hD D hDD).1; omega))).trans (hD D hDD).2⟩⟩
      case h0 =>
        have hW := HW.out
        refine ⟨v, Kd.R_below (Kd.R_mono (Kd.R_bound HI.out.out) (fun j hj => fun h => by have := hj.2.2.1; omega)) HB3.out, (HB3.out.block _ (blk_lt HI.out.box)).trans HI.out.box, (HB3.out.block _ (blk_lt HI.out.inb)).trans HI.out.inb, HI.out.bel.trans (HB3.out.mono HI.out.bel.size), Nat.le_refl _, fun D hD => ?_⟩
        have h := (HI.out.marks D hD).2
        exact ⟨(Array.getElem?_eq_some_iff.1 h).1, (HB3.out.block _ (Array.getElem?_eq_some_iff.1 h).1).trans h⟩
      case hAx =>
        rintro y a' _ Y Y' row ⟨Bp, hb, hle, rfl⟩ hg hr
        refine ⟨Bp, (hg.block _ (blk_lt hb) (fun e => ?_)).trans hb, hle, rfl⟩
        obtain ⟨_, o, ho, hc⟩ := hr Bp e.symm
        rw [hb] at ho
        cases ho
        simp [Obj.isCells] at hc
      case assign =>
        rintro lq pre y Y K ⟨v', hR, hb, hi, hB, hs, hD⟩ hK
        gi_wp2
        have hB2 : Below Y.heap.size Y (Y.alloc (.cells #[.int .i64 y.1.f0, .int .i64 y.1.f1, .int .i64 y.1.f2] 39)) := below_alloc (Below.refl _ _) _
        exact hK _ _ ((KeepsOthers.alloc _ _).from _) (Kept.of_below hB2 _) ⟨v', Kd.R_below hR hB2, (hB2.block _ (blk_lt hb)).trans hb, (hB2.block _ (blk_lt hi)).trans hi, hB.trans (hB2.mono hB.size), Nat.le_trans hs hB2.size, fun D hDD => ⟨(hD D hDD).1, (hB2.block _ (blk_lt (hD D hDD).2)).trans (hD D hDD).2⟩⟩ ⟨Y.heap.size, World.alloc_heap_new Y _, hs, rfl⟩
      case body =>
        rintro lq pre y a' Y hlq hrec ⟨v', hR, hb, hi, hB, hs, hD⟩ ⟨Bp, hp, hple, rfl⟩ hlen2
        have c1 := (blk_cell hb 0).trans rfl
        have c2 := (blk_cell hi 0).trans rfl
        have c3 := (blk_cell hp 0).trans rfl
        have c4 := (blk_cell hp 1).trans rfl
        have c5 := (blk_cell hp 2).trans rfl
        have hW := HW.out
        have hlen3 : (pre.foldl (stepC a2) (chosenL l1 a2 (l0.take k) [])).length < 5864062014805 := by
          have h1 := chosenL_len l1 a2 hl1 (l0.take k) [] (by have := List.length_take_le k l0; simp only [List.length_nil]; omega)
          have h2 := List.length_take_le k l0
          simp only [List.length_nil] at h1
          have h3 := foldC_len a2 pre (chosenL l1 a2 (l0.take k) []) (by omega)
          omega
        have HJ := Aside0.mk (join_len (pre.foldl (stepC a2) (chosenL l1 a2 (l0.take k) [])) y.1 hlen3).1
        have HF : Aside0 ((pre ++ [y]).foldl (stepC a2) (chosenL l1 a2 (l0.take k) []) = if y.2 == a2 then jn (pre.foldl (stepC a2) (chosenL l1 a2 (l0.take k) [])) y.1 else pre.foldl (stepC a2) (chosenL l1 a2 (l0.take k) [])) := ⟨by rw [List.foldl_append]; rfl⟩
        have HR := Aside0.mk hR
        have HBB := Aside0.mk hB
        have HD := Aside0.mk hD
        have HBX := Aside0.mk hb
        have HIX := Aside0.mk hi
        have HPX := Aside0.mk hp
        have hs2 := hs
        clear hR hB hD hlen3 hs hb hi hp
        generalize hacc : pre.foldl (stepC a2) (chosenL l1 a2 (l0.take k) []) = acc at HJ HF HR
        clear hacc
        by_cases hy : (y.2 == a2) = true
        · gi_wp2_with (refine ⟨trivial, rfl, ?_⟩; gi_at_call 58; refine (CallsIn.inRound lq (callsIn_wide.2 (lots_join.calls (fun j => some j = v'.ownBlock) v' acc y.1.f0 y.1.f1 y.1.f2 _ w Y HBB.out (R_flat HR.out (fun j h => h.symm)) HJ.out))).mono ?_; rintro e w8 ⟨u8', rfl, hR8, hB8, hk8⟩; obtain ⟨Ao8, co8, rfl⟩ := Kd.R_slice hR8; have HR8 := Aside0.mk hR8; have HB8 := Aside0.mk hB8; have HK8 := Aside0.mk hk8; have hb8 := blk_kept HBX.out hk8 (Kd.R_ne HR.out HBX.out (by decide)); have hc8 := (blk_cell hb8 0).trans rfl; have hf8 := blk_frozen hb8 0; have HBX8 := Aside0.mk hb8; clear hR8 hB8 hk8 hb8)
          have HF2 := HF.out
          rw [if_pos hy] at HF2
          have hW := HW.out
          have hown : ∀ j, some j = v'.ownBlock → w.heap.size ≤ j ∧ ¬ (W.heap.size ≤ j ∧ j < W.heap.size + 3) ∧ ∃ cells, Y.heap[j]? = some (.cells cells 39 (0, 0)) := fun j hj => by
            obtain ⟨h1, h2, _, q, hq, cells, hc⟩ := (Kd.R_bound HR.out).1 j hj.symm
            have : q = 39 := by simpa [k39, Kd.iso, Kd.pair, Kd.int, Kd.scalar] using hq
            subst this
            exact ⟨h2, h1, cells, hc⟩
          have hcells : ∀ j o, Y.heap[j]? = some o → o.isCells = false → ¬ (some j = v'.ownBlock) := fun j o ho hi hj => by
            obtain ⟨_, _, cells, hc⟩ := hown j hj
            rw [ho] at hc
            cases hc
            simp [Obj.isCells] at hi
          refine ⟨⟨by simpa [World.setCell] using HK8.out.1, fun j o _ ho hio => ?_⟩, ?_, ⟨_, ?_, by simpa using blk_set HBX8.out 0 _, ?_, ?_, ?_, ?_⟩⟩
          · have h1 := (HK8.out.2 j (Array.getElem?_eq_some_iff.1 ho).1 (hcells j o ho hio)).trans ho
            exact (KeepsOthers.setCell _ _ _).same j o h1 hio
          · exact Kept.setCell (HK8.out.mono (fun j hj => fun h => by obtain ⟨h1, h2, _⟩ := hown j hj; omega)) (.inl (fun h => by have h' : w.heap.size + 1 < w.heap.size ∨ (W.heap.size ≤ w.heap.size + 1 ∧ w.heap.size + 1 < W.heap.size + 3) := h; omega)) _
          · rw [HF2]
            refine Kd.R_mono (Kd.R_far (p := ⟨w.heap.size + 1, 0, none⟩) (Kd.R_types HR8.out HBX8.out (by intro q hq; obtain rfl : q = 39 := (by simpa [k39, Kd.iso, Kd.pair, Kd.int, Kd.scalar] using hq); omega)) (fun _ hk => hk.2) _) ?_
            rintro j ⟨hj, _⟩ hjj
            rcases hj with hj | hj
            · exact (hown j hj).2.1 hjj
            · omega
          · have h1 := blk_kept HIX.out HK8.out (Kd.R_ne HR.out HIX.out (by decide))
            exact (Below.heap_setCell _ _ _ _ (by simp)).trans h1
          · exact below_set (HB8.out) (by simp)
          · have := HK8.out.1
            simp only [World.setCell]
            simpa using Nat.le_trans hs2 this
          · intro D hDD
            obtain ⟨h1, h2⟩ := HD.out D hDD
            refine ⟨h1, ?_⟩
            have h3 := (HK8.out.2 D (Array.getElem?_eq_some_iff.1 h2).1 (hcells D _ h2 rfl)).trans h2
            exact (KeepsOthers.setCell _ _ _).same D _ h3 rfl
        · replace hy := Bool.eq_false_iff.2 hy
          gi_wp2_with fail
          have HF2 := HF.out
          rw [if_neg (by rw [hy]; decide)] at HF2
          exact ⟨KeepsFrom.refl _ _, Kept.refl _ _, ⟨v', by rw [HF2]; exact HR.out, HBX.out, HIX.out, HBB.out, hs2, HD.out⟩⟩
      case done =>
        rintro D ys Y hD rfl ⟨v', hR, hb, hi, hB, hs, hDD⟩ hKD
        gi_wp2
        have hW := HW.out
        refine ⟨⟨k + 1, D :: Ds, v', _, _, _, _, _, _, _, _, _, _, _, _, _, _, _, _, _, _, _, _, by omega, ⟨?_⟩, rfl⟩, by simp [intOf]; omega⟩
        exact
          { nodup := List.nodup_cons.2 ⟨fun h => by have := (hDD D h).1; omega, HI.out.nodup⟩
            marks := fun E hE => by
              rcases List.mem_cons.1 hE with rfl | hE
              · exact ⟨by omega, hKD⟩
              · exact ⟨(HI.out.marks E hE).1, (hDD E hE).2⟩
            out := by rw [HS.out, HPS.out]; exact Kd.R_mono hR (fun _ _ => trivial)
            box := hb
            inb := hi
            bel := hB }
      case stop =>
        rintro D c pre Y _ _ h _
        exact h.elim
    · have e1 : decide ((k : Int) < (l0.length : Int)) = false := decide_eq_false (by omega)
      have hc1 := (blk_cell HI.out.box 0).trans rfl
      obtain ⟨Ao, co, rfl⟩ := Kd.R_slice HI.out.out
      gi_wp2
      have hkl : l0.take k = l0 := List.take_of_length_le (by omega)
      have hout := HI.out.out
      have hout2 : Kd.R k39 39 W w.heap.size (fun _ => True) (.slice Ao (chosenL l1 a2 (l0.take k) []).length co) (chosenL l1 a2 l0 []) := by
        have h := hout
        rwa [show chosenL l1 a2 (l0.take k) [] = chosenL l1 a2 l0 [] from by rw [hkl]] at h ⊢
      refine leaves_coll (fun W' => results_tmp rfl _ _ _) (fun W' => Kd.R k39 39 W' w.heap.size (fun _ => True) (.slice Ao (chosenL l1 a2 (l0.take k) []).length co) (chosenL l1 a2 l0 []) ∧ Below w.heap.size w W' ∧ w.heap.size ≤ W'.heap.size) w.heap.size ?_ (fun W' h => ⟨_, rfl, h.1, h.2.1⟩) Ds W HI.out.nodup HI.out.marks ⟨hout2, HI.out.bel, HI.out.bel.size⟩
      rintro W' D hD ⟨h1, h2, h3⟩ hdd
      have hg := grownBy_putObj' W' D (.deferred none)
      exact ⟨R_others h1 hg (fun r e => by cases e; exact ⟨_, hdd, rfl⟩), h2.grown hg h3 (fun j e => by cases e; exact hD), Nat.le_trans h3 hg.size⟩
end Go.Proofs.Ytcicjbgfahdejaa.P
