/- This session's own: What lots.chosen computes, and how its facts move from world to world. -/
import Derived.Test.YtcicjbgfahdejaaEP
namespace Go.Proofs.Ytcicjbgfahdejaa.P
open Go.RowKit Go.Shelf Go.Proofs.YtcicjbgfahdejaaW.PrintWords Go.Proofs.YtcicjbgfahdejaaW.PrintLast Go.Proofs.YtcicjbgfahdejaaW.PrintMore
set_option linter.unusedSimpArgs false
attribute [local go_sem] Oper.semAt_some
set_option linter.unusedVariables false

/-- pieces: two boxes, a closure over them. -/
theorem pieces_calls (x : S39) (A : Option Addr) (n c : Nat) (w : World) :
    Calls Try.prog 79 #[.agg #[.int .i64 x.f0, .int .i64 x.f1, .int .i64 x.f2], .slice A n c] w fun e w' => e = .returned (.func (.func 94) #[] #[.pointer (some ⟨w.heap.size, 0, none⟩), .pointer (some ⟨w.heap.size + 1, 0, none⟩)]) ∧
      w' = (w.alloc (.cells #[.int .i64 x.f0, .int .i64 x.f1, .int .i64 x.f2] 39)).alloc (.cells #[.slice A n c] 22) := by
  have hmf : ∀ (fn : Fn) (first cap : Array Value) (w : World), (Instr.makeFunc fn first cap).run Try.prog w = .ok (.func fn first cap) w := fun _ _ _ _ => rfl
  go_enter Try.func79, Try.ntmps79
  go_wp2
  go_ret
  exact ⟨rfl, rfl⟩

theorem pieces_stops (Bl Bs : Nat) (A : Option Addr) (c : Nat) (l : S39) (set : List S39) (kf : Nat) (i0 : Int) (b0 : Bool) (hi0 : 0 ≤ i0) (hbs : api_Lot_95.f kf set l.f0 l.f1 l.f2 = some (i0, b0))
    (Kp : World → World → Prop) (hKG : ∀ X Y, Kp X Y → Good Bl Bs A c l set X → Good Bl Bs A c l set Y) (N : Nat) (hN : (piecesGo l (set.drop i0.toNat) l.f1).length ≤ N) (w : World) (hG : Good Bl Bs A c l set w) :
    SeqStopsK Fence.wide 1 Try.prog 94 #[.pointer (some ⟨Bl, 0, none⟩), .pointer (some ⟨Bs, 0, none⟩)] encP Kp (fun ys => ys = piecesGo l (set.drop i0.toNat) l.f1) (fun _ => True) N w := by
  intro lp J Jx W hW hJ hJx hY h0
  exact pieces1_in lp Bl Bs A c l set kf i0 b0 hi0 hbs Kp hKG J Jx (fun pre X Y h hb => hJ pre X Y none h (grown_of_below hb none) (by simp)) N hN hY W (hG.below hW) h0

/-! ### what chosen computes -/
/-- A list with a lot behind it, joined with the last one if it continues that. -/
def jn (out : List S39) (p : S39) : List S39 := (lots_join.f out p.f0 p.f1 p.f2).getD []
theorem join_len (out : List S39) (p : S39) (h : out.length < 5864062014805) : lots_join.f out p.f0 p.f1 p.f2 = some (jn out p) ∧ (jn out p).length ≤ out.length + 1 := by
  suffices hs : ∃ r, lots_join.f out p.f0 p.f1 p.f2 = some r ∧ r.length ≤ out.length + 1 by
    obtain ⟨r, h1, h2⟩ := hs
    unfold jn
    rw [h1]
    exact ⟨rfl, h2⟩
  unfold lots_join.f lots_end.f
  by_cases h0 : (out.length : Int) > 0
  · rw [if_pos h0]
    have e : wrap64 ((out.length : Int) - 1) = (out.length : Int) - 1 := by unfold wrap64; omega
    rw [e, if_pos (by omega), if_pos (by omega)]
    simp only [Option.bind_some]
    split
    · exact ⟨_, rfl, by rw [List.length_set]; omega⟩
    · exact ⟨_, rfl, by simp⟩
  · rw [if_neg h0, if_pos h]
    exact ⟨_, rfl, by simp⟩
def stepC (b : Bool) (out : List S39) (x : S39 × Bool) : List S39 := if x.2 == b then jn out x.1 else out
def startC (s : List S39) (x : S39) : Option (Int × Bool) := api_Lot_95.f (s.length + 2) s x.f0 x.f1 x.f2
def piecesOf (s : List S39) (x : S39) : List (S39 × Bool) := match startC s x with
  | some (i, _) => piecesGo x (s.drop i.toNat) x.f1
  | none => []
def chosenL (s : List S39) (b : Bool) (l : List S39) (out : List S39) : List S39 := l.foldl (fun o x => (piecesOf s x).foldl (stepC b) o) out
def okStart (s : List S39) (x : S39) : Bool := match startC s x with
  | some (i, _) => decide (0 ≤ i)
  | none => false
def lots_chosen.f (l s : List S39) (b : Bool) : Option (List S39) :=
  if l.length ≤ 65536 ∧ s.length ≤ 65536 ∧ l.all (okStart s) = true then some (chosenL s b l []) else none
theorem piecesGo_len (l : S39) (s : List S39) (at_ : Int) : (piecesGo l s at_).length ≤ 2 * s.length + 1 := by
  have ht : ∀ a, (tailL l a).length ≤ 1 := fun a => by unfold tailL; split <;> simp
  induction s generalizing at_ with
  | nil => have := ht at_; simp only [piecesGo, List.length_nil]; omega
  | cons x t ih =>
    simp only [piecesGo, List.length_cons]
    split
    · have := ih (mn (endL l) (endL x))
      split <;> simp only [List.length_append, List.length_cons, List.length_nil] <;> omega
    · have := ht at_
      omega
theorem stepC_len (b : Bool) (out : List S39) (x : S39 × Bool) (h : out.length < 5864062014805) : (stepC b out x).length ≤ out.length + 1 := by
  unfold stepC
  split
  · exact (join_len out x.1 h).2
  · omega
theorem foldC_len (b : Bool) (ps : List (S39 × Bool)) : ∀ (out : List S39), out.length + ps.length < 5864062014805 → (ps.foldl (stepC b) out).length ≤ out.length + ps.length := by
  induction ps with
  | nil => intro out _; simp
  | cons x t ih =>
    intro out h
    simp only [List.length_cons] at h
    have h1 := stepC_len b out x (by omega)
    have h2 := ih (stepC b out x) (by omega)
    simp only [List.foldl_cons, List.length_cons]
    omega
theorem piecesOf_len (s : List S39) (x : S39) : (piecesOf s x).length ≤ 2 * s.length + 1 := by
  unfold piecesOf
  split
  · exact Nat.le_trans (piecesGo_len _ _ _) (by rw [List.length_drop]; omega)
  · simp
theorem chosenL_len (s : List S39) (b : Bool) (hs : s.length ≤ 65536) (l : List S39) : ∀ (out : List S39), out.length + l.length * 131073 < 5864062014805 → (chosenL s b l out).length ≤ out.length + l.length * 131073 := by
  induction l with
  | nil => intro out _; simp [chosenL]
  | cons x t ih =>
    intro out h
    simp only [List.length_cons, Nat.add_mul, Nat.one_mul] at h
    have hp := piecesOf_len s x
    have h1 := foldC_len b (piecesOf s x) out (by omega)
    have h2 := ih ((piecesOf s x).foldl (stepC b) out) (by omega)
    simp only [chosenL, List.foldl_cons, List.length_cons, Nat.add_mul, Nat.one_mul] at h2 ⊢
    omega
/-! ### movers -/
theorem add_block_ (a : Addr) (k : Nat) : (a.add k).block = a.block := by unfold Addr.add; split <;> simp_all
theorem R_flat {w : World} {base : Nat} {ok ok' : Nat → Prop} {v : Value} {xs : List S39} (h : Kd.R k39 39 w base ok v xs) (hk : ∀ k, v.ownBlock = some k → ok' k) : Kd.R k39 39 w base ok' v xs :=
  ⟨hk, h.2.imp_ (fun _ _ hp => hp)⟩
theorem R_others {α : Type} {d : Kd α} {e base : Nat} {W W' : World} {ok : Nat → Prop} {v : Value} {xs : List α} {row : Option Nat} (h : d.R e W base ok v xs) (hg : W.grownBy W' row)
    (hr : ∀ r, row = some r → ∃ o : Obj, W.heap[r]? = some o ∧ o.isCells = false) : d.R e W' base ok v xs :=
  Kd.R_mono (Kd.R_move (Kd.R_bound h) (fun k hk => by
    obtain ⟨_, _, hlt, q, _, cells, hc⟩ := hk
    refine hg.block k hlt (fun e => ?_)
    obtain ⟨o, ho, hi⟩ := hr k e.symm
    rw [hc] at ho
    cases ho
    simp [Obj.isCells] at hi)) (fun _ hk => hk.1)
theorem C_same {w X Y : World} {A : Option Addr} {n : Nat} {xs : List S39} (h0 : Kd.C k39 w A n xs) (hX : Kd.C k39 X A n xs) (hk : ∀ i, i < w.heap.size → Y.heap[i]? = X.heap[i]?) : Kd.C k39 Y A n xs := by
  refine ⟨hX.1, hX.2.1, fun hn => ?_⟩
  obtain ⟨ad, e, hc⟩ := hX.2.2 hn
  obtain ⟨ad', e', hc'⟩ := h0.2.2 hn
  rw [e] at e'
  cases e'
  have hlt : ad.block < w.heap.size := by
    have hx : 0 < xs.length := by have := h0.1; omega
    obtain ⟨c, hl, hK, hcell⟩ := hc' 0 _ (List.getElem?_eq_getElem hx)
    have hcl : c.length = 3 := hl
    obtain ⟨u, hu⟩ : ∃ u, c[0]? = some u := ⟨_, List.getElem?_eq_getElem (by omega)⟩
    have := World.block_lt_of_cell? w _ (hcell 0 u hu)
    rwa [add_block_] at this
  refine ⟨ad, e, fun j p hj => ?_⟩
  obtain ⟨c, hl, hK, hcell⟩ := hc j p hj
  refine ⟨c, hl, hK, fun i u hu => ?_⟩
  have h2 := hcell i u hu
  have h3 := hk (ad.add (j * k39.sz + i)).block (by rw [add_block_]; exact hlt)
  simpa [World.cell?, h3] using h2
/-- What came in lies on where nothing below has turned. -/
theorem C_same' {w X Y : World} {S : Nat → Prop} {A : Option Addr} {n : Nat} {xs : List S39} (h0 : Kd.C k39 w A n xs) (hX : Kd.C k39 X A n xs) (hk : ∀ i, i < X.heap.size → ¬ S i → Y.heap[i]? = X.heap[i]?) (hS : ∀ i, i < w.heap.size → ¬ S i) : Kd.C k39 Y A n xs := by
  refine ⟨hX.1, hX.2.1, fun hn => ?_⟩
  obtain ⟨ad, e, hc⟩ := hX.2.2 hn
  obtain ⟨ad', e', hc'⟩ := h0.2.2 hn
  rw [e] at e'
  cases e'
  have hlt : ad.block < w.heap.size := by
    have hx : 0 < xs.length := by have := h0.1; omega
    obtain ⟨c, hl, hK, hcell⟩ := hc' 0 _ (List.getElem?_eq_getElem hx)
    have hcl : c.length = 3 := hl
    obtain ⟨u, hu⟩ : ∃ u, c[0]? = some u := ⟨_, List.getElem?_eq_getElem (by omega)⟩
    have := World.block_lt_of_cell? w _ (hcell 0 u hu)
    rwa [add_block_] at this
  refine ⟨ad, e, fun j p hj => ?_⟩
  obtain ⟨c, hl, hK, hcell⟩ := hc j p hj
  refine ⟨c, hl, hK, fun i u hu => ?_⟩
  have h2 := hcell i u hu
  have hb : (ad.add (j * k39.sz + i)).block = ad.block := add_block_ _ _
  have h3 := hk (ad.add (j * k39.sz + i)).block (World.block_lt_of_cell? X _ h2) (hS _ (by rw [hb]; exact hlt))
  simpa [World.cell?, h3] using h2
end Go.Proofs.Ytcicjbgfahdejaa.P
