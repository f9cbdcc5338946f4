/- This session's own: The iterator that lots.pieces hands out is walked. -/
import Derived.RangeFuncNested
import Derived.RangeFuncBound
import Derived.RangeFuncCalls
import Derived.RangeFuncLeaves
import Derived.RangeFuncBox
import Derived.Shelf.Abstract
import Derived.WalkKit
import Derived.OwnWalkIn
import Derived.TacticsInMore
import Derived.LoopNIn
import Derived.LoopIn
import Derived.Maps.AppendAt
import Derived.Test.YtcicjbgfahdejaaPx2
import Derived.Deep.RegionHeld3
import Derived.Deep.QuietTactic
import Derived.BigQuiet
import Derived.Stop.RegionWithIn
namespace Go.Proofs.Ytcicjbgfahdejaa.P
open Go.RowKit Go.Shelf Go.Proofs.YtcicjbgfahdejaaW.PrintWords Go.Proofs.YtcicjbgfahdejaaW.PrintLast Go.Proofs.YtcicjbgfahdejaaW.PrintMore
set_option linter.unusedSimpArgs false
theorem max2_mx (k k' : IntKind) (x y : Int) : Builtin.max2 (.int k x) (.int k' y) = pure (.int k (mx x y)) := max2_int k k' x y
theorem min2_mn (k k' : IntKind) (x y : Int) : Builtin.min2 (.int k x) (.int k' y) = pure (.int k (mn x y)) := min2_int k k' x y
attribute [local go_sem] Oper.semAt_some max2_mx min2_mn max_two min_two
set_option linter.unusedVariables false

def endL (x : S39) : Int := wrap64 (x.f1 + x.f2)
theorem end_calls (x : S39) (w : World) : Calls Try.prog 78 #[.agg #[.int .i64 x.f0, .int .i64 x.f1, .int .i64 x.f2]] w fun e w' => e = .returned (.int .i64 (endL x)) ∧ Below w.heap.size w w' :=
  lots_end.calls x.f0 x.f1 x.f2 (endL x) w rfl

def tailL (l : S39) (at_ : Int) : List (S39 × Bool) := if at_ < endL l then [(⟨l.f0, at_, wrap64 (endL l - at_)⟩, false)] else []
def piecesGo (l : S39) : List S39 → Int → List (S39 × Bool)
  | [], at_ => tailL l at_
  | s :: t, at_ => if s.f0 = l.f0 ∧ s.f1 < endL l then
      (if at_ < mx at_ s.f1 then [(⟨l.f0, at_, wrap64 (mx at_ s.f1 - at_)⟩, false)] else []) ++ (⟨l.f0, mx at_ s.f1, wrap64 (mn (endL l) (endL s) - mx at_ s.f1)⟩, true) :: piecesGo l t (mn (endL l) (endL s))
    else tailL l at_

theorem piecesGo_yes (l s : S39) (t : List S39) (at_ : Int) (h1 : s.f0 = l.f0) (h2 : s.f1 < endL l) : piecesGo l (s :: t) at_ =
    (if at_ < mx at_ s.f1 then [(⟨l.f0, at_, wrap64 (mx at_ s.f1 - at_)⟩, false)] else []) ++ (⟨l.f0, mx at_ s.f1, wrap64 (mn (endL l) (endL s) - mx at_ s.f1)⟩, true) :: piecesGo l t (mn (endL l) (endL s)) := by
  simp only [piecesGo]
  rw [if_pos ⟨h1, h2⟩]
theorem piecesGo_no (l s : S39) (t : List S39) (at_ : Int) (h : ¬ (s.f0 = l.f0 ∧ s.f1 < endL l)) : piecesGo l (s :: t) at_ = tailL l at_ := by
  simp only [piecesGo]
  rw [if_neg h]
theorem piecesGo_nil (l : S39) (at_ : Int) : piecesGo l [] at_ = tailL l at_ := rfl
/-- What the iterator reads. -/
structure Good (Bl Bs : Nat) (A : Option Addr) (c : Nat) (l : S39) (set : List S39) (W : World) : Prop where
  l0 : W.cell? ⟨Bl, 0, none⟩ = some (.int .i64 l.f0)
  l1 : W.cell? ⟨Bl, 1, none⟩ = some (.int .i64 l.f1)
  l2 : W.cell? ⟨Bl, 2, none⟩ = some (.int .i64 l.f2)
  s0 : W.cell? ⟨Bs, 0, none⟩ = some (.slice A set.length c)
  cs : Kd.C k39 W A set.length set
  cap : set.length ≤ c
theorem Good.below {Bl Bs : Nat} {A : Option Addr} {c : Nat} {l : S39} {set : List S39} {W W' : World} (h : Good Bl Bs A c l set W) (hb : Below W.heap.size W W') : Good Bl Bs A c l set W' :=
  ⟨pw_cell_below hb h.l0, pw_cell_below hb h.l1, pw_cell_below hb h.l2, pw_cell_below hb h.s0, Kd.C_below h.cs hb, h.cap⟩

abbrev encP (x : S39 × Bool) : Array Value := #[.agg #[.int .i64 x.1.f0, .int .i64 x.1.f1, .int .i64 x.1.f2], .bool x.2]

theorem yield_one {F : Fence} {n : Nat} {P : Program} {l : Nat} {f : FuncId} {tmps : Array Value} {assign body : Code} {w : World} {A B : World → Prop}
    (h : RoundIn F n P l f tmps assign body w fun e W' => (e = .returned (.bool true) ∧ A W') ∨ (e = .returned (.bool false) ∧ B W')) :
    RoundIn F n P l f tmps assign body w fun e W' => ∃ b, e = .returned (.bool b) ∧ (A W' ∨ B W') :=
  h.mono (by
    rintro e W' (⟨rfl, h⟩ | ⟨rfl, h⟩)
    · exact ⟨true, rfl, .inl h⟩
    · exact ⟨false, rfl, .inr h⟩)

set_option maxRecDepth 100000 in
set_option maxHeartbeats 4000000 in
theorem pieces1_in (lp Bl Bs : Nat) (A : Option Addr) (c : Nat) (l : S39) (set : List S39) (kf : Nat) (i0 : Int) (b0 : Bool) (hi0 : 0 ≤ i0) (hbs : api_Lot_95.f kf set l.f0 l.f1 l.f2 = some (i0, b0))
    (Kp : World → World → Prop) (hKG : ∀ X Y, Kp X Y → Good Bl Bs A c l set X → Good Bl Bs A c l set Y) (J Jx : List (S39 × Bool) → World → Prop)
    (hJ : ∀ pre X Y, J pre X → Below X.heap.size X Y → J pre Y)
    (N : Nat) (hN : (piecesGo l (set.drop i0.toNat) l.f1).length ≤ N) (hY : ∀ pre x W, J pre W → pre.length < N → YieldAt Fence.wide 0 Try.prog lp (encP x) W fun e W' =>
      (e = .returned (.bool true) ∧ J (pre ++ [x]) W' ∧ Kp W W') ∨ (e = .returned (.bool false) ∧ Jx (pre ++ [x]) W'))
    (W : World) (hG : Good Bl Bs A c l set W) (h0 : J [] W) :
    CallsIn Fence.wide 1 Try.prog 94 #[.func (.yield lp) #[] #[], .pointer (some ⟨Bl, 0, none⟩), .pointer (some ⟨Bs, 0, none⟩)] W fun e W' => (∃ v, e = .returned v) ∧
      ((∃ ys, ys = piecesGo l (set.drop i0.toNat) l.f1 ∧ J ys W') ∨ (∃ pre, True ∧ Jx pre W')) := by
  have g1 := hG.l1
  have g0 := hG.l0
  have g2 := hG.l2
  have gs := hG.s0
  have HG := Aside0.mk hG
  have HB := Aside0.mk (fun X hb => api_Lot_95.calls kf A c set l.f0 l.f1 l.f2 i0 b0 X (Kd.C_below hG.cs hb) hG.cap hbs)
  have HJ0 := Aside0.mk h0
  have HNN := Aside0.mk hN
  clear hG h0 hbs hN
  refine callsIn_of_wp Try.func94 rfl trivial ?_ rfl
  simp only [Try.ntmps94, List.size_toArray, List.length_cons, List.length_nil, Nat.reduceAdd, Nat.reduceSub, Array.replicate_succ, Array.replicate_zero, List.push_toArray, List.append_toArray, List.nil_append, List.cons_append]
  obtain ⟨k0, rfl⟩ := Int.eq_ofNat_of_zero_le hi0
  gi_wp2_with (refine ⟨trivial, ?_⟩; gi_at_call 95; refine (callsIn_wide.2 (HB.out W (Below.refl _ _))).mono ?_; rintro e w1 ⟨rfl, hb1⟩; have HG1 := Aside0.mk (HG.out.below hb1); have HJ1 := Aside0.mk (hJ _ _ _ HJ0.out hb1); clear hb1)
  gi_loopw [4, 5] (fun v4 v5 wr => ∃ (at_ : Int) (k : Nat) (pre : List (S39 × Bool)), v4 = .int .i64 at_ ∧ v5 = .int .i64 k ∧ Aside0 (pre ++ piecesGo l (set.drop k) at_ = piecesGo l (set.drop (k0 : Int).toNat) l.f1) ∧ Aside0 (Good Bl Bs A c l set wr) ∧ Aside0 (J pre wr))
    (fun _ v5 _ => set.length + 1 - (intOf v5).toNat)
  case atStart => exact ⟨_, k0, [], rfl, rfl, ⟨by simp⟩, HG1, HJ1⟩
  case round =>
    clear g0 g1 g2 gs HG HJ0 HJ1 HG1 HB
    obtain ⟨at_, k, pre, rfl, rfl, HP, HG, HJ⟩ := hrel
    have hlen : set.length ≤ 9223372036854775807 := HG.out.cs.2.1
    have g1 := HG.out.l1
    have g0 := HG.out.l0
    have g2 := HG.out.l2
    have gs := HG.out.s0
    by_cases hlt : k < set.length
    · have e1 : decide ((k : Int) < (set.length : Int)) = true := decide_eq_true (by omega)
      have h0 : (0 : Int) ≤ (k : Int) := by omega
      have hi : (k : Int) < (set.length : Int) := by omega
      obtain ⟨ad, hA, hx0, hx1, hx2⟩ := at_T39 HG.out.cs (k : Int) h0 hi
      cases hA
      simp only [Int.toNat_natCast] at hx0 hx1 hx2
      have HD : Aside0 (set.drop k = rd_T39 set (k : Int) :: set.drop (k + 1)) := ⟨by
        rw [List.drop_eq_getElem_cons hlt]
        simp only [rd_T39, Int.toNat_natCast, List.getD_eq_getElem?_getD, List.getElem?_eq_getElem hlt, Option.getD_some]⟩
      generalize rd_T39 set (k : Int) = s at hx0 hx1 hx2 HD
      by_cases hf : s.f0 = l.f0
      · have e2 : (s.f0 == l.f0) = true := beq_iff_eq.2 hf
        have HF := Aside0.mk hf
        clear hf
        by_cases hs : s.f1 < endL l
        · have e3 : decide (s.f1 < endL l) = true := decide_eq_true hs
          have HS := Aside0.mk hs
          clear hs
          gi_wp2_with fail
          refine wpIn_wide.2 ?_
          go_region_held3 (fun w' => w'.cell? ⟨Bl, 0, none⟩ = some (.int .i64 l.f0) ∧ w'.cell? ⟨Bl, 1, none⟩ = some (.int .i64 l.f1) ∧ w'.cell? ⟨Bl, 2, none⟩ = some (.int .i64 l.f2) ∧ w'.cell? ⟨Bs, 0, none⟩ = some (.slice (some ad) set.length c) ∧ w'.cell? (ad.add (k * 3)) = some (.int .i64 s.f0) ∧ w'.cell? ⟨(ad.add (k * 3)).block, (ad.add (k * 3)).off + 1, none⟩ = some (.int .i64 s.f1) ∧ w'.cell? ⟨(ad.add (k * 3)).block, (ad.add (k * 3)).off + 2, none⟩ = some (.int .i64 s.f2) ∧ Below wr.heap.size wr w')
            (first | exact ⟨by simpa using g0, by simpa using g1, by simpa using g2, by simpa using gs, by simpa using hx0, by simpa using hx1, by simpa using hx2, (Below.refl _ _).drew⟩ | (go_split_ands; exact ⟨pw_cell_below hb (by assumption), pw_cell_below hb (by assumption), pw_cell_below hb (by assumption), pw_cell_below hb (by assumption), pw_cell_below hb (by assumption), pw_cell_below hb (by assumption), pw_cell_below hb (by assumption), below_step (by assumption) hb⟩))
            (first | (go_at_call 78; refine (end_calls l _).mono ?_; rintro e w' ⟨rfl, hb⟩))
          obtain ⟨c0, c1, c2, cs, d0, d1, d2, hB2⟩ : w'.cell? ⟨Bl, 0, none⟩ = some (.int .i64 l.f0) ∧ w'.cell? ⟨Bl, 1, none⟩ = some (.int .i64 l.f1) ∧ w'.cell? ⟨Bl, 2, none⟩ = some (.int .i64 l.f2) ∧ w'.cell? ⟨Bs, 0, none⟩ = some (.slice (some ad) set.length c) ∧ w'.cell? (ad.add (k * 3)) = some (.int .i64 s.f0) ∧ w'.cell? ⟨(ad.add (k * 3)).block, (ad.add (k * 3)).off + 1, none⟩ = some (.int .i64 s.f1) ∧ w'.cell? ⟨(ad.add (k * 3)).block, (ad.add (k * 3)).off + 2, none⟩ = some (.int .i64 s.f2) ∧ Below wr.heap.size wr w' := by assumption
          have HG2 := Aside0.mk (HG.out.below hB2)
          have HJ2 := Aside0.mk (hJ _ _ _ HJ.out hB2)
          clear HG HJ hB2
          by_cases hfr : at_ < mx at_ s.f1
          · have e4 : decide (at_ < mx at_ s.f1) = true := decide_eq_true hfr
            have HFR := Aside0.mk hfr
            clear hfr
            gi_wp2_with fail
            refine wpIn_wide.2 ?_
            go_region_held3 (fun w2 => w2.cell? ⟨Bl, 0, none⟩ = some (.int .i64 l.f0) ∧ w2.cell? ⟨Bl, 1, none⟩ = some (.int .i64 l.f1) ∧ w2.cell? ⟨Bl, 2, none⟩ = some (.int .i64 l.f2) ∧ w2.cell? ⟨Bs, 0, none⟩ = some (.slice (some ad) set.length c) ∧ w2.cell? (ad.add (k * 3)) = some (.int .i64 s.f0) ∧ w2.cell? ⟨(ad.add (k * 3)).block, (ad.add (k * 3)).off + 1, none⟩ = some (.int .i64 s.f1) ∧ w2.cell? ⟨(ad.add (k * 3)).block, (ad.add (k * 3)).off + 2, none⟩ = some (.int .i64 s.f2) ∧ Below w'.heap.size w' w2)
              (first | exact ⟨by simpa using c0, by simpa using c1, by simpa using c2, by simpa using cs, by simpa using d0, by simpa using d1, by simpa using d2, (Below.refl _ _).drew⟩ | (go_split_ands; (refine ⟨?_, ?_, ?_, ?_, ?_, ?_, ?_, ?_⟩ <;> assumption)) | (go_split_ands; exact ⟨pw_cell_below hb (by assumption), pw_cell_below hb (by assumption), pw_cell_below hb (by assumption), pw_cell_below hb (by assumption), pw_cell_below hb (by assumption), pw_cell_below hb (by assumption), pw_cell_below hb (by assumption), below_step (by assumption) hb⟩))
              (first | (go_at_call 78; refine (lots_end.calls _ _ _ _ _ rfl).mono ?_; rintro e w3 ⟨rfl, hb⟩))
            all_goals
              obtain ⟨y0, y1, y2, ys, yd0, yd1, yd2, yB⟩ : w3.cell? ⟨Bl, 0, none⟩ = some (.int .i64 l.f0) ∧ w3.cell? ⟨Bl, 1, none⟩ = some (.int .i64 l.f1) ∧ w3.cell? ⟨Bl, 2, none⟩ = some (.int .i64 l.f2) ∧ w3.cell? ⟨Bs, 0, none⟩ = some (.slice (some ad) set.length c) ∧ w3.cell? (ad.add (k * 3)) = some (.int .i64 s.f0) ∧ w3.cell? ⟨(ad.add (k * 3)).block, (ad.add (k * 3)).off + 1, none⟩ = some (.int .i64 s.f1) ∧ w3.cell? ⟨(ad.add (k * 3)).block, (ad.add (k * 3)).off + 2, none⟩ = some (.int .i64 s.f2) ∧ Below w'.heap.size w' w3 := by assumption
              have HG3 := Aside0.mk (HG2.out.below yB)
              have HJ3 := Aside0.mk (hJ _ _ _ HJ2.out yB)
              clear HG2 HJ2 yB
              have HN1 : pre.length < N := by
                have h := congrArg List.length HP.out
                have h2 := HNN.out
                rw [HD.out, piecesGo_yes l s _ at_ HF.out HS.out, if_pos HFR.out] at h
                simp only [List.length_append, List.length_cons, List.length_nil] at h
                omega
              have HN2 : (pre ++ [((⟨l.f0, at_, wrap64 (mx at_ s.f1 - at_)⟩ : S39), false)]).length < N := by
                have h := congrArg List.length HP.out
                have h2 := HNN.out
                rw [HD.out, piecesGo_yes l s _ at_ HF.out HS.out, if_pos HFR.out] at h
                simp only [List.length_append, List.length_cons, List.length_nil] at h ⊢
                omega
              obtain ⟨fn, tmps, assign, body, hy, hR⟩ := hY pre (⟨l.f0, at_, wrap64 (mx at_ s.f1 - at_)⟩, false) w3 HJ3.out HN1
              gi_wp2_with fail
              refine hR.mono ?_
              rintro e W4 (⟨rfl, hJ4, hk4⟩ | ⟨rfl, hJx4⟩)
              · have HG4 := Aside0.mk (hKG _ _ hk4 HG3.out)
                have HJ4 := Aside0.mk hJ4
                have z0 := HG4.out.l0
                clear hJ4 hk4 hy hR
                obtain ⟨fn2, tmps2, assign2, body2, hy2, hR2⟩ := hY (pre ++ [(⟨l.f0, at_, wrap64 (mx at_ s.f1 - at_)⟩, false)]) (⟨l.f0, mx at_ s.f1, wrap64 (mn (wrap64 (l.f1 + l.f2)) (wrap64 (s.f1 + s.f2)) - mx at_ s.f1)⟩, true) W4 HJ4.out HN2
                gi_wp2_with fail
                refine hR2.mono ?_
                rintro e W5 (⟨rfl, hJ5, hk5⟩ | ⟨rfl, hJx5⟩)
                · have HG5 := Aside0.mk (hKG _ _ hk5 HG4.out)
                  have HJ5 := Aside0.mk hJ5
                  clear hJ5 hk5
                  gi_wp2
                  go_roundw
                  case rel => exact ⟨_, k + 1, _, rfl, by go_num, ⟨by rw [← HP.out, HD.out, piecesGo_yes l s _ at_ HF.out HS.out, if_pos HFR.out]; simp [endL]⟩, HG5, HJ5⟩
                  case measure => simp [intOf]; omega
                · gi_wp2
                  refine bodyPost_ret (results_none rfl _ _ _) rfl ?_
                  exact ⟨⟨_, rfl⟩, .inr ⟨_, trivial, hJx5⟩⟩
              · gi_wp2
                refine bodyPost_ret (results_none rfl _ _ _) rfl ?_
                exact ⟨⟨_, rfl⟩, .inr ⟨_, trivial, hJx4⟩⟩
          · have e4 : decide (at_ < mx at_ s.f1) = false := decide_eq_false hfr
            have HFR := Aside0.mk hfr
            clear hfr
            gi_wp2_with fail
            refine wpIn_wide.2 ?_
            go_region_held3 (fun w2 => w2.cell? ⟨Bl, 0, none⟩ = some (.int .i64 l.f0) ∧ w2.cell? ⟨Bl, 1, none⟩ = some (.int .i64 l.f1) ∧ w2.cell? ⟨Bl, 2, none⟩ = some (.int .i64 l.f2) ∧ w2.cell? ⟨Bs, 0, none⟩ = some (.slice (some ad) set.length c) ∧ w2.cell? (ad.add (k * 3)) = some (.int .i64 s.f0) ∧ w2.cell? ⟨(ad.add (k * 3)).block, (ad.add (k * 3)).off + 1, none⟩ = some (.int .i64 s.f1) ∧ w2.cell? ⟨(ad.add (k * 3)).block, (ad.add (k * 3)).off + 2, none⟩ = some (.int .i64 s.f2) ∧ Below w'.heap.size w' w2)
              (first | exact ⟨by simpa using c0, by simpa using c1, by simpa using c2, by simpa using cs, by simpa using d0, by simpa using d1, by simpa using d2, (Below.refl _ _).drew⟩ | (go_split_ands; (refine ⟨?_, ?_, ?_, ?_, ?_, ?_, ?_, ?_⟩ <;> assumption)) | (go_split_ands; exact ⟨pw_cell_below hb (by assumption), pw_cell_below hb (by assumption), pw_cell_below hb (by assumption), pw_cell_below hb (by assumption), pw_cell_below hb (by assumption), pw_cell_below hb (by assumption), pw_cell_below hb (by assumption), below_step (by assumption) hb⟩))
              (first | (go_at_call 78; refine (lots_end.calls _ _ _ _ _ rfl).mono ?_; rintro e w3 ⟨rfl, hb⟩))
            all_goals
              obtain ⟨y0, y1, y2, ys, yd0, yd1, yd2, yB⟩ : w3.cell? ⟨Bl, 0, none⟩ = some (.int .i64 l.f0) ∧ w3.cell? ⟨Bl, 1, none⟩ = some (.int .i64 l.f1) ∧ w3.cell? ⟨Bl, 2, none⟩ = some (.int .i64 l.f2) ∧ w3.cell? ⟨Bs, 0, none⟩ = some (.slice (some ad) set.length c) ∧ w3.cell? (ad.add (k * 3)) = some (.int .i64 s.f0) ∧ w3.cell? ⟨(ad.add (k * 3)).block, (ad.add (k * 3)).off + 1, none⟩ = some (.int .i64 s.f1) ∧ w3.cell? ⟨(ad.add (k * 3)).block, (ad.add (k * 3)).off + 2, none⟩ = some (.int .i64 s.f2) ∧ Below w'.heap.size w' w3 := by assumption
              have HG3 := Aside0.mk (HG2.out.below yB)
              have HJ3 := Aside0.mk (hJ _ _ _ HJ2.out yB)
              clear HG2 HJ2 yB
              have HN1 : pre.length < N := by
                have h := congrArg List.length HP.out
                have h2 := HNN.out
                rw [HD.out, piecesGo_yes l s _ at_ HF.out HS.out, if_neg (by have := HFR.out; omega)] at h
                simp only [List.length_append, List.length_cons, List.length_nil] at h
                omega
              obtain ⟨fn2, tmps2, assign2, body2, hy2, hR2⟩ := hY (pre) (⟨l.f0, mx at_ s.f1, wrap64 (mn (wrap64 (l.f1 + l.f2)) (wrap64 (s.f1 + s.f2)) - mx at_ s.f1)⟩, true) w3 HJ3.out HN1
              gi_wp2_with fail
              refine ⟨fun _ h => (by cases h), ?_⟩
              gi_wp2_with fail
              refine hR2.mono ?_
              rintro e W5 (⟨rfl, hJ5, hk5⟩ | ⟨rfl, hJx5⟩)
              · have HG5 := Aside0.mk (hKG _ _ hk5 HG3.out)
                have HJ5 := Aside0.mk hJ5
                clear hJ5 hk5
                gi_wp2
                go_roundw
                case rel => exact ⟨_, k + 1, _, rfl, by go_num, ⟨by rw [← HP.out, HD.out, piecesGo_yes l s _ at_ HF.out HS.out, if_neg (by have := HFR.out; omega)]; simp [endL]⟩, HG5, HJ5⟩
                case measure => simp [intOf]; omega
              · gi_wp2
                refine bodyPost_ret (results_none rfl _ _ _) rfl ?_
                exact ⟨⟨_, rfl⟩, .inr ⟨_, trivial, hJx5⟩⟩
        · have e3 : decide (s.f1 < endL l) = false := decide_eq_false hs
          have HS := Aside0.mk hs
          clear hs
          gi_wp2_with fail
          refine wpIn_wide.2 ?_
          go_region_held3 (fun w' => w'.cell? ⟨Bl, 0, none⟩ = some (.int .i64 l.f0) ∧ w'.cell? ⟨Bl, 1, none⟩ = some (.int .i64 l.f1) ∧ w'.cell? ⟨Bl, 2, none⟩ = some (.int .i64 l.f2) ∧ w'.cell? ⟨Bs, 0, none⟩ = some (.slice (some ad) set.length c) ∧ w'.cell? (ad.add (k * 3)) = some (.int .i64 s.f0) ∧ w'.cell? ⟨(ad.add (k * 3)).block, (ad.add (k * 3)).off + 1, none⟩ = some (.int .i64 s.f1) ∧ w'.cell? ⟨(ad.add (k * 3)).block, (ad.add (k * 3)).off + 2, none⟩ = some (.int .i64 s.f2) ∧ Below wr.heap.size wr w')
            (first | exact ⟨by simpa using g0, by simpa using g1, by simpa using g2, by simpa using gs, by simpa using hx0, by simpa using hx1, by simpa using hx2, (Below.refl _ _).drew⟩ | (go_split_ands; exact ⟨pw_cell_below hb (by assumption), pw_cell_below hb (by assumption), pw_cell_below hb (by assumption), pw_cell_below hb (by assumption), pw_cell_below hb (by assumption), pw_cell_below hb (by assumption), pw_cell_below hb (by assumption), below_step (by assumption) hb⟩))
            (first | (go_at_call 78; refine (end_calls l _).mono ?_; rintro e w' ⟨rfl, hb⟩))
          obtain ⟨c0, c1, c2, cs, d0, d1, d2, hB2⟩ : w'.cell? ⟨Bl, 0, none⟩ = some (.int .i64 l.f0) ∧ w'.cell? ⟨Bl, 1, none⟩ = some (.int .i64 l.f1) ∧ w'.cell? ⟨Bl, 2, none⟩ = some (.int .i64 l.f2) ∧ w'.cell? ⟨Bs, 0, none⟩ = some (.slice (some ad) set.length c) ∧ w'.cell? (ad.add (k * 3)) = some (.int .i64 s.f0) ∧ w'.cell? ⟨(ad.add (k * 3)).block, (ad.add (k * 3)).off + 1, none⟩ = some (.int .i64 s.f1) ∧ w'.cell? ⟨(ad.add (k * 3)).block, (ad.add (k * 3)).off + 2, none⟩ = some (.int .i64 s.f2) ∧ Below wr.heap.size wr w' := by assumption
          have HG2 := Aside0.mk (HG.out.below hB2)
          have HJ2 := Aside0.mk (hJ _ _ _ HJ.out hB2)
          clear HG HJ hB2
          obtain ⟨q0, q1, q2⟩ : w'.cell? ⟨Bl, 0, none⟩ = some (.int .i64 l.f0) ∧ w'.cell? ⟨Bl, 1, none⟩ = some (.int .i64 l.f1) ∧ w'.cell? ⟨Bl, 2, none⟩ = some (.int .i64 l.f2) := ⟨HG2.out.l0, HG2.out.l1, HG2.out.l2⟩
          have HT : Aside0 (pre ++ tailL l at_ = piecesGo l (set.drop (k0 : Int).toNat) l.f1) := ⟨by rw [← HP.out, HD.out, piecesGo_no l s _ at_ (fun h => by have := HS.out; have := h.2; omega)]⟩
          by_cases ht : at_ < endL l
          · have e5 : decide (at_ < wrap64 (l.f1 + l.f2)) = true := decide_eq_true ht
            have HTT := Aside0.mk ht
            clear ht
            gi_wp2_with (refine ⟨trivial, ?_⟩; gi_at_call 78; refine (callsIn_wide.2 (lots_end.calls _ _ _ _ _ rfl)).mono ?_; rintro e w6 ⟨rfl, hb6⟩; have x0 := pw_cell_below hb6 q0; have x1 := pw_cell_below hb6 q1; have x2 := pw_cell_below hb6 q2; have HJ6 := Aside0.mk (hJ _ _ _ HJ2.out hb6); clear hb6)
            have x0d : w6.drew.cell? ⟨Bl, 0, none⟩ = some (.int .i64 l.f0) := x0
            have HN4 : pre.length < N := by
              have h := congrArg List.length HT.out
              have h2 := HNN.out
              rw [tailL, if_pos HTT.out] at h
              simp only [List.length_append, List.length_cons, List.length_nil] at h
              omega
            have HJd := Aside0.mk (hJ _ _ _ HJ6.out (Below.refl w6.heap.size w6).drew)
            gi_region_with (first | (refine ⟨trivial, ?_⟩; gi_at_call 78; refine (callsIn_wide.2 (lots_end.calls _ _ _ _ _ rfl)).mono ?_; rintro e w7 ⟨rfl, hb7⟩; have x0 := pw_cell_below hb7 x0d; obtain ⟨fn, tmps, assign, body, hy, hR⟩ := hY pre (⟨l.f0, at_, IntKind.i64.wrap (wrap64 (l.f1 + l.f2) - at_)⟩, false) w7 (hJ _ _ _ HJd.out hb7) HN4) | (refine (yield_one hR).mono ?_; rintro e w8 ⟨b, rfl, hd⟩))
            all_goals
              go_end0
              rcases hd with ⟨hj, _⟩ | hjx
              · exact ⟨⟨_, rfl⟩, .inl ⟨_, by rw [← HT.out, tailL, if_pos HTT.out, i64_w]; rfl, hj⟩⟩
              · exact ⟨⟨_, rfl⟩, .inr ⟨_, trivial, hjx⟩⟩
          · have e5 : decide (at_ < wrap64 (l.f1 + l.f2)) = false := decide_eq_false ht
            have HTT := Aside0.mk ht
            clear ht
            gi_wp2_with (refine ⟨trivial, ?_⟩; gi_at_call 78; refine (callsIn_wide.2 (lots_end.calls _ _ _ _ _ rfl)).mono ?_; rintro e w6 ⟨rfl, hb6⟩; have HJ6 := Aside0.mk (hJ _ _ _ HJ2.out hb6); clear hb6)
            go_end0
            exact ⟨⟨_, rfl⟩, .inl ⟨_, by rw [← HT.out, tailL, if_neg (show ¬ at_ < endL l from by have := HTT.out; unfold endL at this ⊢; omega), List.append_nil], HJ6.out⟩⟩
      · have e2 : (s.f0 == l.f0) = false := beq_eq_false_iff_ne.2 hf
        have HF := Aside0.mk hf
        clear hf
        gi_wp2_with fail
        refine wpIn_wide.2 ?_
        go_quiet (fail)
        have HG2 := Aside0.mk (HG.out.below (Drawn0.below ⟨⟨nq, rfl⟩⟩ : Below wr.heap.size wr (wr.drewN nq)))
        have HJ2 := Aside0.mk (hJ _ _ _ HJ.out (Drawn0.below ⟨⟨nq, rfl⟩⟩ : Below wr.heap.size wr (wr.drewN nq)))
        clear HG HJ
        obtain ⟨q0, q1, q2⟩ : (wr.drewN nq).cell? ⟨Bl, 0, none⟩ = some (.int .i64 l.f0) ∧ (wr.drewN nq).cell? ⟨Bl, 1, none⟩ = some (.int .i64 l.f1) ∧ (wr.drewN nq).cell? ⟨Bl, 2, none⟩ = some (.int .i64 l.f2) := ⟨HG2.out.l0, HG2.out.l1, HG2.out.l2⟩
        have HT : Aside0 (pre ++ tailL l at_ = piecesGo l (set.drop (k0 : Int).toNat) l.f1) := ⟨by rw [← HP.out, HD.out, piecesGo_no l s _ at_ (fun h => HF.out h.1)]⟩
        by_cases ht : at_ < endL l
        · have e5 : decide (at_ < wrap64 (l.f1 + l.f2)) = true := decide_eq_true ht
          have HTT := Aside0.mk ht
          clear ht
          gi_wp2_with (refine ⟨trivial, ?_⟩; gi_at_call 78; refine (callsIn_wide.2 (lots_end.calls _ _ _ _ _ rfl)).mono ?_; rintro e w6 ⟨rfl, hb6⟩; have x0 := pw_cell_below hb6 q0; have x1 := pw_cell_below hb6 q1; have x2 := pw_cell_below hb6 q2; have HJ6 := Aside0.mk (hJ _ _ _ HJ2.out hb6); clear hb6)
          have x0d : w6.drew.cell? ⟨Bl, 0, none⟩ = some (.int .i64 l.f0) := x0
          have HN4 : pre.length < N := by
            have h := congrArg List.length HT.out
            have h2 := HNN.out
            rw [tailL, if_pos HTT.out] at h
            simp only [List.length_append, List.length_cons, List.length_nil] at h
            omega
          have HJd := Aside0.mk (hJ _ _ _ HJ6.out (Below.refl w6.heap.size w6).drew)
          gi_region_with (first | (refine ⟨trivial, ?_⟩; gi_at_call 78; refine (callsIn_wide.2 (lots_end.calls _ _ _ _ _ rfl)).mono ?_; rintro e w7 ⟨rfl, hb7⟩; have x0 := pw_cell_below hb7 x0d; obtain ⟨fn, tmps, assign, body, hy, hR⟩ := hY pre (⟨l.f0, at_, IntKind.i64.wrap (wrap64 (l.f1 + l.f2) - at_)⟩, false) w7 (hJ _ _ _ HJd.out hb7) HN4) | (refine (yield_one hR).mono ?_; rintro e w8 ⟨b, rfl, hd⟩))
          all_goals
            go_end0
            rcases hd with ⟨hj, _⟩ | hjx
            · exact ⟨⟨_, rfl⟩, .inl ⟨_, by rw [← HT.out, tailL, if_pos HTT.out, i64_w]; rfl, hj⟩⟩
            · exact ⟨⟨_, rfl⟩, .inr ⟨_, trivial, hjx⟩⟩
        · have e5 : decide (at_ < wrap64 (l.f1 + l.f2)) = false := decide_eq_false ht
          have HTT := Aside0.mk ht
          clear ht
          gi_wp2_with (refine ⟨trivial, ?_⟩; gi_at_call 78; refine (callsIn_wide.2 (lots_end.calls _ _ _ _ _ rfl)).mono ?_; rintro e w6 ⟨rfl, hb6⟩; have HJ6 := Aside0.mk (hJ _ _ _ HJ2.out hb6); clear hb6)
          go_end0
          exact ⟨⟨_, rfl⟩, .inl ⟨_, by rw [← HT.out, tailL, if_neg (show ¬ at_ < endL l from by have := HTT.out; unfold endL at this ⊢; omega), List.append_nil], HJ6.out⟩⟩
    · have e1 : decide ((k : Int) < (set.length : Int)) = false := decide_eq_false (by omega)
      gi_wp2_with fail
      refine wpIn_wide.2 ?_
      go_quiet (fail)
      have HG2 := Aside0.mk (HG.out.below (Drawn0.below ⟨⟨nq, rfl⟩⟩ : Below wr.heap.size wr (wr.drewN nq)))
      have HJ2 := Aside0.mk (hJ _ _ _ HJ.out (Drawn0.below ⟨⟨nq, rfl⟩⟩ : Below wr.heap.size wr (wr.drewN nq)))
      clear HG HJ
      obtain ⟨q0, q1, q2⟩ : (wr.drewN nq).cell? ⟨Bl, 0, none⟩ = some (.int .i64 l.f0) ∧ (wr.drewN nq).cell? ⟨Bl, 1, none⟩ = some (.int .i64 l.f1) ∧ (wr.drewN nq).cell? ⟨Bl, 2, none⟩ = some (.int .i64 l.f2) := ⟨HG2.out.l0, HG2.out.l1, HG2.out.l2⟩
      have HT : Aside0 (pre ++ tailL l at_ = piecesGo l (set.drop (k0 : Int).toNat) l.f1) := ⟨by rw [← HP.out, List.drop_of_length_le (by omega), piecesGo_nil]⟩
      by_cases ht : at_ < endL l
      · have e5 : decide (at_ < wrap64 (l.f1 + l.f2)) = true := decide_eq_true ht
        have HTT := Aside0.mk ht
        clear ht
        gi_wp2_with (refine ⟨trivial, ?_⟩; gi_at_call 78; refine (callsIn_wide.2 (lots_end.calls _ _ _ _ _ rfl)).mono ?_; rintro e w6 ⟨rfl, hb6⟩; have x0 := pw_cell_below hb6 q0; have x1 := pw_cell_below hb6 q1; have x2 := pw_cell_below hb6 q2; have HJ6 := Aside0.mk (hJ _ _ _ HJ2.out hb6); clear hb6)
        have x0d : w6.drew.cell? ⟨Bl, 0, none⟩ = some (.int .i64 l.f0) := x0
        have HN4 : pre.length < N := by
          have h := congrArg List.length HT.out
          have h2 := HNN.out
          rw [tailL, if_pos HTT.out] at h
          simp only [List.length_append, List.length_cons, List.length_nil] at h
          omega
        have HJd := Aside0.mk (hJ _ _ _ HJ6.out (Below.refl w6.heap.size w6).drew)
        gi_region_with (first | (refine ⟨trivial, ?_⟩; gi_at_call 78; refine (callsIn_wide.2 (lots_end.calls _ _ _ _ _ rfl)).mono ?_; rintro e w7 ⟨rfl, hb7⟩; have x0 := pw_cell_below hb7 x0d; obtain ⟨fn, tmps, assign, body, hy, hR⟩ := hY pre (⟨l.f0, at_, IntKind.i64.wrap (wrap64 (l.f1 + l.f2) - at_)⟩, false) w7 (hJ _ _ _ HJd.out hb7) HN4) | (refine (yield_one hR).mono ?_; rintro e w8 ⟨b, rfl, hd⟩))
        all_goals
          go_end0
          rcases hd with ⟨hj, _⟩ | hjx
          · exact ⟨⟨_, rfl⟩, .inl ⟨_, by rw [← HT.out, tailL, if_pos HTT.out, i64_w]; rfl, hj⟩⟩
          · exact ⟨⟨_, rfl⟩, .inr ⟨_, trivial, hjx⟩⟩
      · have e5 : decide (at_ < wrap64 (l.f1 + l.f2)) = false := decide_eq_false ht
        have HTT := Aside0.mk ht
        clear ht
        gi_wp2_with (refine ⟨trivial, ?_⟩; gi_at_call 78; refine (callsIn_wide.2 (lots_end.calls _ _ _ _ _ rfl)).mono ?_; rintro e w6 ⟨rfl, hb6⟩; have HJ6 := Aside0.mk (hJ _ _ _ HJ2.out hb6); clear hb6)
        go_end0
        exact ⟨⟨_, rfl⟩, .inl ⟨_, by rw [← HT.out, tailL, if_neg (show ¬ at_ < endL l from by have := HTT.out; unfold endL at this ⊢; omega), List.append_nil], HJ6.out⟩⟩
end Go.Proofs.Ytcicjbgfahdejaa.P
