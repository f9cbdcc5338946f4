/- This session's own: the region of share.Split that makes three rows and a variable, in whatever order. -/
import Derived.Test.YtcicjbgfahdejaaPx2
namespace Go.Proofs.Ytcicjbgfahdejaa.P
open Go.RowKit Go.Proofs.YtcicjbgfahdejaaW.PrintWords Go.Proofs.YtcicjbgfahdejaaW.PrintLast Go.Proofs.YtcicjbgfahdejaaW.PrintMore
set_option linter.unusedSimpArgs false
set_option linter.unusedVariables false
theorem Split12.info3 : (Try.prog.info? 3).map (fun i => (i.zero, i.size, i.bytes)) = some (some (.int .i64 0), 1, 8) := by kernel_rfl
def Split12.T : Bool × List (List Nat × List Nat) := (true, [([], []), ([0, 0], [0]), ([], []), ([2, 2], [2]), ([], []), ([4, 4], [4]), ([], []), ([1, 0, 1, 6], [1]), ([6, 3, 7, 0, 1, 2, 3, 6, 7], [3, 6]), ([5, 8, 0, 1, 2, 3, 4, 5, 6, 7, 8], [5])])
def Split12.B : List Nat := [0, 1, 0, 4, 0, 16, 0, 67, 207, 511]
theorem Split12.tab : rtab .any (opsOf Try.f75 12) = Split12.T := by kernel_rfl
theorem Split12.bits : waitsOk Split12.T.2 Split12.B = true := by kernel_rfl
abbrev Split12.L (s1 s2 s3 s7 s9 : Value) (gb : Nat) : List (Nat × Tmp × Value) := [(1, 47, s1), (3, 49, s2), (5, 51, s3), (6, 11, .pointer (some ⟨gb, 0, none⟩)), (7, 10, s7), (9, 12, s9)]
def Split12.I (w : World) (n : Nat) (a0 : Act) (b : Nat → Bool) (a : Act) (w' : World) : Prop :=
  ∃ s1 s2 s3 s7 s9 gb, a = putSel a0 b (Split12.L s1 s2 s3 s7 s9 gb) ∧ Below w.heap.size w w' ∧
    (b 1 = true → Kd.R (Kd.int .i64) 3 w' w.heap.size (fun k => (b 3 = true → some k ≠ s2.ownBlock) ∧ (b 5 = true → some k ≠ s3.ownBlock)) s1 (List.replicate n 0)) ∧
    (b 3 = true → Kd.R (Kd.int .i64) 3 w' w.heap.size (fun k => (b 1 = true → some k ≠ s1.ownBlock) ∧ (b 5 = true → some k ≠ s3.ownBlock)) s2 (List.replicate n 0)) ∧
    (b 5 = true → Kd.R (Kd.int .i64) 3 w' w.heap.size (fun k => (b 1 = true → some k ≠ s1.ownBlock) ∧ (b 3 = true → some k ≠ s2.ownBlock)) s3 (List.replicate n 0)) ∧
    (b 6 = true → w'.heap[gb]? = some (.cells #[if b 8 = true then s2 else .slice none 0 0] 23 (0, 0)) ∧ w.heap.size ≤ gb) ∧
    (b 7 = true → s7 = s1) ∧ (b 9 = true → s9 = s3)
theorem Split12.old {w' w1 : World} {N : Nat} {ok : Nat → Prop} {s v1 : Value} {xs : List Int} (h : Kd.R (Kd.int .i64) 3 w' N ok s xs) (hg : w'.grownBy w1 none) (hnew : ∃ b, v1.ownBlock = some b ∧ w'.heap.size ≤ b) :
    Kd.R (Kd.int .i64) 3 w1 N (fun k => ok k ∧ some k ≠ v1.ownBlock) s xs :=
  Kd.R_mono (Kd.R_move (Kd.R_bound h) (fun k hk => hg.block k hk.2.2.1 (by simp))) (fun k hk => ⟨hk.1, fun e => by
    obtain ⟨q, hq, hle⟩ := hnew
    rw [hq] at e
    have := Option.some.inj e
    have := hk.2.2.1
    omega⟩)
theorem Split12.new {w' : World} {N : Nat} {ok : Nat → Prop} {s : Value} {xs : List Int} (h : Kd.R (Kd.int .i64) 3 w' N ok s xs) {k : Nat} (hk : w'.heap.size ≤ k) : some k ≠ s.ownBlock := fun e => by
  have := ((Kd.R_bound h).1 k e.symm).2.2.1
  omega
theorem Split12.mono {w' : World} {N : Nat} {ok ok' : Nat → Prop} {s : Value} {xs : List Int} (h : Kd.R (Kd.int .i64) 3 w' N ok s xs) (hok : ∀ k, ok k → ok' k) : Kd.R (Kd.int .i64) 3 w' N ok' s xs := Kd.R_mono h hok
theorem Split12.alloc {w' : World} {N : Nat} {ok : Nat → Prop} {s : Value} {xs : List Int} (h : Kd.R (Kd.int .i64) 3 w' N ok s xs) (o : Obj) : Kd.R (Kd.int .i64) 3 (w'.alloc o) N ok s xs := Kd.R_alloc h _
theorem Split12.far {w' : World} {N gb : Nat} {cs : Array Value} {ok : Nat → Prop} {s : Value} {xs : List Int} (h : Kd.R (Kd.int .i64) 3 w' N ok s xs) (hh : w'.heap[gb]? = some (.cells cs 23 (0, 0))) (u : Value) :
    Kd.R (Kd.int .i64) 3 (w'.setCell ⟨gb, 0, none⟩ u) N ok s xs :=
  Kd.R_mono (Kd.R_far (p := ⟨gb, 0, none⟩) (Kd.R_bound h) (fun k hk e => by
    obtain ⟨_, _, _, q, hq, cells, hc⟩ := hk
    simp only at e
    subst e
    rw [hh] at hc
    have h23 : (23 : Nat) = q := by
      have := Option.some.inj hc
      injection this
    subst h23
    rcases List.mem_cons.1 hq with h3 | h3
    · exact absurd h3 (by decide)
    · have h4 : (23 : Nat) ∈ ([] : List Nat) := h3
      exact absurd h4 (by simp)) u) (fun k hk => hk.1)
set_option maxHeartbeats 4000000 in
set_option maxRecDepth 100000 in
theorem Split12.step1 (w : World) (n : Nat) (hn : n ≤ 35184372088832) (Q) (a0 : Act) (hsz : a0.tmps.size = 103) (h46 : a0.tmps[46]? = some (.int .i64 n)) (h48 : a0.tmps[48]? = some (.int .i64 n)) (h50 : a0.tmps[50]? = some (.int .i64 n)) : StepAt Try.prog (opsOf Try.f75 12) Q Split12.B [1, 3, 5, 6, 7, 8, 9] (Split12.I w n a0) 1 := by
  rintro b a w' ⟨s1, s2, s3, s7, s9, gb, rfl, hB, h1, h3, h5, h6, h7, h9⟩ hbi hneed hlater
  have b7 : b 7 = false := hlater 7 rfl
  refine ⟨_, rfl, fun K hK => ?_⟩
  refine Kd.R_make_step (Kd.int .i64) w.heap.size 3 (by rfl) (N := 47) rfl 23 _ _ rfl (n : Int) (eval_of ((putSel_off (by rfl)).trans h46)) (eval_of ((putSel_off (by rfl)).trans h46)) Try.underlying23 (.int .i64 0) 8 Split12.info3 rfl (by decide) (by omega) 0 (ok := fun k => w'.heap.size ≤ k) (okp := fun _ => False) rfl (fun _ hk => hk.elim) (Nat.le_refl _) (by omega) (by simp only [Int.toNat_natCast]; omega) hB hB.size ?_
  intro v1 w1 hR hB1 hg hnew
  simp only [Int.toNat_natCast] at hR
  refine hK.out _ _ ⟨v1, s2, s3, s7, s9, gb, putSel_upk 0 hbi rfl rfl rfl, hB1, ?_, ?_, ?_, ?_, ?_, ?_⟩
  · intro _
    exact Split12.mono hR (fun k hk => ⟨fun e => Split12.new (h3 (by rw [up_ne (by decide)] at e; exact e)) hk, fun e => Split12.new (h5 (by rw [up_ne (by decide)] at e; exact e)) hk⟩)
  · intro hb
    rw [up_ne (by decide)] at hb
    exact Split12.mono (Split12.old (h3 hb) hg hnew) (fun k hk => ⟨fun _ => hk.2, fun e => hk.1.2 (by rw [up_ne (by decide)] at e; exact e)⟩)
  · intro hb
    rw [up_ne (by decide)] at hb
    exact Split12.mono (Split12.old (h5 hb) hg hnew) (fun k hk => ⟨fun _ => hk.2, fun e => hk.1.2 (by rw [up_ne (by decide)] at e; exact e)⟩)
  · intro hb
    rw [up_ne (by decide)] at hb
    obtain ⟨hh, hle⟩ := h6 hb
    rw [up_ne (by decide)]
    exact ⟨(hg.block gb (blk_lt hh) (by simp)).trans hh, hle⟩
  · intro h; rw [up_ne (by decide), b7] at h; cases h
  · intro h; rw [up_ne (by decide)] at h; exact h9 h
set_option maxHeartbeats 4000000 in
set_option maxRecDepth 100000 in
theorem Split12.step3 (w : World) (n : Nat) (hn : n ≤ 35184372088832) (Q) (a0 : Act) (hsz : a0.tmps.size = 103) (h46 : a0.tmps[46]? = some (.int .i64 n)) (h48 : a0.tmps[48]? = some (.int .i64 n)) (h50 : a0.tmps[50]? = some (.int .i64 n)) : StepAt Try.prog (opsOf Try.f75 12) Q Split12.B [1, 3, 5, 6, 7, 8, 9] (Split12.I w n a0) 3 := by
  rintro b a w' ⟨s1, s2, s3, s7, s9, gb, rfl, hB, h1, h3, h5, h6, h7, h9⟩ hbi hneed hlater
  have b8 : b 8 = false := hlater 8 rfl
  refine ⟨_, rfl, fun K hK => ?_⟩
  refine Kd.R_make_step (Kd.int .i64) w.heap.size 3 (by rfl) (N := 49) rfl 23 _ _ rfl (n : Int) (eval_of ((putSel_off (by rfl)).trans h48)) (eval_of ((putSel_off (by rfl)).trans h48)) Try.underlying23 (.int .i64 0) 8 Split12.info3 rfl (by decide) (by omega) 0 (ok := fun k => w'.heap.size ≤ k) (okp := fun _ => False) rfl (fun _ hk => hk.elim) (Nat.le_refl _) (by omega) (by simp only [Int.toNat_natCast]; omega) hB hB.size ?_
  intro v1 w1 hR hB1 hg hnew
  simp only [Int.toNat_natCast] at hR
  refine hK.out _ _ ⟨s1, v1, s3, s7, s9, gb, putSel_upk 1 hbi rfl rfl rfl, hB1, ?_, ?_, ?_, ?_, ?_, ?_⟩
  · intro hb
    rw [up_ne (by decide)] at hb
    exact Split12.mono (Split12.old (h1 hb) hg hnew) (fun k hk => ⟨fun _ => hk.2, fun e => hk.1.2 (by rw [up_ne (by decide)] at e; exact e)⟩)
  · intro _
    exact Split12.mono hR (fun k hk => ⟨fun e => Split12.new (h1 (by rw [up_ne (by decide)] at e; exact e)) hk, fun e => Split12.new (h5 (by rw [up_ne (by decide)] at e; exact e)) hk⟩)
  · intro hb
    rw [up_ne (by decide)] at hb
    exact Split12.mono (Split12.old (h5 hb) hg hnew) (fun k hk => ⟨fun e => hk.1.1 (by rw [up_ne (by decide)] at e; exact e), fun _ => hk.2⟩)
  · intro hb
    rw [up_ne (by decide)] at hb
    obtain ⟨hh, hle⟩ := h6 hb
    rw [b8] at hh
    rw [up_ne (by decide), b8]
    exact ⟨(hg.block gb (blk_lt hh) (by simp)).trans hh, hle⟩
  · intro h; rw [up_ne (by decide)] at h; exact h7 h
  · intro h; rw [up_ne (by decide)] at h; exact h9 h
set_option maxHeartbeats 4000000 in
set_option maxRecDepth 100000 in
theorem Split12.step5 (w : World) (n : Nat) (hn : n ≤ 35184372088832) (Q) (a0 : Act) (hsz : a0.tmps.size = 103) (h46 : a0.tmps[46]? = some (.int .i64 n)) (h48 : a0.tmps[48]? = some (.int .i64 n)) (h50 : a0.tmps[50]? = some (.int .i64 n)) : StepAt Try.prog (opsOf Try.f75 12) Q Split12.B [1, 3, 5, 6, 7, 8, 9] (Split12.I w n a0) 5 := by
  rintro b a w' ⟨s1, s2, s3, s7, s9, gb, rfl, hB, h1, h3, h5, h6, h7, h9⟩ hbi hneed hlater
  have b9 : b 9 = false := hlater 9 rfl
  refine ⟨_, rfl, fun K hK => ?_⟩
  refine Kd.R_make_step (Kd.int .i64) w.heap.size 3 (by rfl) (N := 51) rfl 23 _ _ rfl (n : Int) (eval_of ((putSel_off (by rfl)).trans h50)) (eval_of ((putSel_off (by rfl)).trans h50)) Try.underlying23 (.int .i64 0) 8 Split12.info3 rfl (by decide) (by omega) 0 (ok := fun k => w'.heap.size ≤ k) (okp := fun _ => False) rfl (fun _ hk => hk.elim) (Nat.le_refl _) (by omega) (by simp only [Int.toNat_natCast]; omega) hB hB.size ?_
  intro v1 w1 hR hB1 hg hnew
  simp only [Int.toNat_natCast] at hR
  refine hK.out _ _ ⟨s1, s2, v1, s7, s9, gb, putSel_upk 2 hbi rfl rfl rfl, hB1, ?_, ?_, ?_, ?_, ?_, ?_⟩
  · intro hb
    rw [up_ne (by decide)] at hb
    exact Split12.mono (Split12.old (h1 hb) hg hnew) (fun k hk => ⟨fun e => hk.1.1 (by rw [up_ne (by decide)] at e; exact e), fun _ => hk.2⟩)
  · intro hb
    rw [up_ne (by decide)] at hb
    exact Split12.mono (Split12.old (h3 hb) hg hnew) (fun k hk => ⟨fun e => hk.1.1 (by rw [up_ne (by decide)] at e; exact e), fun _ => hk.2⟩)
  · intro _
    exact Split12.mono hR (fun k hk => ⟨fun e => Split12.new (h1 (by rw [up_ne (by decide)] at e; exact e)) hk, fun e => Split12.new (h3 (by rw [up_ne (by decide)] at e; exact e)) hk⟩)
  · intro hb
    rw [up_ne (by decide)] at hb
    obtain ⟨hh, hle⟩ := h6 hb
    rw [up_ne (by decide)]
    exact ⟨(hg.block gb (blk_lt hh) (by simp)).trans hh, hle⟩
  · intro h; rw [up_ne (by decide)] at h; exact h7 h
  · intro h; rw [up_ne (by decide), b9] at h; cases h
set_option maxHeartbeats 4000000 in
set_option maxRecDepth 100000 in
theorem Split12.step6 (w : World) (n : Nat) (hn : n ≤ 35184372088832) (Q) (a0 : Act) (hsz : a0.tmps.size = 103) (h46 : a0.tmps[46]? = some (.int .i64 n)) (h48 : a0.tmps[48]? = some (.int .i64 n)) (h50 : a0.tmps[50]? = some (.int .i64 n)) : StepAt Try.prog (opsOf Try.f75 12) Q Split12.B [1, 3, 5, 6, 7, 8, 9] (Split12.I w n a0) 6 := by
  rintro b a w' ⟨s1, s2, s3, s7, s9, gb, rfl, hB, h1, h3, h5, h6, h7, h9⟩ hbi hneed hlater
  have b8 : b 8 = false := hlater 8 rfl
  refine ⟨{ dst := some 11, op := Op.alloc 23, type := 0, pos := "share.go:71", after := #[], guard := none }, rfl, fun K hK => ?_⟩
  rw [if_pos (by rfl)]
  unfold Oper.wp
  have hz := Try.zeroValue23 w'
  simp only [execOp]
  go_simp
  refine hK.out _ _ ⟨s1, s2, s3, s7, s9, w'.heap.size, putSel_upk 3 hbi rfl rfl rfl, below_alloc hB _, ?_, ?_, ?_, ?_, ?_, ?_⟩
  · intro hb; rw [up_ne (by decide)] at hb; exact Split12.alloc (h1 hb) _
  · intro hb; rw [up_ne (by decide)] at hb; exact Split12.alloc (h3 hb) _
  · intro hb; rw [up_ne (by decide)] at hb; exact Split12.alloc (h5 hb) _
  · intro _; rw [up_ne (by decide), b8]; exact ⟨heap_alloc_new w' _, hB.size⟩
  · intro h; rw [up_ne (by decide)] at h; exact h7 h
  · intro h; rw [up_ne (by decide)] at h; exact h9 h
set_option maxHeartbeats 4000000 in
set_option maxRecDepth 100000 in
theorem Split12.step7 (w : World) (n : Nat) (hn : n ≤ 35184372088832) (Q) (a0 : Act) (hsz : a0.tmps.size = 103) (h46 : a0.tmps[46]? = some (.int .i64 n)) (h48 : a0.tmps[48]? = some (.int .i64 n)) (h50 : a0.tmps[50]? = some (.int .i64 n)) : StepAt Try.prog (opsOf Try.f75 12) Q Split12.B [1, 3, 5, 6, 7, 8, 9] (Split12.I w n a0) 7 := by
  rintro b a w' ⟨s1, s2, s3, s7, s9, gb, rfl, hB, h1, h3, h5, h6, h7, h9⟩ hbi hneed hlater
  have bn : b 1 = true := hneed 1 rfl
  refine ⟨{ dst := some 10, op := Op.assign (Operand.tmp 47), type := 23, pos := "share.go:71", after := #[{ on := 1, ground := Ground.data }, { on := 0, ground := Ground.phase }, { on := 1, ground := Ground.phase }, { on := 2, ground := Ground.textOnly Departure.lateStores }, { on := 3, ground := Ground.textOnly Departure.lateStoresUnsure }, { on := 4, ground := Ground.textOnly Departure.lateStores }, { on := 5, ground := Ground.textOnly Departure.lateStoresUnsure }, { on := 6, ground := Ground.phase }], guard := none }, rfl, fun K hK => ?_⟩
  rw [if_pos (by rfl)]
  unfold Oper.wp
  have he : (putSel a0 b (Split12.L s1 s2 s3 s7 s9 gb)).eval (.tmp 47) = s1 := eval_of (putSel_on (e := (1, 47, s1)) (L := Split12.L s1 s2 s3 s7 s9 gb) (a := a0) 0 rfl (by rfl) bn (by show Nat.ble _ a0.tmps.size = true; rw [hsz]; rfl))
  simp only [execOp, he]
  go_simp
  refine hK.out _ _ ⟨s1, s2, s3, s1, s9, gb, putSel_upk 4 hbi rfl rfl rfl, hB, ?_, ?_, ?_, ?_, ?_, ?_⟩
  · intro hb; rw [up_ne (by decide)] at hb; exact h1 hb
  · intro hb; rw [up_ne (by decide)] at hb; exact h3 hb
  · intro hb; rw [up_ne (by decide)] at hb; exact h5 hb
  · intro hb; rw [up_ne (by decide)] at hb; exact h6 hb
  · intro _; rfl
  · intro h; rw [up_ne (by decide)] at h; exact h9 h
set_option maxHeartbeats 4000000 in
set_option maxRecDepth 100000 in
theorem Split12.step9 (w : World) (n : Nat) (hn : n ≤ 35184372088832) (Q) (a0 : Act) (hsz : a0.tmps.size = 103) (h46 : a0.tmps[46]? = some (.int .i64 n)) (h48 : a0.tmps[48]? = some (.int .i64 n)) (h50 : a0.tmps[50]? = some (.int .i64 n)) : StepAt Try.prog (opsOf Try.f75 12) Q Split12.B [1, 3, 5, 6, 7, 8, 9] (Split12.I w n a0) 9 := by
  rintro b a w' ⟨s1, s2, s3, s7, s9, gb, rfl, hB, h1, h3, h5, h6, h7, h9⟩ hbi hneed hlater
  have bn : b 5 = true := hneed 5 rfl
  refine ⟨{ dst := some 12, op := Op.assign (Operand.tmp 51), type := 23, pos := "share.go:71", after := #[{ on := 5, ground := Ground.data }, { on := 8, ground := Ground.chain }, { on := 0, ground := Ground.phase }, { on := 1, ground := Ground.phase }, { on := 2, ground := Ground.phase }, { on := 3, ground := Ground.phase }, { on := 4, ground := Ground.phase }, { on := 5, ground := Ground.phase }, { on := 6, ground := Ground.phase }, { on := 7, ground := Ground.phase }, { on := 8, ground := Ground.phase }], guard := none }, rfl, fun K hK => ?_⟩
  rw [if_pos (by rfl)]
  unfold Oper.wp
  have he : (putSel a0 b (Split12.L s1 s2 s3 s7 s9 gb)).eval (.tmp 51) = s3 := eval_of (putSel_on (e := (5, 51, s3)) (L := Split12.L s1 s2 s3 s7 s9 gb) (a := a0) 2 rfl (by rfl) bn (by show Nat.ble _ a0.tmps.size = true; rw [hsz]; rfl))
  simp only [execOp, he]
  go_simp
  refine hK.out _ _ ⟨s1, s2, s3, s7, s3, gb, putSel_upk 5 hbi rfl rfl rfl, hB, ?_, ?_, ?_, ?_, ?_, ?_⟩
  · intro hb; rw [up_ne (by decide)] at hb; exact h1 hb
  · intro hb; rw [up_ne (by decide)] at hb; exact h3 hb
  · intro hb; rw [up_ne (by decide)] at hb; exact h5 hb
  · intro hb; rw [up_ne (by decide)] at hb; exact h6 hb
  · intro h; rw [up_ne (by decide)] at h; exact h7 h
  · intro _; rfl
set_option maxHeartbeats 4000000 in
set_option maxRecDepth 100000 in
theorem Split12.step8 (w : World) (n : Nat) (hn : n ≤ 35184372088832) (Q) (a0 : Act) (hsz : a0.tmps.size = 103) (h46 : a0.tmps[46]? = some (.int .i64 n)) (h48 : a0.tmps[48]? = some (.int .i64 n)) (h50 : a0.tmps[50]? = some (.int .i64 n)) : StepAt Try.prog (opsOf Try.f75 12) Q Split12.B [1, 3, 5, 6, 7, 8, 9] (Split12.I w n a0) 8 := by
  rintro b a w' ⟨s1, s2, s3, s7, s9, gb, rfl, hB, h1, h3, h5, h6, h7, h9⟩ hbi hneed hlater
  have b3 : b 3 = true := hneed 3 rfl
  have b6 : b 6 = true := hneed 6 rfl
  obtain ⟨hh, hle⟩ := h6 b6
  rw [hbi] at hh
  refine ⟨{ dst := none, op := Op.store 23 (Operand.tmp 11) (Operand.tmp 49), type := 0, pos := "share.go:71", after := #[{ on := 6, ground := Ground.data }, { on := 3, ground := Ground.data }, { on := 7, ground := Ground.chain }, { on := 0, ground := Ground.phase }, { on := 1, ground := Ground.phase }, { on := 2, ground := Ground.phase }, { on := 3, ground := Ground.phase }, { on := 4, ground := Ground.textOnly Departure.lateStores }, { on := 5, ground := Ground.textOnly Departure.lateStoresUnsure }, { on := 6, ground := Ground.phase }, { on := 7, ground := Ground.phase }], guard := none }, rfl, fun K hK => ?_⟩
  rw [if_pos (by rfl)]
  unfold Oper.wp
  have he : (putSel a0 b (Split12.L s1 s2 s3 s7 s9 gb)).tmps[49]? = some s2 := (putSel_on (e := (3, 49, s2)) (L := Split12.L s1 s2 s3 s7 s9 gb) (a := a0) 1 rfl (by rfl) b3 (by show Nat.ble _ a0.tmps.size = true; rw [hsz]; rfl))
  have he2 : (putSel a0 b (Split12.L s1 s2 s3 s7 s9 gb)).tmps[11]? = some (.pointer (some ⟨gb, 0, none⟩)) := (putSel_on (e := (6, 11, .pointer (some ⟨gb, 0, none⟩))) (L := Split12.L s1 s2 s3 s7 s9 gb) (a := a0) 3 rfl (by rfl) b6 (by show Nat.ble _ a0.tmps.size = true; rw [hsz]; rfl))
  have hc := (blk_cell hh 0).trans rfl
  have hf := blk_frozen hh 0
  obtain ⟨A, c, hs⟩ := Kd.R_slice (h3 b3)
  simp only [List.length_replicate] at hs
  subst hs
  simp only [execOp, Act.eval, he, he2, Option.getD_some]
  go_simp
  refine hK.out _ _ ⟨s1, .slice A n c, s3, s7, s9, gb, (putSel_same (by rfl)).symm, below_set hB hle, ?_, ?_, ?_, ?_, ?_, ?_⟩
  · intro hb; rw [up_ne (by decide)] at hb; exact Split12.far (h1 hb) hh _
  · intro hb; rw [up_ne (by decide)] at hb; exact Split12.far (h3 hb) hh _
  · intro hb; rw [up_ne (by decide)] at hb; exact Split12.far (h5 hb) hh _
  · intro _; exact ⟨blk_put hh 0 _ rfl, hle⟩
  · intro h; rw [up_ne (by decide)] at h; exact h7 h
  · intro h; rw [up_ne (by decide)] at h; exact h9 h
/-- The region: three rows of n noughts, and a variable that holds the second. -/
theorem Split12.all (w w16 : World) (n : Nat) (hn : n ≤ 35184372088832) (Q : Exit → Act → World → Prop) (a0 : Act) (hsz : a0.tmps.size = 103) (h46 : a0.tmps[46]? = some (.int .i64 n)) (h48 : a0.tmps[48]? = some (.int .i64 n)) (h50 : a0.tmps[50]? = some (.int .i64 n))
    (hB : Below w.heap.size w w16)
    (h : ∀ s1 s2 s3 gb w', Below w.heap.size w w' → Kd.R (Kd.int .i64) 3 w' w.heap.size (fun k => some k ≠ s2.ownBlock ∧ some k ≠ s3.ownBlock) s1 (List.replicate n 0) → Kd.R (Kd.int .i64) 3 w' w.heap.size (fun k => some k ≠ s1.ownBlock ∧ some k ≠ s3.ownBlock) s2 (List.replicate n 0) →
      Kd.R (Kd.int .i64) 3 w' w.heap.size (fun k => some k ≠ s1.ownBlock ∧ some k ≠ s2.ownBlock) s3 (List.replicate n 0) → w'.heap[gb]? = some (.cells #[s2] 23 (0, 0)) → w.heap.size ≤ gb →
      Q .normal ((((((a0.put (some 47) s1).put (some 49) s2).put (some 51) s3).put (some 11) (.pointer (some ⟨gb, 0, none⟩))).put (some 10) s1).put (some 12) s3) w') :
    wpAnyLast Try.prog .any (opsOf Try.f75 12) Q (fun _ => True) [] 7 #[true, false, true, false, true, false, false, false, false, false] a0 w16 := by
  refine inv_ [1, 3, 5, 6, 7, 8, 9] (Split12.I w n a0) Split12.tab Split12.bits (by kernel_rfl) (by kernel_rfl) ?_ ?_ ?_
  · exact ⟨undef, undef, undef, undef, undef, 0, rfl, hB, (fun h => by cases h), (fun h => by cases h), (fun h => by cases h), (fun h => by cases h), (fun h => by cases h), (fun h => by cases h)⟩
  · exact steps_cons (Split12.step1 w n hn Q a0 hsz h46 h48 h50) (steps_cons (Split12.step3 w n hn Q a0 hsz h46 h48 h50) (steps_cons (Split12.step5 w n hn Q a0 hsz h46 h48 h50) (steps_cons (Split12.step6 w n hn Q a0 hsz h46 h48 h50) (steps_cons (Split12.step7 w n hn Q a0 hsz h46 h48 h50) (steps_cons (Split12.step8 w n hn Q a0 hsz h46 h48 h50) (steps_cons (Split12.step9 w n hn Q a0 hsz h46 h48 h50) steps_nil))))))
  · rintro b a w' hall ⟨s1, s2, s3, s7, s9, gb, rfl, hB', h1, h3, h5, h6, h7, h9⟩
    have b1 := hall 1 rfl
    have b3 := hall 3 rfl
    have b5 := hall 5 rfl
    have b6 := hall 6 rfl
    have b7 := hall 7 rfl
    have b8 := hall 8 rfl
    have b9 := hall 9 rfl
    obtain rfl := h7 b7
    obtain rfl := h9 b9
    have hh := h6 b6
    rw [if_pos b8] at hh
    have e : putSel a0 b (Split12.L s7 s2 s9 s7 s9 gb) = ((((((a0.put (some 47) s7).put (some 49) s2).put (some 51) s9).put (some 11) (.pointer (some ⟨gb, 0, none⟩))).put (some 10) s7).put (some 12) s9) := by
      simp only [Split12.L, putSel, b1, b3, b5, b6, b7, b9, if_true]
    rw [e]
    exact h _ _ _ _ _ hB' (Split12.mono (h1 b1) (fun k hk => ⟨hk.1 b3, hk.2 b5⟩)) (Split12.mono (h3 b3) (fun k hk => ⟨hk.1 b1, hk.2 b5⟩)) (Split12.mono (h5 b5) (fun k hk => ⟨hk.1 b1, hk.2 b3⟩)) hh.1 hh.2
end Go.Proofs.Ytcicjbgfahdejaa.P
