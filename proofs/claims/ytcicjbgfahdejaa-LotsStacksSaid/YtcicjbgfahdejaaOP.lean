/- This session's own: an argument that is a slice of lots, opened. -/
import Derived.Test.YtcicjbgfahdejaaPx0
import Derived.Deep.Slices
import Derived.Deep.Fields
import Derived.ChangeSame
import Derived.ChangeArms
namespace Go.Proofs.Ytcicjbgfahdejaa.P
open Go.ChangeShapes Go.WideShapes Go.Deep Go.RowKit Go.Proofs.YtcicjbgfahdejaaW.PrintWords Go.Proofs.YtcicjbgfahdejaaW.PrintLast
set_option linter.unusedSimpArgs false
set_option linter.unusedVariables false
theorem cells39 : Try.prog.cellsOf 39 = 3 := by kernel_rfl
theorem cells3 : Try.prog.cellsOf 3 = 1 := by kernel_rfl
theorem open_lots {H : Type} {enc : TypeId × Value → H} {w : World} {base : Nat} {sp : Nat → Bool} {held : Bool} {fuel : Nat} {cs : List Value} {x : DataW H × List MemPlace} (h : DataW.trod enc Try.prog w base sp held fuel 22 cs = some x) :
    cs = [.slice none 0 0] ∨ ∃ (a : Addr) (cap : Nat) (l : List S39), cs = [.slice (some a) l.length cap] ∧ l.length ≤ cap ∧ Kd.C k39 w (some a) l.length l := by
  rcases open_slice Try.underlying22 h with ⟨h0, _⟩ | ⟨a, len, cap, m, n, D, Pl, hcs, hb, hl, hm, hmm, hx, hi⟩
  · exact .inl h0
  · refine .inr ?_
    have each : ∀ i, i < len → ∃ p : S39, ∀ j u, [Value.int .i64 p.f0, .int .i64 p.f1, .int .i64 p.f2][j]? = some u → w.cell? (a.add (i * 3 + j)) = some u := by
      intro i hi'
      obtain ⟨cs', hc, ht'⟩ := hi i (by rw [hmm]; split <;> omega)
      rw [cells39] at hc
      obtain ⟨ys, n', hn', hy, hlen, hyl, hf⟩ := DataW.trod_struct Try.underlying39 ht'
      obtain ⟨_, hcl, hat⟩ := World.cells?_some hc
      have hyl3 : ys.length = 3 := hyl
      have q0 : DataW.trod enc Try.prog w base sp held n' 3 ((cs'.drop 0).take (Try.prog.cellsOf 3)) = ys[0]? := hf 0 _ rfl
      have q1 : DataW.trod enc Try.prog w base sp held n' 3 ((cs'.drop 1).take (Try.prog.cellsOf 3)) = ys[1]? := hf 1 _ rfl
      have q2 : DataW.trod enc Try.prog w base sp held n' 3 ((cs'.drop 2).take (Try.prog.cellsOf 3)) = ys[2]? := hf 2 _ rfl
      rw [cells3] at q0 q1 q2
      rw [List.getElem?_eq_getElem (by omega)] at q0 q1 q2
      obtain ⟨v0, e0, _, _⟩ := DataW.trod_int Try.underlying3 q0
      obtain ⟨v1, e1, _, _⟩ := DataW.trod_int Try.underlying3 q1
      obtain ⟨v2, e2, _, _⟩ := DataW.trod_int Try.underlying3 q2
      have g : ∀ j (v : Value), j < 3 → (cs'.drop j).take 1 = [v] → w.cell? (a.add (i * 3 + j)) = some v := by
        intro j v hj e
        have e1 : ((cs'.drop j).take 1)[0]? = some v := by rw [e]; rfl
        rw [List.getElem?_take_of_lt (by omega), List.getElem?_drop, Nat.add_zero] at e1
        rw [← Go.Deep.add_add, hat j hj, e1]
      refine ⟨⟨v0, v1, v2⟩, fun j u hu => ?_⟩
      rcases j with _ | _ | _ | j
      · obtain rfl := Option.some.inj hu; exact g 0 _ (by omega) e0
      · obtain rfl := Option.some.inj hu; exact g 1 _ (by omega) e1
      · obtain rfl := Option.some.inj hu; exact g 2 _ (by omega) e2
      · simp at hu
    refine ⟨a, cap, (List.range len).map (fun i => if hq : i < len then Classical.choose (each i hq) else z39), by simpa using hcs, by simpa using hl, ?_⟩
    refine ⟨rfl, ?_, fun _ => ⟨a, rfl, fun j p hj => ⟨[.int .i64 p.f0, .int .i64 p.f1, .int .i64 p.f2], rfl, k39_mk w p, ?_⟩⟩⟩
    · have h1 : cap ≤ maxLen := hm
      have h2 : maxLen ≤ 9223372036854775807 := by unfold maxLen; omega
      simp only [List.length_map, List.length_range]
      omega
    · have hjl : j < len := by
        have := (List.getElem?_eq_some_iff.1 hj).1
        simpa using this
      have hp : p = Classical.choose (each j hjl) := by
        rw [List.getElem?_map, List.getElem?_range hjl, Option.map_some] at hj
        have := Option.some.inj hj
        rw [dif_pos hjl] at this
        exact this.symm
      subst hp
      exact Classical.choose_spec (each j hjl)
end Go.Proofs.Ytcicjbgfahdejaa.P
