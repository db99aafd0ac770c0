/- An operation, opened with its weight. -/
import Derived.Test.YtdmbgimehepfaaaOpnB
set_option linter.unusedSimpArgs false
set_option linter.unusedVariables false
namespace Go.Proofs.Ytdmbgimehepfaaa
open Go.ChangeShapes Go.WideShapes Go.ChangeAt Go.RowKit Go.Joins Go.Deep

set_option maxRecDepth 100000 in
theorem op_weight {H : Type} {en : TypeId × Value → H} {w : World} {n : Nat} {cs : List Value} {x : DataW H × List MemPlace} (h : DataW.trod en Try.prog w 0 (fun _ => true) true n 24 cs = some x) :
    ∃ o : OpV, cs = opc o ∧ OpOk w o ∧ (o.k.l.length = 0 ∨ ∃ q ∈ DataW.weights Try.prog 24 x.1, o.k.l.length * 32 ≤ q) := by
  obtain ⟨o, rfl, ho⟩ := opnOp.2 h
  refine ⟨o, rfl, ho, ?_⟩
  obtain ⟨ys, n', hn', hy, hlen, hyl, hf⟩ := DataW.trod_struct Try.underlying24 h
  have h1 : DataW.trod en Try.prog w 0 (fun _ => true) true n' 22 (((opc o).drop 1).take (Try.prog.cellsOf 22)) = ys[1]? := hf 1 _ rfl
  have hc : Try.prog.cellsOf 22 = 1 := by kernel_rfl
  rw [hc] at h1
  cases hy1 : ys[1]? with
  | none => have := List.getElem?_eq_none_iff.1 hy1; simp at hyl; omega
  | some y =>
    rw [hy1] at h1
    have h2 : DataW.trod en Try.prog w 0 (fun _ => true) true n' 22 [.slice o.k.A o.k.l.length o.k.c] = some y := h1
    rcases open_slice Try.underlying22 h2 with ⟨hcs, hx⟩ | ⟨a, len, cap, m, n, D, Pl, hcs, hb, hl, hm, hmm, hx, hi⟩
    · left
      simp at hcs
      rw [hcs.2.1]; rfl
    · right
      simp at hcs
      obtain ⟨_, h3, _⟩ := hcs
      subst hx
      have hz : (ys.map (·.1))[1]? = some (.slice ((List.range len).map D) ((List.range (m - len)).map fun j => D (len + j))) := by rw [List.getElem?_map, hy1]; rfl
      refine ⟨(((List.range len).map D).length + ((List.range (m - len)).map fun j => D (len + j)).length) * Try.prog.bytesOf 57, ?_, ?_⟩
      · rw [hy]
        simp only [DataW.weights, Try.underlying24]
        exact DataW.weights_mem_each (j := 1) (t := 22) rfl hz _ (by simp [DataW.weights, Try.underlying22])
      · rw [show Try.prog.bytesOf 57 = 32 from by kernel_rfl]
        simp
        omega
set_option maxRecDepth 100000 in
theorem open_op {H : Type} {en : TypeId × Value → H} {w : World} {r : Reach} {b0 : Nat} {v : Value} {d : DataW H} {p : List MemPlace}
    (hv : Value.okWide Try.prog w r b0 24 v) (h : DataW.Trod en Try.prog w 0 (fun _ => true) true 24 v d p) :
    ∃ o : OpV, v = opv o ∧ OpOk w o ∧ (o.k.l.length = 0 ∨ ∃ q ∈ DataW.weights Try.prog 24 d, o.k.l.length * 32 ≤ q) := by
  obtain ⟨cs, rfl, hsz⟩ := okWide_struct Try.underlying24 hv
  obtain ⟨fuel, hf⟩ := h
  obtain ⟨o, ea, ma, hq⟩ := op_weight hf
  refine ⟨o, ?_, ma, hq⟩
  simp only [Value.cells] at ea
  exact congrArg Value.agg (Array.ext' (ea.trans rfl))
end Go.Proofs.Ytdmbgimehepfaaa
