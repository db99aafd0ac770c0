/- Arguments of chapter 30, opened: operations, rows of values. -/
import Derived.Test.YtdmbgimehepfaaaGop
import Derived.Test.YtdmbgimehepfaaaBtKw
set_option linter.unusedSimpArgs false
set_option linter.unusedVariables false
namespace Go.Proofs.Ytdmbgimehepfaaa
open Go.ChangeShapes Go.WideShapes Go.ChangeAt Go.RowKit Go.Joins Go.Deep

/-- .. and nothing where there is no block -/
def memN (k : Nat) {α : Type} (enc : α → List Value) (mem : World → α → Prop) (w : World) (s : Sl α) : Prop := memS k enc mem w s ∧ (s.A = none → s.c = 0)
section
variable {P : Program}
theorem Opn.sliceN {t e k : Nat} {α : Type} {enc : α → List Value} {mem : World → α → Prop} (ht : P.underlying t = some (.slice e)) (hI : Opn P e k enc mem) (hC : P.cellsOf e = k) (hk : 0 < k) : Opn P t 1 (encS (α := α)) (memN k enc mem) := by
  refine ⟨fun _ => rfl, fun {H en w n cs x} h => ?_⟩
  rcases open_slice ht h with ⟨hcs, hx⟩ | ⟨a, len, cap, m, n, D, Pl, hcs, hb, hl, hm, hmm, hx, hi⟩
  · exact ⟨⟨none, 0, []⟩, hcs, ⟨Nat.le_refl _, Nat.zero_le _, Rd.nil, by simp⟩, fun _ => rfl⟩
  · simp only [if_true] at hmm
    subst hmm
    have hq : ∀ i, i < len → ∃ z : α, mem w z ∧ ∀ j, j < k → w.cell? (a.add (i * k + j)) = (enc z)[j]? := by
      intro i hil
      obtain ⟨cs', hc, ht'⟩ := hi i (by omega)
      obtain ⟨z, rfl, hz⟩ := hI.2 ht'
      obtain ⟨_, _, hat⟩ := World.cells?_some hc
      rw [hC] at hat
      refine ⟨z, hz, fun j hj => ?_⟩
      rw [← Go.Deep.add_add]
      exact hat j hj
    obtain ⟨ls, hls, hql⟩ := list_of len hq
    subst hls
    refine ⟨⟨some a, m, ls⟩, hcs, ⟨hl, hm, ⟨fm_len hI.1 ls, fun hpos => ?_⟩, fun z hz => ?_⟩, fun h => by cases h⟩
    · have hlp : 0 < ls.length := by
        rcases Nat.eq_zero_or_pos ls.length with h0 | h0
        · simp only [h0, Nat.zero_mul] at hpos; omega
        · exact h0
      have h00 := (hql 0 hlp).2 0 hk
      rw [Nat.zero_mul, Nat.add_zero, List.getElem?_eq_getElem (by rw [hI.1]; exact hk)] at h00
      have ha0 : a.add 0 = a := by simp [Addr.add]
      rw [ha0] at h00
      obtain ⟨b, o, s⟩ := a
      have hs : s = none := by
        cases s with
        | none => rfl
        | some s =>
          exfalso
          simp only [World.cell?] at h00
          split at h00 <;> simp at h00
      subst hs
      refine ⟨b, o, rfl, cell_lt h00, fun j u hu => ?_⟩
      have hj : j < ls.length * k := by
        have := (List.getElem?_eq_some_iff.1 hu).1
        rwa [fm_len hI.1 ls] at this
      have hdm : j / k < ls.length := Nat.div_lt_of_lt_mul (by rw [Nat.mul_comm]; exact hj)
      have hjm : j / k * k + j % k = j := Nat.div_add_mod' j k
      have h1 := (hql (j / k) hdm).2 (j % k) (Nat.mod_lt _ hk)
      rw [hjm, add_none] at h1
      rw [h1, ← fm_get hI.1 ls (j / k) hdm (j % k) (Nat.mod_lt _ hk), hjm]
      exact hu
    · obtain ⟨i, hi', rfl⟩ := List.getElem_of_mem hz
      exact (hql i hi').1


/-- an argument of a slice's type -/
theorem Opn.slN {t k : Nat} {α : Type} {enc : α → List Value} {mem : World → α → Prop} (hO : Opn P t 1 (encS (α := α)) (memN k enc mem)) {e : Nat} (ht : P.underlying t = some (.slice e)) {H : Type} {en : TypeId × Value → H} {w : World} {r : Reach} {b0 : Nat} {v : Value} {d : DataW H} {p : List MemPlace}
    (hv : Value.okWide P w r b0 t v) (h : DataW.Trod en P w 0 (fun _ => true) true t v d p) : ∃ s : Sl α, v = slg s ∧ memN k enc mem w s := by
  obtain ⟨a, len, cap, rfl⟩ := okWide_slice ht hv
  obtain ⟨fuel, hf⟩ := h
  obtain ⟨s, es, ms⟩ := hO.2 hf
  refine ⟨s, ?_, ms⟩
  simp only [Value.cells, encS] at es
  simpa using es
end
theorem opnIntW : Opn Try.prog 3 1 (fun a : Int => [.int .i64 a]) (fun _ a => (Lit.int .i64 a).wf = true) := Opn.int Try.underlying3
theorem opnInt : Opn Try.prog 3 1 (fun a : Int => [.int .i64 a]) (fun _ _ => True) :=
  (Opn.int Try.underlying3).as (fun a => a) (fun _ => rfl) (fun _ => rfl) (fun _ _ _ => trivial)
theorem opnVa : Opn Try.prog 57 3 vc (fun _ v => v.t.size ≤ maxLen) :=
  (Opn.struct Try.underlying57 (Flds.cons opnInt rfl (by kernel_rfl) (Flds.cons opnInt rfl (by kernel_rfl) (Flds.one (Opn.str Try.underlying9) rfl (by kernel_rfl)))) (by kernel_rfl)).as
    (fun a => (⟨a.1, a.2.1, a.2.2⟩ : Va)) (fun _ => rfl) (fun _ => rfl) (fun _ _ h => h.2.2)
theorem opnRow : Opn Try.prog 22 1 (encS (α := Va)) (memN 3 vc (fun _ v => v.t.size ≤ maxLen)) := Opn.sliceN Try.underlying22 opnVa (by kernel_rfl) (by decide)
theorem keyOk_mem {w : World} {s : Sl Va} (h : memN 3 vc (fun _ v => v.t.size ≤ maxLen) w s) : KeyOk w s := by
  refine ⟨h.1.2.2.1, Nat.le_trans h.1.1 h.1.2.1, h.1.2.2.2, fun hA => ⟨?_, h.2 hA⟩⟩
  have h1 := h.2 hA
  have h2 := h.1.1
  omega
theorem opnOp : Opn Try.prog 24 3 opc OpOk :=
  (Opn.struct Try.underlying24 (Flds.cons opnInt rfl (by kernel_rfl) (Flds.cons opnRow rfl (by kernel_rfl) (Flds.one opnIntW rfl (by kernel_rfl)))) (by kernel_rfl)).as
    (fun a => (⟨a.1, a.2.1, a.2.2⟩ : OpV)) (fun _ => rfl) (fun _ => rfl) (fun _ a h => ⟨keyOk_mem h.2.1, by
      have h1 : (decide (IntKind.i64.min ≤ a.2.2) && decide (a.2.2 ≤ IntKind.i64.max)) = true := h.2.2
      rw [Bool.and_eq_true, decide_eq_true_iff, decide_eq_true_iff, show IntKind.i64.min = -9223372036854775808 from rfl] at h1
      exact h1.1⟩)
theorem opnOps : Opn Try.prog 36 1 (encS (α := OpV)) (memN 3 opc OpOk) := Opn.sliceN Try.underlying36 opnOp (by kernel_rfl) (by decide)
end Go.Proofs.Ytdmbgimehepfaaa
