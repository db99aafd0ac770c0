/- Versions and inputs of chapter 33, opened. -/
import Derived.Test.YtccndjnaakmlkaaGop
import Derived.Test.YtccndjnaakmlkaaRtE
set_option linter.unusedSimpArgs false
set_option linter.unusedVariables false
namespace Go.Proofs.Ytccndjnaakmlkaa
open Go.ChangeShapes Go.WideShapes Go.ChangeAt Go.RowKit Go.Joins Go.Deep

theorem wf_bounds {a : Int} (h : (Lit.int .i64 a).wf = true) : -9223372036854775808 ≤ a ∧ a ≤ 9223372036854775807 := by
  simp [Lit.wf] at h
  exact ⟨h.1, h.2⟩
theorem opnInt : Opn Try.prog 3 1 (fun a : Int => [.int .i64 a]) (fun _ a => -9223372036854775808 ≤ a ∧ a ≤ 9223372036854775807) :=
  (Opn.int Try.underlying3).as (fun a => a) (fun _ => rfl) (fun _ => rfl) (fun _ _ h => wf_bounds h)
theorem opnVa : Opn Try.prog 76 3 vc (fun _ v => v.t.size ≤ maxLen) :=
  (Opn.struct Try.underlying76 (Flds.cons opnInt rfl (by kernel_rfl) (Flds.cons opnInt rfl (by kernel_rfl) (Flds.one (Opn.str Try.underlying9) rfl (by kernel_rfl)))) (by kernel_rfl)).as
    (fun a => (⟨a.1, a.2.1, a.2.2⟩ : Va)) (fun _ => rfl) (fun _ => rfl) (fun _ _ h => h.2.2)
theorem opnPer : Opn Try.prog 25 2 (fun p : Int × Int => [.int .i64 p.1, .int .i64 p.2]) (fun _ _ => True) :=
  (Opn.struct Try.underlying25 (Flds.cons opnInt rfl (by kernel_rfl) (Flds.one opnInt rfl (by kernel_rfl))) (by kernel_rfl)).as (fun a => a) (fun _ => rfl) (fun _ => rfl) (fun _ _ _ => trivial)
theorem opnRect : Opn Try.prog 27 4 (fun r : Rct => [.int .i64 r.1.1, .int .i64 r.1.2, .int .i64 r.2.1, .int .i64 r.2.2]) (fun _ _ => True) :=
  (Opn.struct Try.underlying27 (Flds.cons opnPer rfl (by kernel_rfl) (Flds.one opnPer rfl (by kernel_rfl))) (by kernel_rfl)).as (fun a => a) (fun _ => rfl) (fun _ => rfl) (fun _ _ _ => trivial)
theorem opnVer : Opn Try.prog 41 9 (fun z : VP => encV z.1) (fun w z => VerIs w z.1 z.2 ∧ z.1.rn ≤ maxLen) :=
  (Opn.struct Try.underlying41 (Flds.cons opnInt rfl (by kernel_rfl) (Flds.cons opnInt rfl (by kernel_rfl) (Flds.cons (Opn.slice Try.underlying39 opnVa (by kernel_rfl) (by decide)) rfl (by kernel_rfl) (Flds.cons opnPer rfl (by kernel_rfl) (Flds.cons opnPer rfl (by kernel_rfl)
    (Flds.cons opnInt rfl (by kernel_rfl) (Flds.one opnInt rfl (by kernel_rfl)))))))) (by kernel_rfl)).as
    (fun a => ((⟨a.1, a.2.1, a.2.2.1.A, a.2.2.1.l.length, a.2.2.1.c, (a.2.2.2.1, a.2.2.2.2.1), a.2.2.2.2.2.1, a.2.2.2.2.2.2⟩ : Ver), (⟨a.1, a.2.1, a.2.2.1.l, (a.2.2.2.1, a.2.2.2.2.1), a.2.2.2.2.2.1, a.2.2.2.2.2.2⟩ : PV)))
    (fun _ => rfl) (fun _ => rfl) (fun w a h => by
      obtain ⟨_, _, ⟨h1, h2, h3, _⟩, _⟩ := h
      exact ⟨⟨rfl, rfl, rfl, rfl, rfl, rfl, h3⟩, Nat.le_trans h1 h2⟩)
theorem fm_vers (Z : List VP) : Z.flatMap (fun z : VP => encV z.1) = verc (vsOf Z) := by unfold verc vsOf; rw [List.flatMap_map]
/-- an input of chapter 33 -/
structure Cas where
  L : Sl VP
  h : Int
  la : Int
  H : Sl Rct
  r : Rct
  v : Int
  t : Int
def encCas (c : Cas) : List Value := [.slice c.L.A c.L.l.length c.L.c, .int .i64 c.h, .int .i64 c.la, .slice c.H.A c.H.l.length c.H.c, .int .i64 c.r.1.1, .int .i64 c.r.1.2, .int .i64 c.r.2.1, .int .i64 c.r.2.2, .int .i64 c.v, .int .i64 c.t]
structure CasOk (w : World) (c : Cas) : Prop where
  rl : Rd w 9 c.L.A c.L.l.length (verc (vsOf c.L.l))
  zl : ∀ z ∈ c.L.l, VerIs w z.1 z.2
  nr : ∀ z ∈ c.L.l, z.1.rn ≤ 9223372036854775807
  nl : c.L.l.length ≤ 9223372036854775807
  rh : Rd w 4 c.H.A c.H.l.length (rcl c.H.l)
  nh : c.H.l.length ≤ 9223372036854775807
theorem opnCase : Opn Try.prog 29 10 encCas CasOk :=
  (Opn.struct Try.underlying29 (Flds.cons (Opn.slice Try.underlying22 opnVer (by kernel_rfl) (by decide)) rfl (by kernel_rfl) (Flds.cons opnInt rfl (by kernel_rfl) (Flds.cons opnInt rfl (by kernel_rfl) (Flds.cons (Opn.slice Try.underlying23 opnRect (by kernel_rfl) (by decide)) rfl (by kernel_rfl) (Flds.cons opnRect rfl (by kernel_rfl)
    (Flds.cons opnInt rfl (by kernel_rfl) (Flds.one opnInt rfl (by kernel_rfl)))))))) (by kernel_rfl)).as (fun a => ⟨a.1, a.2.1, a.2.2.1, a.2.2.2.1, a.2.2.2.2.1, a.2.2.2.2.2.1, a.2.2.2.2.2.2⟩) (fun _ => rfl) (fun _ => rfl) (fun w a h => by
    obtain ⟨⟨l1, l2, l3, l4⟩, _, _, ⟨h1, h2, h3, _⟩, _⟩ := h
    rw [fm_vers] at l3
    exact ⟨l3, fun z hz => (l4 z hz).1, fun z hz => (l4 z hz).2, Nat.le_trans l1 l2, h3, Nat.le_trans h1 h2⟩)
end Go.Proofs.Ytccndjnaakmlkaa
