/- Versions, opened with their bulk. -/
import Derived.Test.YtflhikpihbenaaaGreatOpnE
import Derived.Test.YtflhikpihbenaaaGreatEvS
set_option linter.unusedSimpArgs false
set_option linter.unusedVariables false
namespace Go.Proofs.YtflhikpihbenaaaGreat
open Go.ChangeShapes Go.WideShapes Go.ChangeAt Go.RowKit Go.Joins Go.Deep

/-- a row of values -/
theorem open_rw {H : Type} {en : TypeId × Value → H} {w : World} {n : Nat} {cs : List Value} {x : DataW H × List MemPlace} (h : DataW.trod en Tryz.prog w 0 (fun _ => true) true n 36 cs = some x) :
    ∃ s : Sl Va, cs = [.slice s.A s.l.length s.c] ∧ memS 3 vc (fun _ v => v.t.size ≤ maxLen) w s ∧ s.l.length + 1 ≤ Rows.uptoBulk x.1 := by
  obtain ⟨s, e, h1, h2⟩ := slice_open (k := 3) (enc := vc) (mem := fun _ v => v.t.size ≤ maxLen) (sz := fun _ => 1) Tryz.underlying36 (by kernel_rfl) (by decide) (fun _ => rfl) h
    (fun {n'} {cs'} {y} hy _ => by
      obtain ⟨a, ha, hm⟩ := opnVa.2 hy
      exact ⟨a, ha, hm, bulk_one _⟩)
  rw [ones] at h2
  exact ⟨s, e, h1, h2⟩
theorem nine_ {cs : List Value} (h : cs.length = 9) : ∃ a b c d e f g h i, cs = [a, b, c, d, e, f, g, h, i] := by
  match cs, h with
  | [a, b, c, d, e, f, g, h, i], _ => exact ⟨a, b, c, d, e, f, g, h, i, rfl⟩
theorem cells_version : Tryz.prog.cellsOf 38 = 9 := by kernel_rfl
/-- what is known of a version in memory -/
def veM (w : World) (p : VeA) : Prop := Rd w 3 p.row.A p.row.l.length (vcl p.row.l) ∧ p.row.l.length ≤ 1048576 ∧ ∀ v ∈ p.row.l, v.t.size ≤ 9223372036854775807
set_option maxRecDepth 100000 in
theorem open_ver {H : Type} {en : TypeId × Value → H} {w : World} {n : Nat} {cs : List Value} {x : DataW H × List MemPlace} (hf : DataW.trod en Tryz.prog w 0 (fun _ => true) true n 38 cs = some x) (hb : Rows.uptoBulk x.1 ≤ 1048576) :
    ∃ p : VeA, cs = encVe p ∧ veM w p := by
  obtain ⟨ys, n', _, hx, hlen, hyl, hfl⟩ := DataW.trod_struct Tryz.underlying38 hf
  obtain ⟨c0, c1, c2, c3, c4, c5, c6, c7, c8, rfl⟩ := nine_ (hlen.trans cells_version)
  have hy5 : ys.length = 7 := hyl
  match ys, hy5 with
  | [y0, y1, y2, y3, y4, y5, y6], _ =>
    have g0 : DataW.trod en Tryz.prog w 0 (fun _ => true) true n' 3 (([c0, c1, c2, c3, c4, c5, c6, c7, c8].drop 0).take (Tryz.prog.cellsOf 3)) = some y0 := hfl 0 _ rfl
    have g1 : DataW.trod en Tryz.prog w 0 (fun _ => true) true n' 3 (([c0, c1, c2, c3, c4, c5, c6, c7, c8].drop 1).take (Tryz.prog.cellsOf 3)) = some y1 := hfl 1 _ rfl
    have g2 : DataW.trod en Tryz.prog w 0 (fun _ => true) true n' 36 (([c0, c1, c2, c3, c4, c5, c6, c7, c8].drop 2).take (Tryz.prog.cellsOf 36)) = some y2 := hfl 2 _ rfl
    have g3 : DataW.trod en Tryz.prog w 0 (fun _ => true) true n' 35 (([c0, c1, c2, c3, c4, c5, c6, c7, c8].drop 3).take (Tryz.prog.cellsOf 35)) = some y3 := hfl 3 _ rfl
    have g4 : DataW.trod en Tryz.prog w 0 (fun _ => true) true n' 35 (([c0, c1, c2, c3, c4, c5, c6, c7, c8].drop 5).take (Tryz.prog.cellsOf 35)) = some y4 := hfl 4 _ rfl
    have g5 : DataW.trod en Tryz.prog w 0 (fun _ => true) true n' 3 (([c0, c1, c2, c3, c4, c5, c6, c7, c8].drop 7).take (Tryz.prog.cellsOf 3)) = some y5 := hfl 5 _ rfl
    have g6 : DataW.trod en Tryz.prog w 0 (fun _ => true) true n' 3 (([c0, c1, c2, c3, c4, c5, c6, c7, c8].drop 8).take (Tryz.prog.cellsOf 3)) = some y6 := hfl 6 _ rfl
    rw [show Tryz.prog.cellsOf 3 = 1 from by kernel_rfl] at g0 g1 g5 g6
    rw [show Tryz.prog.cellsOf 36 = 1 from by kernel_rfl] at g2
    rw [show Tryz.prog.cellsOf 35 = 2 from by kernel_rfl] at g3 g4
    simp only [List.drop, List.take] at g0 g1 g2 g3 g4 g5 g6
    obtain ⟨i0, e0, _⟩ := opnInt.2 g0
    obtain ⟨i1, e1, _⟩ := opnInt.2 g1
    obtain ⟨s, e2, h1, h2⟩ := open_rw g2
    obtain ⟨p3, e3, _⟩ := opnPer.2 g3
    obtain ⟨p4, e4, _⟩ := opnPer.2 g4
    obtain ⟨i5, e5, _⟩ := opnInt.2 g5
    obtain ⟨i6, e6, _⟩ := opnInt.2 g6
    simp only [List.cons.injEq, and_true] at e0 e1 e2 e3 e4 e5 e6
    obtain ⟨rfl, rfl⟩ := e3
    obtain ⟨rfl, rfl⟩ := e4
    subst e0 e1 e2 e5 e6
    have hb2 : Rows.uptoBulk y2.1 ≤ 1048576 := by
      rw [hx] at hb
      simp only [Rows.uptoBulk, List.map_cons, List.map_nil, Rows.uptoBulkAll] at hb
      omega
    exact ⟨⟨i0, i1, s, p3, p4, i5, i6⟩, rfl, h1.2.2.1, by show s.l.length ≤ _; omega, fun v hv => by have := h1.2.2.2 v hv; unfold maxLen at this; exact this⟩
set_option maxRecDepth 100000 in
/-- a version as an argument -/
theorem open_vera {H : Type} {en : TypeId × Value → H} {w : World} {r : Reach} {b0 : Nat} {u : Value} {d : DataW H} {p : List MemPlace}
    (hv : Value.okWide Tryz.prog w r b0 38 u) (h : DataW.Trod en Tryz.prog w 0 (fun _ => true) true 38 u d p) (hd : Rows.uptoBulk d ≤ 1048576) :
    ∃ ve : VeA, u = .agg #[.int .i64 ve.id, .int .i64 ve.sch, .slice ve.row.A ve.row.l.length ve.row.c, .int .i64 ve.v.1, .int .i64 ve.v.2, .int .i64 ve.s.1, .int .i64 ve.s.2, .int .i64 ve.by_, .int .i64 ve.un] ∧ veM w ve := by
  obtain ⟨cs, rfl, hsz⟩ := okWide_struct Tryz.underlying38 hv
  obtain ⟨fuel, hf⟩ := h
  obtain ⟨ve, e, hm⟩ := open_ver hf hd
  exact ⟨ve, congrArg Value.agg (Array.ext' (e.trans rfl)), hm⟩
set_option maxRecDepth 100000 in
/-- versions as an argument -/
theorem open_vers {H : Type} {en : TypeId × Value → H} {w : World} {r : Reach} {b0 : Nat} {u : Value} {d : DataW H} {p : List MemPlace}
    (hv : Value.okWide Tryz.prog w r b0 41 u) (h : DataW.Trod en Tryz.prog w 0 (fun _ => true) true 41 u d p) (hd : Rows.uptoBulk d ≤ 1048576) :
    ∃ s : Sl VeA, u = .slice s.A s.l.length s.c ∧ s.l.length ≤ s.c ∧ s.c ≤ maxLen ∧ Rd w 9 s.A s.l.length (s.l.flatMap encVe) ∧ VsOk w s.l ∧ s.l.length + 1 ≤ Rows.uptoBulk d := by
  obtain ⟨a, len, cap, rfl⟩ := okWide_slice Tryz.underlying41 hv
  obtain ⟨fuel, hf⟩ := h
  obtain ⟨s, e, h1, h2⟩ := slice_open (k := 9) (enc := encVe) (mem := veM) (sz := fun _ => 1) Tryz.underlying41 cells_version (by decide) (fun _ => rfl) hf
    (fun {n'} {cs'} {y} hy hlt => by
      obtain ⟨a, ha, hm⟩ := open_ver hy (Nat.le_trans (Nat.le_of_lt hlt) hd)
      exact ⟨a, ha, hm, bulk_one _⟩)
  rw [ones] at h2
  have e2 : Value.slice a len cap = .slice s.A s.l.length s.c := by simpa [encS, Value.cells] using e
  exact ⟨s, e2, h1.1, h1.2.1, h1.2.2.1, h1.2.2.2, h2⟩
end Go.Proofs.YtflhikpihbenaaaGreat
