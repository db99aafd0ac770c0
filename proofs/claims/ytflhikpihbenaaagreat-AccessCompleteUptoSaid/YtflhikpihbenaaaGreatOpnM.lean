/- The arguments of AccessMatches, opened: a table, a path, a version; what the bound on the bulk gives. -/
import Derived.Test.YtflhikpihbenaaaGreatGop
import Derived.Test.YtflhikpihbenaaaGreatMat2
set_option linter.unusedSimpArgs false
set_option linter.unusedVariables false
namespace Go.Proofs.YtflhikpihbenaaaGreat
open Go.ChangeShapes Go.WideShapes Go.ChangeAt Go.RowKit Go.Joins Go.Deep

theorem opnInt : Opn Tryz.prog 3 1 (fun a : Int => [.int .i64 a]) (fun _ _ => True) :=
  (Opn.int Tryz.underlying3).as (fun a => a) (fun _ => rfl) (fun _ => rfl) (fun _ _ _ => trivial)
theorem opnVa : Opn Tryz.prog 29 3 vc (fun _ v => v.t.size ≤ maxLen) :=
  (Opn.struct Tryz.underlying29 (Flds.cons opnInt rfl (by kernel_rfl) (Flds.cons opnInt rfl (by kernel_rfl) (Flds.one (Opn.str Tryz.underlying9) rfl (by kernel_rfl)))) (by kernel_rfl)).as
    (fun a => (⟨a.1, a.2.1, a.2.2⟩ : Va)) (fun _ => rfl) (fun _ => rfl) (fun _ _ h => h.2.2)
theorem opnPer : Opn Tryz.prog 35 2 (fun p : Int × Int => [.int .i64 p.1, .int .i64 p.2]) (fun _ _ => True) :=
  (Opn.struct Tryz.underlying35 (Flds.cons opnInt rfl (by kernel_rfl) (Flds.one opnInt rfl (by kernel_rfl))) (by kernel_rfl)).as (fun a => a) (fun _ => rfl) (fun _ => rfl) (fun _ _ _ => trivial)
theorem opnRc : Opn Tryz.prog 48 4 (fun r : (Int × Int) × (Int × Int) => [.int .i64 r.1.1, .int .i64 r.1.2, .int .i64 r.2.1, .int .i64 r.2.2]) (fun _ _ => True) :=
  (Opn.struct Tryz.underlying48 (Flds.cons opnPer rfl (by kernel_rfl) (Flds.one opnPer rfl (by kernel_rfl))) (by kernel_rfl)).as (fun a => a) (fun _ => rfl) (fun _ => rfl) (fun _ _ _ => trivial)
theorem opnRow : Opn Tryz.prog 36 1 (encS (α := Va)) (memS 3 vc (fun _ v => v.t.size ≤ maxLen)) := Opn.slice Tryz.underlying36 opnVa (by kernel_rfl) (by decide)
structure PaA where
  k : Int
  key : Sl Va
  r : (Int × Int) × (Int × Int)
def encPa (p : PaA) : List Value := [.int .i64 p.k, .slice p.key.A p.key.l.length p.key.c, .int .i64 p.r.1.1, .int .i64 p.r.1.2, .int .i64 p.r.2.1, .int .i64 p.r.2.2]
theorem opnPath : Opn Tryz.prog 50 6 encPa (fun w p => memS 3 vc (fun _ v => v.t.size ≤ maxLen) w p.key) :=
  (Opn.struct Tryz.underlying50 (Flds.cons opnInt rfl (by kernel_rfl) (Flds.cons opnRow rfl (by kernel_rfl) (Flds.one opnRc rfl (by kernel_rfl)))) (by kernel_rfl)).as (fun a => ⟨a.1, a.2.1, a.2.2⟩) (fun _ => rfl) (fun _ => rfl) (fun _ _ h => h.2.1)
structure VeA where
  id : Int
  sch : Int
  row : Sl Va
  v : Int × Int
  s : Int × Int
  by_ : Int
  un : Int
def encVe (p : VeA) : List Value := [.int .i64 p.id, .int .i64 p.sch, .slice p.row.A p.row.l.length p.row.c, .int .i64 p.v.1, .int .i64 p.v.2, .int .i64 p.s.1, .int .i64 p.s.2, .int .i64 p.by_, .int .i64 p.un]
theorem opnVe : Opn Tryz.prog 38 9 encVe (fun w p => memS 3 vc (fun _ v => v.t.size ≤ maxLen) w p.row) :=
  (Opn.struct Tryz.underlying38 (Flds.cons opnInt rfl (by kernel_rfl) (Flds.cons opnInt rfl (by kernel_rfl) (Flds.cons opnRow rfl (by kernel_rfl) (Flds.cons opnPer rfl (by kernel_rfl) (Flds.cons opnPer rfl (by kernel_rfl)
    (Flds.cons opnInt rfl (by kernel_rfl) (Flds.one opnInt rfl (by kernel_rfl)))))))) (by kernel_rfl)).as (fun a => ⟨a.1, a.2.1, a.2.2.1, a.2.2.2.1, a.2.2.2.2.1, a.2.2.2.2.2.1, a.2.2.2.2.2.2⟩) (fun _ => rfl) (fun _ => rfl) (fun _ _ h => h.2.2.1)

section
variable {P : Program}
/-- any slice, its elements unread -/
theorem raw_slice {t e : TypeId} (ht : P.underlying t = some (.slice e)) {H : Type} {en : TypeId × Value → H} {w : World} {n : Nat} {cs : List Value} {x : DataW H × List MemPlace} (h : DataW.trod en P w 0 (fun _ => true) true n t cs = some x) : ∃ a n c, cs = [.slice a n c] := by
  rcases open_slice ht h with ⟨hcs, _⟩ | ⟨a, len, cap, m, n, D, Pl, hcs, _⟩
  · exact ⟨_, _, _, hcs⟩
  · exact ⟨_, _, _, hcs⟩
/-- how many elements the datum of a slice has -/
theorem slice_data {t e : TypeId} (ht : P.underlying t = some (.slice e)) {H : Type} {en : TypeId × Value → H} {w : World} {n : Nat} {a : Option Addr} {l c : Nat} {x : DataW H × List MemPlace} (h : DataW.trod en P w 0 (fun _ => true) true n t [.slice a l c] = some x) :
    l = 0 ∨ ∃ elems spare, x.1 = .slice elems spare ∧ elems.length = l := by
  rcases open_slice ht h with ⟨hcs, _⟩ | ⟨a', len, cap, m, n, D, Pl, hcs, _, _, _, _, hx, _⟩
  · simp only [List.cons.injEq, Value.slice.injEq, and_true] at hcs
    exact .inl hcs.2.1
  · simp only [List.cons.injEq, Value.slice.injEq, and_true] at hcs
    obtain ⟨_, rfl, _⟩ := hcs
    exact .inr ⟨_, _, by rw [hx], by simp⟩
end
theorem five {cs : Array Value} (h : cs.size = 5) : ∃ a b c d e, cs = #[a, b, c, d, e] := by
  obtain ⟨l⟩ := cs
  match l, h with
  | [a, b, c, d, e], _ => exact ⟨a, b, c, d, e, rfl⟩
theorem cells_table : Tryz.prog.cellsOf 27 = 5 := by kernel_rfl

set_option maxRecDepth 100000 in
theorem open_table {H : Type} {en : TypeId × Value → H} {w : World} {r : Reach} {b0 : Nat} {v : Value} {d : DataW H} {p : List MemPlace}
    (hv : Value.okWide Tryz.prog w r b0 27 v) (h : DataW.Trod en Tryz.prog w 0 (fun _ => true) true 27 v d p) :
    ∃ (s0 : ByteArray) (a1 : Option Addr) (n1 m1 : Nat) (K : Option Addr) (kc : Nat) (ks : List Int) (a3 : Option Addr) (n3 m3 : Nat) (a4 : Option Addr) (n4 m4 : Nat) (d0 d1 d2 d3 d4 : DataW H),
      v = .agg #[.string s0, .slice a1 n1 m1, .slice K ks.length kc, .slice a3 n3 m3, .slice a4 n4 m4] ∧ Rd w 1 K ks.length (ic ks) ∧ d = .agg [d0, d1, d2, d3, d4] ∧ (ks.length = 0 ∨ ∃ elems spare, d2 = .slice elems spare ∧ elems.length = ks.length) := by
  obtain ⟨cs, rfl, hsz⟩ := okWide_struct Tryz.underlying27 hv
  obtain ⟨c0, c1, c2, c3, c4, rfl⟩ := five (hsz.trans cells_table)
  obtain ⟨fuel, hf⟩ := h
  obtain ⟨ys, n', _, hx, _, hyl, hfl⟩ := DataW.trod_struct Tryz.underlying27 hf
  have hy5 : ys.length = 5 := hyl
  match ys, hy5 with
  | [y0, y1, y2, y3, y4], _ =>
    have g0 : DataW.trod en Tryz.prog w 0 (fun _ => true) true n' 9 (([c0, c1, c2, c3, c4].drop 0).take (Tryz.prog.cellsOf 9)) = some y0 := hfl 0 _ rfl
    have g1 : DataW.trod en Tryz.prog w 0 (fun _ => true) true n' 22 (([c0, c1, c2, c3, c4].drop 1).take (Tryz.prog.cellsOf 22)) = some y1 := hfl 1 _ rfl
    have g2 : DataW.trod en Tryz.prog w 0 (fun _ => true) true n' 23 (([c0, c1, c2, c3, c4].drop 2).take (Tryz.prog.cellsOf 23)) = some y2 := hfl 2 _ rfl
    have g3 : DataW.trod en Tryz.prog w 0 (fun _ => true) true n' 24 (([c0, c1, c2, c3, c4].drop 3).take (Tryz.prog.cellsOf 24)) = some y3 := hfl 3 _ rfl
    have g4 : DataW.trod en Tryz.prog w 0 (fun _ => true) true n' 25 (([c0, c1, c2, c3, c4].drop 4).take (Tryz.prog.cellsOf 25)) = some y4 := hfl 4 _ rfl
    rw [show Tryz.prog.cellsOf 9 = 1 from by kernel_rfl] at g0
    rw [show Tryz.prog.cellsOf 22 = 1 from by kernel_rfl] at g1
    rw [show Tryz.prog.cellsOf 23 = 1 from by kernel_rfl] at g2
    rw [show Tryz.prog.cellsOf 24 = 1 from by kernel_rfl] at g3
    rw [show Tryz.prog.cellsOf 25 = 1 from by kernel_rfl] at g4
    simp only [List.drop, List.take] at g0 g1 g2 g3 g4
    obtain ⟨s0, e0, _, _⟩ := DataW.trod_string Tryz.underlying9 g0
    obtain ⟨a1, n1, m1, e1⟩ := raw_slice Tryz.underlying22 g1
    obtain ⟨a3, n3, m3, e3⟩ := raw_slice Tryz.underlying24 g3
    obtain ⟨a4, n4, m4, e4⟩ := raw_slice Tryz.underlying25 g4
    obtain ⟨s, e2, _, _, hR, _⟩ := (Opn.slice Tryz.underlying23 opnInt (by kernel_rfl) (by decide)).2 g2
    have hic : s.l.flatMap (fun a : Int => [Value.int .i64 a]) = ic s.l := by unfold ic; induction s.l with | nil => rfl | cons x l ih => simp [ih]
    rw [hic] at hR
    simp only [encS, List.cons.injEq, and_true] at e0 e1 e2 e3 e4
    subst e0 e1 e2 e3 e4
    have hd := slice_data Tryz.underlying23 g2
    simp only [Prod.mk.injEq] at hx
    exact ⟨s0, a1, n1, m1, s.A, s.c, s.l, a3, n3, m3, a4, n4, m4, y0.1, y1.1, y2.1, y3.1, y4.1, rfl, hR, hx.1, hd⟩

theorem bulk_one {H : Type} (d : DataW H) : 1 ≤ Rows.uptoBulk d := by
  cases d with
  | lit l => cases l <;> simp [Rows.uptoBulk]
  | nil => simp [Rows.uptoBulk]
  | ptr d => simp [Rows.uptoBulk]
  | slice elems spare => simp [Rows.uptoBulk]
  | agg parts => simp [Rows.uptoBulk]
  | iface t d => simp [Rows.uptoBulk]
  | map entries => simp [Rows.uptoBulk]
  | held h => simp [Rows.uptoBulk]
theorem bulk_len {H : Type} : ∀ (l : List (DataW H)), l.length ≤ Rows.uptoBulkAll l
  | [] => by simp
  | x :: r => by have := bulk_one x; have := bulk_len r; simp only [Rows.uptoBulkAll, List.length_cons]; omega
/-- the key's length, from the bound -/
theorem key_bound {H : Type} {d0 d1 d2 d3 d4 : DataW H} {rest : List (DataW H)} {n : Nat} (hk : Rows.uptoSmall H (.agg [d0, d1, d2, d3, d4] :: rest) = true) (h : n = 0 ∨ ∃ elems spare, d2 = .slice elems spare ∧ elems.length = n) : n ≤ 1048576 := by
  have hb : Rows.uptoBulkAll (.agg [d0, d1, d2, d3, d4] :: rest) ≤ 1048576 := of_decide_eq_true hk
  rcases h with h | ⟨elems, spare, rfl, h⟩
  · omega
  · simp only [Rows.uptoBulkAll, Rows.uptoBulk] at hb
    have := bulk_len elems
    omega
end Go.Proofs.YtflhikpihbenaaaGreat
