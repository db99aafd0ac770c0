/- Arguments of AccessChooses, opened with their bulk: tables, expressions. -/
import Derived.Test.YtflhikpihbenaaaGreatOpnM
import Derived.Test.YtflhikpihbenaaaGreatFru
set_option linter.unusedSimpArgs false
set_option linter.unusedVariables false
namespace Go.Proofs.YtflhikpihbenaaaGreat
open Go.ChangeShapes Go.WideShapes Go.ChangeAt Go.RowKit Go.Joins Go.Deep

theorem bulk_mem {H : Type} : ∀ {l : List (DataW H)} {d : DataW H}, d ∈ l → Rows.uptoBulk d ≤ Rows.uptoBulkAll l
  | x :: r, d, h => by
    simp only [Rows.uptoBulkAll]
    rcases List.mem_cons.1 h with rfl | h
    · omega
    · have := bulk_mem h; omega
theorem bulk_sum {H : Type} {α : Type} {sz : α → Nat} : ∀ {ls : List α} {ds : List (DataW H)}, ls.length = ds.length → (∀ i (h : i < ls.length) (h2 : i < ds.length), sz ls[i] ≤ Rows.uptoBulk ds[i]) → (ls.map sz).sum ≤ Rows.uptoBulkAll ds
  | [], [], _, _ => by simp [Rows.uptoBulkAll]
  | a :: ls, d :: ds, hl, h => by
    have h0 := h 0 (by simp) (by simp)
    have h1 := bulk_sum (sz := sz) (ls := ls) (ds := ds) (by simpa using hl) (fun i h2 h3 => h (i + 1) (by simpa using h2) (by simpa using h3))
    simp only [List.map_cons, List.sum_cons, Rows.uptoBulkAll]
    simp only [List.getElem_cons_zero] at h0
    omega
theorem slice_open {t e k : Nat} {α : Type} {enc : α → List Value} {mem : World → α → Prop} {sz : α → Nat} (ht : Tryz.prog.underlying t = some (.slice e)) (hC : Tryz.prog.cellsOf e = k) (hk : 0 < k) (hen : ∀ a, (enc a).length = k)
    {H : Type} {en : TypeId × Value → H} {w : World} {n : Nat} {cs : List Value} {x : DataW H × List MemPlace} (h : DataW.trod en Tryz.prog w 0 (fun _ => true) true n t cs = some x)
    (hI : ∀ {n' : Nat} {cs' : List Value} {y : DataW H × List MemPlace}, DataW.trod en Tryz.prog w 0 (fun _ => true) true n' e cs' = some y → Rows.uptoBulk y.1 < Rows.uptoBulk x.1 → ∃ a, cs' = enc a ∧ mem w a ∧ sz a ≤ Rows.uptoBulk y.1) :
    ∃ s : Sl α, cs = encS s ∧ memS k enc mem w s ∧ (s.l.map sz).sum + 1 ≤ Rows.uptoBulk x.1 := by
  rcases open_slice ht h with ⟨hcs, hx⟩ | ⟨a, len, cap, m, n, D, Pl, hcs, hb, hl, hm, hmm, hx, hi⟩
  · exact ⟨⟨none, 0, []⟩, hcs, ⟨Nat.le_refl _, Nat.zero_le _, Rd.nil, by simp⟩, by simpa using bulk_one x.1⟩
  · simp only [if_true] at hmm
    subst hmm
    have hq : ∀ i, i < len → ∃ z : α, mem w z ∧ (∀ j, j < k → w.cell? (a.add (i * k + j)) = (enc z)[j]?) ∧ sz z ≤ Rows.uptoBulk (D i) := by
      intro i hil
      obtain ⟨cs', hc, ht'⟩ := hi i (by omega)
      have hlt : Rows.uptoBulk (D i) < Rows.uptoBulk x.1 := by
        rw [hx]
        have h1 : Rows.uptoBulk (D i) ≤ Rows.uptoBulkAll ((List.range len).map D) := bulk_mem (List.mem_map.2 ⟨i, List.mem_range.2 hil, rfl⟩)
        simp only [Rows.uptoBulk]
        omega
      obtain ⟨z, rfl, hz, hsz⟩ := hI ht' hlt
      obtain ⟨_, _, hat⟩ := World.cells?_some hc
      rw [hC] at hat
      refine ⟨z, hz, fun j hj => ?_, hsz⟩
      rw [← Go.Deep.add_add]
      exact hat j hj
    obtain ⟨ls, hls, hql⟩ := list_of len hq
    have hsum : (ls.map sz).sum ≤ Rows.uptoBulkAll ((List.range len).map D) := bulk_sum (by simp [hls]) (fun i h2 h3 => by simpa using (hql i h2).2.2)
    subst hls
    refine ⟨⟨some a, m, ls⟩, hcs, ⟨hl, hm, ⟨fm_len hen ls, fun hpos => ?_⟩, fun z hz => ?_⟩, ?_⟩
    · have hlp : 0 < ls.length := by
        rcases Nat.eq_zero_or_pos ls.length with h0 | h0
        · simp only [h0, Nat.zero_mul] at hpos; omega
        · exact h0
      have h00 := (hql 0 hlp).2.1 0 hk
      rw [Nat.zero_mul, Nat.add_zero, List.getElem?_eq_getElem (by rw [hen]; exact hk)] at h00
      have ha0 : a.add 0 = a := by simp [Addr.add]
      rw [ha0] at h00
      obtain ⟨b, o, s⟩ := a
      have hs : s = none := by
        cases s with
        | none => rfl
        | some s =>
          exfalso
          simp only [World.cell?] at h00
          split at h00 <;> simp at h00
      subst hs
      refine ⟨b, o, rfl, cell_lt h00, fun j u hu => ?_⟩
      have hj : j < ls.length * k := by
        have := (List.getElem?_eq_some_iff.1 hu).1
        rwa [fm_len hen ls] at this
      have hdm : j / k < ls.length := Nat.div_lt_of_lt_mul (by rw [Nat.mul_comm]; exact hj)
      have hjm : j / k * k + j % k = j := Nat.div_add_mod' j k
      have h1 := (hql (j / k) hdm).2.1 (j % k) (Nat.mod_lt _ hk)
      rw [hjm, add_none] at h1
      rw [h1, ← fm_get hen ls (j / k) hdm (j % k) (Nat.mod_lt _ hk), hjm]
      exact hu
    · obtain ⟨i, hi', rfl⟩ := List.getElem_of_mem hz
      exact (hql i hi').1
    · rw [hx]
      simp only [Rows.uptoBulk]
      omega
/-- an expression with its cells -/
abbrev XC := { z : Ex × List Value // z.2.length = 7 }
theorem xc_res {w : World} : ∀ {l : List XC}, (∀ a ∈ l, RE w a.1.1 a.1.2) → REs w (l.map (·.1.1)) (l.map (·.1.2))
  | [], _ => by simp only [List.map_nil]; rw [REs]
  | a :: l, h => by
    simp only [List.map_cons]
    rw [REs]
    exact ⟨_, _, rfl, h a (by simp), xc_res fun b hb => h b (by simp [hb])⟩
theorem xc_flat (l : List XC) : (l.flatMap fun a : XC => a.1.2) = (l.map (·.1.2)).flatten := by induction l with | nil => rfl | cons a l ih => simp [ih]
theorem xc_sz (l : List XC) : (l.map fun a : XC => szE a.1.1).sum = szs (l.map (·.1.1)) := by induction l with | nil => simp [szs] | cons a l ih => simp [szs, ih]
theorem seven {cs : List Value} (h : cs.length = 7) : ∃ a b c d e f g, cs = [a, b, c, d, e, f, g] := by
  match cs, h with
  | [a, b, c, d, e, f, g], _ => exact ⟨a, b, c, d, e, f, g, rfl⟩
theorem cells_expr : Tryz.prog.cellsOf 31 = 7 := by kernel_rfl
set_option maxRecDepth 100000 in
theorem open_ex : ∀ (N : Nat) {H : Type} {en : TypeId × Value → H} {w : World} {n : Nat} {cs : List Value} {x : DataW H × List MemPlace}, DataW.trod en Tryz.prog w 0 (fun _ => true) true n 31 cs = some x → Rows.uptoBulk x.1 ≤ N →
    ∃ a : XC, cs = a.1.2 ∧ RE w a.1.1 a.1.2 ∧ szE a.1.1 ≤ Rows.uptoBulk x.1
  | 0, H, en, w, n, cs, x, h, hN => absurd (bulk_one x.1) (by omega)
  | N + 1, H, en, w, n, cs, x, hf, hN => by
    obtain ⟨ys, n', _, hx, hlen, hyl, hfl⟩ := DataW.trod_struct Tryz.underlying31 hf
    obtain ⟨c0, c1, c2, c3, c4, c5, c6, rfl⟩ := seven (hlen.trans cells_expr)
    have hy5 : ys.length = 5 := hyl
    match ys, hy5 with
    | [y0, y1, y2, y3, y4], _ =>
      have g0 : DataW.trod en Tryz.prog w 0 (fun _ => true) true n' 3 (([c0, c1, c2, c3, c4, c5, c6].drop 0).take (Tryz.prog.cellsOf 3)) = some y0 := hfl 0 _ rfl
      have g1 : DataW.trod en Tryz.prog w 0 (fun _ => true) true n' 3 (([c0, c1, c2, c3, c4, c5, c6].drop 1).take (Tryz.prog.cellsOf 3)) = some y1 := hfl 1 _ rfl
      have g2 : DataW.trod en Tryz.prog w 0 (fun _ => true) true n' 29 (([c0, c1, c2, c3, c4, c5, c6].drop 2).take (Tryz.prog.cellsOf 29)) = some y2 := hfl 2 _ rfl
      have g3 : DataW.trod en Tryz.prog w 0 (fun _ => true) true n' 9 (([c0, c1, c2, c3, c4, c5, c6].drop 5).take (Tryz.prog.cellsOf 9)) = some y3 := hfl 3 _ rfl
      have g4 : DataW.trod en Tryz.prog w 0 (fun _ => true) true n' 25 (([c0, c1, c2, c3, c4, c5, c6].drop 6).take (Tryz.prog.cellsOf 25)) = some y4 := hfl 4 _ rfl
      rw [show Tryz.prog.cellsOf 3 = 1 from by kernel_rfl] at g0 g1
      rw [show Tryz.prog.cellsOf 29 = 3 from by kernel_rfl] at g2
      rw [show Tryz.prog.cellsOf 9 = 1 from by kernel_rfl] at g3
      rw [show Tryz.prog.cellsOf 25 = 1 from by kernel_rfl] at g4
      simp only [List.drop, List.take] at g0 g1 g2 g3 g4
      obtain ⟨i0, e0, _⟩ := opnInt.2 g0
      obtain ⟨i1, e1, _⟩ := opnInt.2 g1
      obtain ⟨v, e2, hv⟩ := opnVa.2 g2
      obtain ⟨nm, e3, hnm⟩ := (Opn.str Tryz.underlying9).2 g3
      have hb4 : Rows.uptoBulk y4.1 + 1 ≤ Rows.uptoBulk x.1 := by
        rw [hx]
        simp only [Rows.uptoBulk, List.map_cons, List.map_nil, Rows.uptoBulkAll]
        omega
      obtain ⟨s, e4, hs, hsz⟩ := slice_open (k := 7) (enc := fun a : XC => a.1.2) (mem := fun w a => RE w a.1.1 a.1.2) (sz := fun a => szE a.1.1) Tryz.underlying25 cells_expr (by decide) (fun a => a.2) g4
        (fun {n'} {cs'} {y} hy hlt => open_ex N hy (by omega))
      simp only [encS, List.cons.injEq, and_true, vc] at e0 e1 e2 e3 e4
      obtain ⟨rfl, rfl, rfl⟩ := e2
      subst e0 e1 e3 e4
      obtain ⟨hl1, hl2, hl3, hl4⟩ := hs
      rw [xc_flat] at hl3
      rw [xc_sz] at hsz
      have hlen2 : (s.l.map (·.1.1)).length = s.l.length := List.length_map ..
      refine ⟨⟨(.mk i0 i1 v nm (s.l.map (·.1.1)), exc i0 i1 v nm s.A s.l.length s.c), rfl⟩, rfl, ?_, ?_⟩
      · show RE w (.mk i0 i1 v nm (s.l.map (·.1.1))) (exc i0 i1 v nm s.A s.l.length s.c)
        rw [RE]
        unfold maxLen at hv hnm hl2
        refine ⟨s.A, s.c, s.l.map (·.1.2), by rw [hlen2], by omega, by omega, by rw [hlen2]; omega, by rw [hlen2]; exact hl1, by rw [hlen2]; exact hl3, xc_res hl4⟩
      · show szE (.mk i0 i1 v nm (s.l.map (·.1.1))) ≤ _
        rw [szE]
        omega
set_option maxRecDepth 100000 in
theorem open_exp {H : Type} {en : TypeId × Value → H} {w : World} {r : Reach} {b0 : Nat} {u : Value} {d : DataW H} {p : List MemPlace}
    (hv : Value.okWide Tryz.prog w r b0 31 u) (h : DataW.Trod en Tryz.prog w 0 (fun _ => true) true 31 u d p) :
    ∃ (o i : Int) (v : Va) (nm : ByteArray) (A : Option Addr) (args : List Ex) (c : Nat) (css : List (List Value)), u = exag o i v nm A args.length c ∧ v.t.size ≤ 9223372036854775807 ∧ nm.size ≤ 9223372036854775807 ∧ args.length ≤ c ∧ Rd w 7 A args.length css.flatten ∧ REs w args css ∧ szs args + 1 ≤ Rows.uptoBulk d := by
  obtain ⟨cs, rfl, hsz⟩ := okWide_struct Tryz.underlying31 hv
  obtain ⟨fuel, hf⟩ := h
  obtain ⟨⟨⟨ex, cx⟩, hlen⟩, e, hR, hb⟩ := open_ex _ hf (Nat.le_refl _)
  obtain ⟨o, i, v, nm, args⟩ := ex
  have hR2 : RE w (.mk o i v nm args) cx := hR
  rw [RE] at hR2
  obtain ⟨A, c, css, rfl, h1, h2, h3, h4, h5, h6⟩ := hR2
  have hb2 : szE (.mk o i v nm args) ≤ Rows.uptoBulk d := hb
  rw [szE] at hb2
  have e2 : cs.toList = exc o i v nm A args.length c := e
  exact ⟨o, i, v, nm, A, args, c, css, congrArg Value.agg (Array.ext' (e2.trans rfl)), h1, h2, h4, h5, h6, hb2⟩
theorem opnIntW : Opn Tryz.prog 3 1 (fun a : Int => [.int .i64 a]) (fun _ a => -9223372036854775808 ≤ a) :=
  (Opn.int Tryz.underlying3).as (fun a => a) (fun _ => rfl) (fun _ => rfl) (fun _ a h => by
    have h1 : (decide (IntKind.i64.min ≤ a) && decide (a ≤ IntKind.i64.max)) = true := h
    rw [Bool.and_eq_true, decide_eq_true_iff, decide_eq_true_iff, show IntKind.i64.min = -9223372036854775808 from rfl] at h1
    exact h1.1)
theorem opnClause : Opn Tryz.prog 33 3 (fun a : Int × Int × Int => [.int .i64 a.1, .int .i64 a.2.1, .int .i64 a.2.2]) (fun _ a => -9223372036854775808 ≤ a.2.1 ∧ -9223372036854775808 ≤ a.2.2) :=
  (Opn.struct Tryz.underlying33 (Flds.cons opnInt rfl (by kernel_rfl) (Flds.cons opnIntW rfl (by kernel_rfl) (Flds.one opnIntW rfl (by kernel_rfl)))) (by kernel_rfl)).as (fun a => a) (fun _ => rfl) (fun _ => rfl) (fun _ _ h => h.2)
theorem opnCol : Opn Tryz.prog 60 3 colc (fun _ c => c.nm.size ≤ maxLen) :=
  (Opn.struct Tryz.underlying60 (Flds.cons (Opn.str Tryz.underlying9) rfl (by kernel_rfl) (Flds.cons opnInt rfl (by kernel_rfl) (Flds.one (Opn.bool Tryz.underlying4) rfl (by kernel_rfl)))) (by kernel_rfl)).as
    (fun a => (⟨a.1, a.2.1, a.2.2⟩ : Col)) (fun _ => rfl) (fun _ => rfl) (fun _ _ h => h.1)
theorem hic (l : List Int) : l.flatMap (fun a : Int => [Value.int .i64 a]) = ic l := by unfold ic; induction l with | nil => rfl | cons x l ih => simp [ih]
theorem ones {α : Type} (l : List α) : (l.map fun _ => 1).sum = l.length := by induction l with | nil => rfl | cons a l ih => simp [ih]; omega
theorem mem_sum {α : Type} {f : α → Nat} : ∀ {l : List α} {a : α}, a ∈ l → f a ≤ (l.map f).sum
  | b :: l, a, h => by
    simp only [List.map_cons, List.sum_cons]
    rcases List.mem_cons.1 h with rfl | h
    · omega
    · have := mem_sum (f := f) h; omega
/-- a slice of integers -/
theorem open_is {H : Type} {en : TypeId × Value → H} {w : World} {n : Nat} {cs : List Value} {x : DataW H × List MemPlace} (h : DataW.trod en Tryz.prog w 0 (fun _ => true) true n 23 cs = some x) :
    ∃ s : Sl Int, cs = [.slice s.A s.l.length s.c] ∧ Rd w 1 s.A s.l.length (ic s.l) ∧ s.l.length + 1 ≤ Rows.uptoBulk x.1 := by
  obtain ⟨s, e, h1, h2⟩ := slice_open (k := 1) (enc := fun a : Int => [.int .i64 a]) (mem := fun _ _ => True) (sz := fun _ => 1) Tryz.underlying23 (by kernel_rfl) (by decide) (fun _ => rfl) h
    (fun {n'} {cs'} {y} hy _ => by
      obtain ⟨a, ha, _⟩ := opnInt.2 hy
      exact ⟨a, ha, trivial, bulk_one _⟩)
  rw [ones] at h2
  have h3 := h1.2.2.1
  rw [hic] at h3
  exact ⟨s, e, h3, h2⟩
theorem cells_foreign : Tryz.prog.cellsOf 109 = 2 := by kernel_rfl
theorem two_ {cs : List Value} (h : cs.length = 2) : ∃ a b, cs = [a, b] := by
  match cs, h with
  | [a, b], _ => exact ⟨a, b, rfl⟩
theorem open_fo {H : Type} {en : TypeId × Value → H} {w : World} {n : Nat} {cs : List Value} {x : DataW H × List MemPlace} (hf : DataW.trod en Tryz.prog w 0 (fun _ => true) true n 109 cs = some x) :
    ∃ f : Fo, cs = foc f ∧ (f.tb.size ≤ maxLen ∧ Rd w 1 f.c.A f.c.l.length (ic f.c.l)) ∧ f.c.l.length ≤ Rows.uptoBulk x.1 := by
  obtain ⟨ys, n', _, hx, hlen, hyl, hfl⟩ := DataW.trod_struct Tryz.underlying109 hf
  obtain ⟨c0, c1, rfl⟩ := two_ (hlen.trans cells_foreign)
  have hy5 : ys.length = 2 := hyl
  match ys, hy5 with
  | [y0, y1], _ =>
    have g0 : DataW.trod en Tryz.prog w 0 (fun _ => true) true n' 23 (([c0, c1].drop 0).take (Tryz.prog.cellsOf 23)) = some y0 := hfl 0 _ rfl
    have g1 : DataW.trod en Tryz.prog w 0 (fun _ => true) true n' 9 (([c0, c1].drop 1).take (Tryz.prog.cellsOf 9)) = some y1 := hfl 1 _ rfl
    rw [show Tryz.prog.cellsOf 23 = 1 from by kernel_rfl] at g0
    rw [show Tryz.prog.cellsOf 9 = 1 from by kernel_rfl] at g1
    simp only [List.drop, List.take] at g0 g1
    obtain ⟨s, e0, h1, h2⟩ := open_is g0
    obtain ⟨tb, e1, htb⟩ := (Opn.str Tryz.underlying9).2 g1
    simp only [List.cons.injEq, and_true] at e0 e1
    subst e0 e1
    refine ⟨⟨s, tb⟩, rfl, ⟨htb, h1⟩, ?_⟩
    rw [hx]
    simp only [Rows.uptoBulk, List.map_cons, List.map_nil, Rows.uptoBulkAll]
    show s.l.length ≤ _
    omega
set_option maxRecDepth 100000 in
theorem open_tab {H : Type} {en : TypeId × Value → H} {w : World} {r : Reach} {b0 : Nat} {v : Value} {d : DataW H} {p : List MemPlace}
    (hv : Value.okWide Tryz.prog w r b0 27 v) (h : DataW.Trod en Tryz.prog w 0 (fun _ => true) true 27 v d p) (hd : Rows.uptoBulk d ≤ 1048576) :
    ∃ (s0 : ByteArray) (A1 K A3 A4 : Option Addr) (n1 m1 n2 kc n3 m3 n4 m4 : Nat) (cl : List Col) (ks : List Int) (fl : List Fo) (es : List Ex) (css : List (List Value)),
      v = .agg #[.string s0, .slice A1 n1 m1, .slice K n2 kc, .slice A3 n3 m3, .slice A4 n4 m4] ∧ s0.size ≤ 9223372036854775807 ∧ TabOk w A1 K A3 A4 n1 n2 n3 n4 cl ks fl es css := by
  obtain ⟨cs, rfl, hsz⟩ := okWide_struct Tryz.underlying27 hv
  obtain ⟨c0, c1, c2, c3, c4, rfl⟩ := five (hsz.trans cells_table)
  obtain ⟨fuel, hf⟩ := h
  obtain ⟨ys, n', _, hx, _, hyl, hfl⟩ := DataW.trod_struct Tryz.underlying27 hf
  have hy5 : ys.length = 5 := hyl
  match ys, hy5 with
  | [y0, y1, y2, y3, y4], _ =>
    have g0 : DataW.trod en Tryz.prog w 0 (fun _ => true) true n' 9 (([c0, c1, c2, c3, c4].drop 0).take (Tryz.prog.cellsOf 9)) = some y0 := hfl 0 _ rfl
    have g1 : DataW.trod en Tryz.prog w 0 (fun _ => true) true n' 22 (([c0, c1, c2, c3, c4].drop 1).take (Tryz.prog.cellsOf 22)) = some y1 := hfl 1 _ rfl
    have g2 : DataW.trod en Tryz.prog w 0 (fun _ => true) true n' 23 (([c0, c1, c2, c3, c4].drop 2).take (Tryz.prog.cellsOf 23)) = some y2 := hfl 2 _ rfl
    have g3 : DataW.trod en Tryz.prog w 0 (fun _ => true) true n' 24 (([c0, c1, c2, c3, c4].drop 3).take (Tryz.prog.cellsOf 24)) = some y3 := hfl 3 _ rfl
    have g4 : DataW.trod en Tryz.prog w 0 (fun _ => true) true n' 25 (([c0, c1, c2, c3, c4].drop 4).take (Tryz.prog.cellsOf 25)) = some y4 := hfl 4 _ rfl
    rw [show Tryz.prog.cellsOf 9 = 1 from by kernel_rfl] at g0
    rw [show Tryz.prog.cellsOf 22 = 1 from by kernel_rfl] at g1
    rw [show Tryz.prog.cellsOf 23 = 1 from by kernel_rfl] at g2
    rw [show Tryz.prog.cellsOf 24 = 1 from by kernel_rfl] at g3
    rw [show Tryz.prog.cellsOf 25 = 1 from by kernel_rfl] at g4
    simp only [List.drop, List.take] at g0 g1 g2 g3 g4
    obtain ⟨s0, e0, hs0⟩ := (Opn.str Tryz.underlying9).2 g0
    obtain ⟨cl, e1, hcl, hcb⟩ := slice_open (k := 3) (enc := colc) (mem := fun _ c => c.nm.size ≤ maxLen) (sz := fun _ => 1) Tryz.underlying22 (by kernel_rfl) (by decide) (fun _ => rfl) g1
      (fun {n'} {cs'} {y} hy _ => by
        obtain ⟨a, ha, hm⟩ := opnCol.2 hy
        exact ⟨a, ha, hm, bulk_one _⟩)
    obtain ⟨ks, e2, hks, hkb⟩ := open_is g2
    obtain ⟨fl, e3, hfo, hfb⟩ := slice_open (k := 2) (enc := foc) (mem := fun w f => f.tb.size ≤ maxLen ∧ Rd w 1 f.c.A f.c.l.length (ic f.c.l)) (sz := fun f => f.c.l.length) Tryz.underlying24 cells_foreign (by decide) (fun _ => rfl) g3
      (fun {n'} {cs'} {y} hy _ => open_fo hy)
    obtain ⟨fl2, e3b, hfo2, hfb2⟩ := slice_open (k := 2) (enc := foc) (mem := fun _ _ => True) (sz := fun _ => 1) Tryz.underlying24 cells_foreign (by decide) (fun _ => rfl) g3
      (fun {n'} {cs'} {y} hy _ => by
        obtain ⟨f, hf, _⟩ := open_fo hy
        exact ⟨f, hf, trivial, bulk_one _⟩)
    obtain ⟨xs, e4, hxs, hxb⟩ := slice_open (k := 7) (enc := fun a : XC => a.1.2) (mem := fun w a => RE w a.1.1 a.1.2) (sz := fun a => szE a.1.1) Tryz.underlying25 cells_expr (by decide) (fun a => a.2) g4
      (fun {n'} {cs'} {y} hy _ => open_ex _ hy (Nat.le_refl _))
    have hfl2 : fl2.l.length = fl.l.length := by
      have h := e3b.symm.trans e3
      simp only [encS, List.cons.injEq, Value.slice.injEq, and_true] at h
      exact h.2.1
    simp only [encS, List.cons.injEq, and_true] at e0 e1 e2 e3 e4
    subst e0 e1 e2 e3 e4
    rw [ones] at hcb hfb2
    rw [xc_sz] at hxb
    have hbs : Rows.uptoBulk y1.1 ≤ 1048576 ∧ Rows.uptoBulk y2.1 ≤ 1048576 ∧ Rows.uptoBulk y3.1 ≤ 1048576 ∧ Rows.uptoBulk y4.1 ≤ 1048576 := by
      have h1 := congrArg Prod.fst hx
      simp only at h1
      rw [h1] at hd
      simp only [Rows.uptoBulk, List.map_cons, List.map_nil, Rows.uptoBulkAll] at hd
      omega
    have hx3 := hxs.2.2.1
    rw [xc_flat] at hx3
    have hmax : maxLen = 9223372036854775807 := rfl
    refine ⟨s0, cl.A, ks.A, fl.A, xs.A, cl.l.length, cl.c, ks.l.length, ks.c, fl.l.length, fl.c, xs.l.length, xs.c, cl.l, ks.l, fl.l, xs.l.map (·.1.1), xs.l.map (·.1.2), rfl, by rw [hmax] at hs0; exact hs0, ?_⟩
    exact ⟨rfl, rfl, rfl, List.length_map .., hcl.2.2.1, hks, hfo.2.2.1, hx3, xc_res hxs.2.2.2, fun c hc => by have := hcl.2.2.2 c hc; rw [hmax] at this; exact this,
      fun f hf => ⟨by have := (hfo.2.2.2 f hf).1; rw [hmax] at this; exact this, by have := mem_sum (f := fun f : Fo => f.c.l.length) hf; omega, (hfo.2.2.2 f hf).2⟩, by omega, by omega, by omega, by omega⟩
end Go.Proofs.YtflhikpihbenaaaGreat
