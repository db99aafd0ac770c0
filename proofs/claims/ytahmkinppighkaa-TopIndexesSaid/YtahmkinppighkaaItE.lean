/- The interval tree: New, Len, has, Add. -/
import Derived.Test.YtahmkinppighkaaItD
import Derived.Test.YtahmkinppighkaaSpA
import Derived.WalkMore
set_option linter.unusedSimpArgs false
set_option linter.unusedVariables false
namespace Go.Proofs.Ytahmkinppighkaa
open Go.RowKit


/-- a set of periods in memory: the struct tb, its tree t; all beyond the base -/
structure ITr (w : World) (base tb : Nat) (t : AT) : Prop where
  tr : w.heap[tb]? = some (.cells #[t.p, .int .i64 (t.flat.length : Nat)] 77 (0, 0))
  gd : Gd w t
  nd : t.foot.Nodup
  ok : t.Ok
  st : SrI t.flat
  nt : tb ∉ t.foot
  hb : base ≤ tb
  hf : ∀ k ∈ t.foot, base ≤ k
theorem ITr.c {w : World} {base tb : Nat} {t : AT} (h : ITr w base tb t) : tb < w.heap.size ∧ w.cell? ⟨tb, 0, none⟩ = some t.p ∧ w.cell? ⟨tb, 1, none⟩ = some (.int .i64 (t.flat.length : Nat)) ∧ w.frozen? ⟨tb, 0, none⟩ = false ∧ w.frozen? ⟨tb, 1, none⟩ = false := by
  have k' := h.tr
  refine ⟨(Array.getElem?_eq_some_iff.1 k').1, ?_, ?_, ?_, ?_⟩ <;> simp [World.cell?, World.frozen?, k']
theorem ITr.ext {w w' : World} {base tb : Nat} {t : AT} (h : ITr w base tb t) (e : Ext w w') : ITr w' base tb t :=
  ⟨(e.block tb h.c.1).trans h.tr, h.gd.ext e, h.nd, h.ok, h.st, h.nt, h.hb, h.hf⟩
@[go_sem] theorem neq_nilI (w : World) : (binOp .neq 75 (.pointer none) (.pointer none)).run Try.prog w = .ok (.bool false) w := by
  have h := run_equal_pointer_nil (P := Try.prog) w 75 none (by kernel_rfl)
  simp [binOp, h]
@[go_sem] theorem neq_ptrI (w : World) (b : Nat) : (binOp .neq 75 (.pointer (some ⟨b, 0, none⟩)) (.pointer none)).run Try.prog w = .ok (.bool true) w := by
  have h := run_equal_pointer_nil (P := Try.prog) w 75 (some ⟨b, 0, none⟩) (by kernel_rfl)
  simp [binOp, h]
def NewE (w : World) (en : Ending) (w' : World) : Prop := en = .returned (.pointer (some ⟨w.heap.size, 0, none⟩)) ∧ ITr w' w.heap.size w.heap.size .nil ∧ Ext w w'
set_option maxRecDepth 100000 in
set_option maxHeartbeats 8000000 in
theorem new_any (w : World) : Calls Try.prog 14 #[] w (NewE w) := by
  have h0 : ITr (w.alloc (.cells #[.pointer none, .int .i64 0] 77)) w.heap.size w.heap.size .nil :=
    ⟨heap_alloc_new _ _, trivial, by simp [AT.foot], trivial, by simp [AT.flat, SrI], by simp [AT.foot], Nat.le_refl _, by simp [AT.foot]⟩
  have H0 := Lib.hid h0
  clear h0
  go_enter Try.func14, Try.ntmps14
  go_wp2
  go_ret
  exact ⟨rfl, H0.out, by repeat (first | exact Ext.refl' _ | assumption | apply Ext.ex' | apply Ext.al | apply Ext.drN | apply Ext.dr)⟩
set_option maxRecDepth 100000 in
set_option maxHeartbeats 8000000 in
theorem ilen_any (w : World) (base tb : Nat) (t : AT) (h : ITr w base tb t) : Calls Try.prog 16 #[ptI tb] w fun en w' => en = .returned (.int .i64 (t.flat.length : Nat)) ∧ w' = w := by
  obtain ⟨h1, h2, h3, -, -⟩ := h.c
  clear h
  generalize t.flat.length = n at h3 ⊢
  unfold ptI
  go_enter Try.func16, Try.ntmps16
  go_wp2
  go_ret
  exact ⟨rfl, rfl⟩
set_option maxRecDepth 100000 in
set_option maxHeartbeats 8000000 in
theorem has_no (x : It) (w : World) (base tb : Nat) (t : AT) (h : ITr w base tb t) (hx : x ∉ t.flat) : Calls Try.prog 36 #[ptI tb, itg x] w fun en w' => en = .returned (.bool false) ∧ Ext w w' := by
  obtain ⟨h1, h2, -, -, -⟩ := h.c
  have HT := Lib.hid h
  have HX := Lib.hid hx
  obtain ⟨tp, htp⟩ := p_form t
  have HP := Lib.hid htp
  rw [htp] at h2
  clear h hx htp
  unfold ptI
  unfold itg
  go_enter Try.func36, Try.ntmps36
  go_wp2
  go_step3
  go_hide hQ
  go_wp2_with fail
  go_step3
  go_wp2_with fail
  go_loopg [5] t.flat.length (fun g q wr => ∃ (s : AT) (a : Option Addr), q = .pointer a ∧ s.p = .pointer a ∧ Gd w s ∧ SrI s.flat ∧ x ∉ s.flat ∧ s.flat.length ≤ g ∧ Ext (w.alloc (.cells #[.int .i64 x.1.1, .int .i64 x.1.2, .int .i64 x.2] 79)) wr)
  case atStart => exact ⟨t, tp, rfl, HP.out, HT.out.gd, HT.out.st, HX.out, Nat.le_refl _, by repeat (first | exact Ext.refl' _ | assumption | apply Ext.ex' | apply Ext.al | apply Ext.drN | apply Ext.dr)⟩
  case round =>
    obtain ⟨s, a, hq, ha, hg, hs, hxs, hn, hE⟩ := hrel
    subst hq
    obtain ⟨x1, rfl⟩ := hE.get
    clear hE
    cases s with
    | nil =>
      have ha : Value.pointer none = Value.pointer a := ha
      injection ha with ha
      subst ha
      clear hg hs hxs hn
      go_wp2
      subst hQ
      rw [Exit.noGoto_ret]
      go_ret
      exact ⟨rfl, by repeat (first | exact Ext.refl' _ | assumption | apply Ext.ex' | apply Ext.al | apply Ext.drN | apply Ext.dr)⟩
    | node b y l r h e =>
      have ha : Value.pointer (some ⟨b, 0, none⟩) = Value.pointer a := ha
      injection ha with ha
      subst ha
      have HG := Lib.hid hg
      have HS := Lib.hid hs
      have HXS := Lib.hid hxs
      have HN := Lib.hid hn
      have HCM := Lib.hid fun W (e : Ext w W) => ncomp_any b y x l.p r.p _ _ W (HG.out.1.ext e)
      obtain ⟨hlt, -, -, -, c3, c4, -, -, -, -, -, -⟩ := hg.1.f
      obtain ⟨pl, hpl⟩ := p_form l
      obtain ⟨pr_, hpr⟩ := p_form r
      have HPL := Lib.hid hpl
      have HPR := Lib.hid hpr
      rw [hpl] at c3
      rw [hpr] at c4
      clear hg hs hxs hn hpl hpr
      unfold ptI itg at HCM
      rcases itL_tri x y with hl | hl | hl
      · have hz := itC_gt.2 hl
        have HL := Lib.hid hl
        generalize itC y x = z at hz HCM
        clear hl
        go_wp2_with fail
        refine (HCM.out _ (by repeat (first | exact Ext.refl' _ | assumption | apply Ext.ex' | apply Ext.al | apply Ext.drN | apply Ext.dr))).mono ?_
        rintro en1 w1 ⟨rfl, hb1⟩
        obtain ⟨x2, rfl⟩ := hb1.get
        clear hb1 HCM
        go_wp2
        go_roundg (gk - 1)
        case rel =>
          obtain ⟨s1, s2, s3, s4⟩ := SrI.mid (show SrI (l.flat ++ y :: r.flat) from HS.out)
          have hxs := HXS.out
          have hn := HN.out
          simp only [AT.flat, List.mem_append, List.mem_cons, not_or, List.length_append, List.length_cons] at hxs hn
          exact ⟨l, pl, rfl, HPL.out, HG.out.2.1, s1, hxs.1, by omega, by repeat (first | exact Ext.refl' _ | assumption | apply Ext.ex' | apply Ext.al | apply Ext.drN | apply Ext.dr)⟩
        case measure =>
          have hn := HN.out
          simp only [AT.flat, List.length_append, List.length_cons] at hn
          omega
      · exfalso
        have hxs := HXS.out
        simp only [AT.flat, List.mem_append, List.mem_cons, not_or] at hxs
        exact hxs.2.1 hl
      · have hz := itC_lt.2 hl
        have hz2 : ¬ 0 < itC y x := by omega
        generalize itC y x = z at hz hz2 HCM
        clear hl
        go_wp2_with fail
        refine (HCM.out _ (by repeat (first | exact Ext.refl' _ | assumption | apply Ext.ex' | apply Ext.al | apply Ext.drN | apply Ext.dr))).mono ?_
        rintro en1 w1 ⟨rfl, hb1⟩
        obtain ⟨x2, rfl⟩ := hb1.get
        clear hb1 HCM
        go_wp2
        go_roundg (gk - 1)
        case rel =>
          obtain ⟨s1, s2, s3, s4⟩ := SrI.mid (show SrI (l.flat ++ y :: r.flat) from HS.out)
          have hxs := HXS.out
          have hn := HN.out
          simp only [AT.flat, List.mem_append, List.mem_cons, not_or, List.length_append, List.length_cons] at hxs hn
          exact ⟨r, pr_, rfl, HPR.out, HG.out.2.2, s2, hxs.2.2, by omega, by repeat (first | exact Ext.refl' _ | assumption | apply Ext.ex' | apply Ext.al | apply Ext.drN | apply Ext.dr)⟩
        case measure =>
          have hn := HN.out
          simp only [AT.flat, List.length_append, List.length_cons] at hn
          omega


theorem Tr.set {w : World} {b : Nat} {C : Array Value} (k : w.heap[b]? = some (.cells C 77 (0, 0))) (i : Nat) (u : Value) : ∃ w', w.setCell ⟨b, i, none⟩ u = w' ∧ w'.heap[b]? = some (.cells (C.setIfInBounds i u) 77 (0, 0)) ∧ Chg [b] w w' := by
  refine ⟨_, rfl, ?_, ?_⟩
  · rw [setCell_eq_setRow w b i _ 77 (0, 0) _ k]
    exact setRow_heap w b _ _ 77 (0, 0) k
  · rw [setCell_eq_setRow w b i _ 77 (0, 0) _ k]
    exact ⟨rfl, rfl, rfl, by simp [World.setRow], fun j _ hj => setRow_other w b j _ (by simpa using hj)⟩
/-- one item more -/
def AddE (w : World) (base tb : Nat) (t : AT) (x : It) (en : Ending) (w' : World) : Prop := en = .returned (.bool true) ∧ ∃ t', ITr w' base tb t' ∧ t'.flat.Perm (x :: t.flat) ∧ ∀ W0, Ext W0 w → base = W0.heap.size → Ext W0 w'
set_option maxRecDepth 100000 in
set_option maxHeartbeats 8000000 in
theorem add_any (p : Int × Int) (i : Int) (w : World) (base tb : Nat) (t : AT) (h : ITr w base tb t) (hp : pvB p = true) (hx : (p, i) ∉ t.flat) (sz : t.flat.length ≤ 600000) : Calls Try.prog 15 #[ptI tb, .agg #[.int .i64 p.1, .int .i64 p.2], .int .i64 i] w (AddE w base tb t (p, i)) := by
  have HV := Lib.hid fun W => pvalid_any p W
  rw [hp] at HV
  have HH := Lib.hid fun W (e : Ext w W) => has_no (p, i) W base tb t (h.ext e) hx
  have HIN := Lib.hid fun W (e : Ext w W) => insert_any (p, i) t W (h.gd.ext e) h.nd h.ok h.st hx (by omega)
  have HT := Lib.hid h
  obtain ⟨h1, h2, h3, h4, h5⟩ := h.c
  have HNB : Hid (w.heap.size + 1 ∉ t.foot) := Lib.hid fun hk => by have := h.gd.lt _ hk; omega
  obtain ⟨tp, htp⟩ := p_form t
  have HP := Lib.hid htp
  rw [htp] at h2 HIN
  have hw : wrap64 ((t.flat.length : Int) + 1) = (t.flat.length : Int) + 1 := IntWalk.wrap64_in _ ⟨by omega, by omega⟩
  clear h hx htp hp
  unfold ptI at *
  unfold itg at *
  go_enter Try.func15, Try.ntmps15
  go_wp2_with fail
  refine (HV.out _).mono ?_
  rintro en1 w1 ⟨rfl, hb1⟩
  obtain ⟨x1, rfl⟩ := hb1.get
  clear hb1 HV
  go_wp2_with fail
  refine (HH.out _ (by repeat (first | exact Ext.refl' _ | assumption | apply Ext.ex' | apply Ext.al | apply Ext.drN | apply Ext.dr))).mono ?_
  rintro en1 w1 ⟨rfl, hb1⟩
  obtain ⟨x2, rfl⟩ := hb1.get
  clear hb1 HH
  go_wp2_with fail
  refine wp_region_T 9 (S := (fun w' => w'.cell? ⟨tb, 0, none⟩ = some (.pointer tp) ∧ w'.cell? ⟨w.heap.size + 1, 0, none⟩ = some (.int .i64 p.1) ∧ w'.cell? ⟨w.heap.size + 1, 1, none⟩ = some (.int .i64 p.2) ∧ w'.cell? ⟨w.heap.size + 1, 2, none⟩ = some (.int .i64 i))) (by kernel_rfl) (by simp [go_sem, ↓IntWalk.iteOmega, *]) (fun hHeld => ?_)
  refine wpAnyT_take (i := 0) (oi := ?oi101) (v := ?v101) ?hi101 (by kernel_rfl) (by kernel_rfl) (by kernel_rfl) (by kernel_rfl) (by kernel_rfl) ?hQ101 ?hy101 (by assumption) ?_
  case hi101 => (simp only [List.getElem?_toArray, List.getElem?_cons_succ, List.getElem?_cons_zero]; try rfl)
  case hQ101 => exact fun _ _ _ h => h
  case hy101 => (refine Or.inl ⟨by rfl, ?_⟩; intro wq hSw; (try dsimp only at hSw); go_simp; (try with_reducible rfl))
  (try simp only [Act.put, List.setIfInBounds_toArray, List.set_cons_zero, List.set_cons_succ])
  refine wpAnyT_take (i := 1) (oi := ?oi102) (v := ?v102) ?hi102 (by kernel_rfl) (by kernel_rfl) (by kernel_rfl) (by kernel_rfl) (by kernel_rfl) ?hQ102 ?hy102 (by assumption) ?_
  case hi102 => (simp only [List.getElem?_toArray, List.getElem?_cons_succ, List.getElem?_cons_zero]; try rfl)
  case hQ102 => exact fun _ _ _ h => h
  case hy102 => (refine Or.inl ⟨by rfl, ?_⟩; intro wq hSw; (try dsimp only at hSw); go_simp; (try with_reducible rfl))
  (try simp only [Act.put, List.setIfInBounds_toArray, List.set_cons_zero, List.set_cons_succ])
  refine wpAnyT_take (i := 2) (oi := ?oi103) (v := ?v103) ?hi103 (by kernel_rfl) (by kernel_rfl) (by kernel_rfl) (by kernel_rfl) (by kernel_rfl) ?hQ103 ?hy103 (by assumption) ?_
  case hi103 => (simp only [List.getElem?_toArray, List.getElem?_cons_succ, List.getElem?_cons_zero]; try rfl)
  case hQ103 => exact fun _ _ _ h => h
  case hy103 => (refine Or.inl ⟨by rfl, ?_⟩; intro wq hSw; (try dsimp only at hSw); go_simp; (try with_reducible rfl))
  (try simp only [Act.put, List.setIfInBounds_toArray, List.set_cons_zero, List.set_cons_succ])
  refine wpAnyT_take (i := 3) (oi := ?oi104) (v := ?v104) ?hi104 (by kernel_rfl) (by kernel_rfl) (by kernel_rfl) (by kernel_rfl) (by kernel_rfl) ?hQ104 ?hy104 (by assumption) ?_
  case hi104 => (simp only [List.getElem?_toArray, List.getElem?_cons_succ, List.getElem?_cons_zero]; try rfl)
  case hQ104 => exact fun _ _ _ h => h
  case hy104 => (refine Or.inl ⟨by rfl, ?_⟩; intro wq hSw; (try dsimp only at hSw); go_simp; (try with_reducible rfl))
  (try simp only [Act.put, List.setIfInBounds_toArray, List.set_cons_zero, List.set_cons_succ])
  refine wpAnyT_take (i := 4) (oi := ?oi105) (v := ?v105) ?hi105 (by kernel_rfl) (by kernel_rfl) (by kernel_rfl) (by kernel_rfl) (by kernel_rfl) ?hQ105 ?hy105 (by assumption) ?_
  case hi105 => (simp only [List.getElem?_toArray, List.getElem?_cons_succ, List.getElem?_cons_zero]; try rfl)
  case hQ105 => exact fun _ _ _ h => h
  case hy105 => (refine Or.inl ⟨by rfl, ?_⟩; intro wq hSw; (try dsimp only at hSw); go_simp; (try with_reducible rfl))
  (try simp only [Act.put, List.setIfInBounds_toArray, List.set_cons_zero, List.set_cons_succ])
  refine wpAnyT_take (i := 5) (oi := ?oi106) (v := ?v106) ?hi106 (by kernel_rfl) (by kernel_rfl) (by kernel_rfl) (by kernel_rfl) (by kernel_rfl) ?hQ106 ?hy106 (by assumption) ?_
  case hi106 => (simp only [List.getElem?_toArray, List.getElem?_cons_succ, List.getElem?_cons_zero]; try rfl)
  case hQ106 => exact fun _ _ _ h => h
  case hy106 => (refine Or.inl ⟨by rfl, ?_⟩; intro wq hSw; (try dsimp only at hSw); go_simp; (try with_reducible rfl))
  (try simp only [Act.put, List.setIfInBounds_toArray, List.set_cons_zero, List.set_cons_succ])
  refine wpAnyT_ready (rs := [6]) (by kernel_rfl) (by simp) ?_
  refine AllReadyT.cons (o := ?oi107) ?hi107 ?ti107 AllReadyT.nil
  case hi107 => (simp only [List.getElem?_toArray, List.getElem?_cons_succ, List.getElem?_cons_zero]; try rfl)
  case ti107 =>
    intro KQ hKQ
    go_simp
    go_at_call 37
    refine Calls.mono (HIN.out _ (by repeat (first | exact Ext.refl' _ | assumption | apply Ext.ex' | apply Ext.al | apply Ext.drN | apply Ext.dr))) ?_
    rintro en2 w2 ⟨s2, rfl, i2, i3, i4, i5, i6, i7, i8⟩
    have hE5 : Ext w (ext (ext ((w.alloc (.cells #[.int .i64 p.1, .int .i64 p.2] 41)).alloc (.cells #[.int .i64 p.1, .int .i64 p.2, .int .i64 i] 79)) x1) x2).drew := by repeat (first | exact Ext.refl' _ | assumption | apply Ext.ex' | apply Ext.al | apply Ext.drN | apply Ext.dr)
    have kt2 : w2.heap[tb]? = some (.cells #[t.p, .int .i64 (t.flat.length : Nat)] 77 (0, 0)) := (i8.same tb (Nat.lt_of_lt_of_le HT.out.c.1 hE5.size) HT.out.nt).trans ((hE5.block tb HT.out.c.1).trans HT.out.tr)
    have hlt2 : tb < w2.heap.size := (Array.getElem?_eq_some_iff.1 kt2).1
    have d0 : w2.cell? ⟨tb, 0, none⟩ = some (.pointer tp) := by rw [← HP.out]; simp [World.cell?, kt2]
    have e0 : w2.frozen? ⟨tb, 0, none⟩ = false := by simp [World.frozen?, kt2]
    have d1 : w2.cell? ⟨w.heap.size + 1, 0, none⟩ = some (.int .i64 p.1) := (World.cell?_of_block (i8.same _ (by simp [size_ext]; omega) HNB.out)).trans (by simp [go_sem, ↓IntWalk.iteOmega])
    have d2 : w2.cell? ⟨w.heap.size + 1, 1, none⟩ = some (.int .i64 p.2) := (World.cell?_of_block (i8.same _ (by simp [size_ext]; omega) HNB.out)).trans (by simp [go_sem, ↓IntWalk.iteOmega])
    have d3 : w2.cell? ⟨w.heap.size + 1, 2, none⟩ = some (.int .i64 i) := (World.cell?_of_block (i8.same _ (by simp [size_ext]; omega) HNB.out)).trans (by simp [go_sem, ↓IntWalk.iteOmega])
    obtain ⟨w3, s3, k3, g3⟩ := Tr.set kt2 0 s2.p
    have k3 : w3.heap[tb]? = some (.cells #[s2.p, .int .i64 (t.flat.length : Nat)] 77 (0, 0)) := k3
    obtain ⟨w4, s4, k4, g4⟩ := Tr.set k3 1 (.int .i64 ((t.flat.length : Int) + 1))
    have k4 : w4.heap[tb]? = some (.cells #[s2.p, .int .i64 ((t.flat.length : Int) + 1)] 77 (0, 0)) := k4
    have hlt3 : tb < w3.heap.size := (Array.getElem?_eq_some_iff.1 k3).1
    have d4 : w3.cell? ⟨tb, 1, none⟩ = some (.int .i64 (t.flat.length : Nat)) := by simp [World.cell?, k3]
    have e1 : w3.frozen? ⟨tb, 1, none⟩ = false := by simp [World.frozen?, k3]
    have HI := Lib.hid (And.intro i2 (And.intro i3 (And.intro i4 (And.intro i5 (And.intro i6 (And.intro i7 i8))))))
    have HK := Lib.hid (And.intro k4 (g3.tr g4))
    obtain ⟨ps, hps⟩ := p_form s2
    rw [hps] at s3 ⊢
    clear i2 i3 i4 i5 i6 i7 i8 kt2 k3 k4 g3 g4 hps hE5
    refine hKQ.out _ _ (by simp [go_sem, ↓IntWalk.iteOmega, *]) (fun hHeld2 => ?_)
    clear hHeld hKQ KQ; have hHeld := hHeld2; clear hHeld2
    (try simp only [Act.put, List.setIfInBounds_toArray, List.set_cons_zero, List.set_cons_succ])
    refine wpAnyT_take (i := 7) (oi := ?oi108) (v := ?v108) ?hi108 (by kernel_rfl) (by kernel_rfl) (by kernel_rfl) (by kernel_rfl) (by kernel_rfl) ?hQ108 ?hy108 (by assumption) ?_
    case hi108 => (simp only [List.getElem?_toArray, List.getElem?_cons_succ, List.getElem?_cons_zero]; try rfl)
    case hQ108 => exact fun _ _ _ h => h
    case hy108 => (refine Or.inl ⟨by rfl, ?_⟩; intro wq hSw; (try dsimp only at hSw); go_simp; (try with_reducible rfl))
    (try simp only [Act.put, List.setIfInBounds_toArray, List.set_cons_zero, List.set_cons_succ])
    refine wpAnyT_take (i := 8) (oi := ?oi109) (v := ?v109) ?hi109 (by kernel_rfl) (by kernel_rfl) (by kernel_rfl) (by kernel_rfl) (by kernel_rfl) ?hQ109 ?hy109 (by assumption) ?_
    case hi109 => (simp only [List.getElem?_toArray, List.getElem?_cons_succ, List.getElem?_cons_zero]; try rfl)
    case hQ109 => exact fun _ _ _ h => h
    case hy109 => (refine Or.inl ⟨by rfl, ?_⟩; intro wq hSw; (try dsimp only at hSw); go_simp; (try with_reducible rfl))
    (try simp only [Act.put, List.setIfInBounds_toArray, List.set_cons_zero, List.set_cons_succ])
    refine wpAnyT_ready (rs := [9]) (by kernel_rfl) (by simp) ?_
    refine AllReadyT.last (o := ?oi110) ?hi110 ?ti110
    case hi110 => (simp only [List.getElem?_toArray, List.getElem?_cons_succ, List.getElem?_cons_zero]; try rfl)
    case ti110 =>
      intro KQ hKQ
      go_simp
      (repeat (simp only [go_sem, ↓IntWalk.iteOmega, ↓reduceIte, Bool.false_eq_true]; (try go_simp)))
      refine hKQ.out _ _ ?_
      clear hKQ KQ hHeld
      (try simp only [Act.put, List.setIfInBounds_toArray, List.set_cons_zero, List.set_cons_succ])
      refine wpAnyT_done (by kernel_rfl) ?_ _
      go_wp2
      go_ret
      obtain ⟨i2, i3, i4, i5, i6, i7, i8⟩ := HI.out
      obtain ⟨k4, g34⟩ := HK.out
      have hE5 : Ext w (ext (ext ((w.alloc (.cells #[.int .i64 p.1, .int .i64 p.2] 41)).alloc (.cells #[.int .i64 p.1, .int .i64 p.2, .int .i64 i] 79)) x1) x2).drew := by repeat (first | exact Ext.refl' _ | assumption | apply Ext.ex' | apply Ext.al | apply Ext.drN | apply Ext.dr)
      have ht := HT.out
      have hlen := i5.length_eq
      simp only [List.length_cons] at hlen
      have hnt : tb ∉ s2.foot := fun hk => by
        rcases i6 tb hk with h | h
        · exact ht.nt h
        · have := ht.c.1; have := hE5.size; omega
      have hbb : base ≤ w.heap.size := Nat.le_trans ht.hb (Nat.le_of_lt ht.c.1)
      refine ⟨rfl, s2, ⟨?_, i2.chg g34 (by intro k hk hq; simp at hq; subst hq; exact hnt hk), i7, i3, i4, hnt, ht.hb, fun k hk => ?_⟩, i5, fun W0 hW hB => ?_⟩
      · rw [k4, hlen]; rfl
      · rcases i6 k hk with h | h
        · exact ht.hf k h
        · have := hE5.size; omega
      · have e1 : Ext W0 w2 := i8.toExt (hW.tr hE5) (fun j hj => by rw [← hB]; exact ht.hf j hj)
        exact g34.toExt e1 (fun j hj => by simp at hj; subst hj; rw [← hB]; exact ht.hb)

end Go.Proofs.Ytahmkinppighkaa
