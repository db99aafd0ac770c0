/- The interval tree: insert. -/
import Derived.Test.YtahmkinppighkaaItC
set_option linter.unusedSimpArgs false
set_option linter.unusedVariables false
namespace Go.Proofs.Ytahmkinppighkaa
open Go.RowKit


/-- a tree with one item more -/
structure InsP (t0 : AT) (x : It) (w : World) (en : Ending) (w' : World) (t : AT) : Prop where
  ret : en = .returned t.p
  gd : Gd w' t
  ok : t.Ok
  st : SrI t.flat
  pm : t.flat.Perm (x :: t0.flat)
  ft : ∀ k ∈ t.foot, k ∈ t0.foot ∨ w.heap.size ≤ k
  nd : t.foot.Nodup
  ch : Chg t0.foot w w'
def InsE (t0 : AT) (x : It) (w : World) (en : Ending) (w' : World) : Prop := ∃ t, InsP t0 x w en w' t
set_option maxRecDepth 100000 in
set_option maxHeartbeats 8000000 in
theorem ins_nil (x : It) (w : World) : Calls Try.prog 37 #[.pointer none, itg x] w (InsE .nil x w) := by
  go_enter Try.func37, Try.ntmps37
  go_wp2_with fail
  have g0 : Gd (((w.alloc (.cells #[.int .i64 x.1.1, .int .i64 x.1.2, .int .i64 x.2] 79))).alloc (.cells (ndc x (.pointer none) (.pointer none) 0 0) 112)) (.node (w.heap.size + 1) x .nil .nil 0 0) := by
    refine ⟨?_, trivial, trivial⟩
    have hsz : ((w.alloc (.cells #[.int .i64 x.1.1, .int .i64 x.1.2, .int .i64 x.2] 79))).heap.size = w.heap.size + 1 := Array.size_push ..
    rw [NdI, ← hsz]
    exact heap_alloc_new _ _
  have HB := Lib.hid (balance_any (w.heap.size + 1) x .nil .nil 0 0 _ g0 (by simp [AT.foot]) trivial trivial (by simp [AT.flat]))
  unfold ptI ndc at HB
  refine Calls.mono HB.out ?_
  rintro en w2 ⟨t, rfl, h2, h3, h4, h5, h6⟩
  have HT := Lib.hid (And.intro h2 (And.intro h3 (And.intro h4 (And.intro h5 h6))))
  obtain ⟨pt, hpt⟩ := p_form t
  have HPT := Lib.hid hpt
  rw [hpt]
  clear h2 h3 h4 h5 h6 HB g0 hpt
  go_wp2
  go_ret
  obtain ⟨h2, h3, h4, h5, h6⟩ := HT.out
  refine ⟨t, by rw [HPT.out]; rfl, h2, h3, ?_, ?_, ?_, h5.nodup_iff.2 (by simp [AT.foot]), ?_⟩
  · rw [h4]; simp [AT.flat, SrI]
  · rw [h4]; simp [AT.flat]
  · intro k hk
    have := (h5.mem_iff).1 hk
    simp [AT.foot] at this
    exact .inr (by omega)
  · exact (Chg.of_ext (S := (AT.foot .nil)) (show Ext w _ from by repeat (first | exact Ext.refl' _ | assumption | apply Ext.ex' | apply Ext.al | apply Ext.drN | apply Ext.dr))).tr2 h6 (by
      intro j hj
      simp [AT.foot] at hj
      exact .inr (by omega))


theorem perm_ins {α : Type} (l r : List α) (x y : α) : (l ++ y :: x :: r).Perm (x :: (l ++ y :: r)) := by
  have h1 : (l ++ y :: x :: r).Perm (l ++ x :: y :: r) := (List.Perm.swap x y r).append_left l
  exact h1.trans List.perm_middle


set_option maxRecDepth 100000 in
set_option maxHeartbeats 8000000 in
theorem insL (b : Nat) (x y : It) (l r : AT) (h e : Int) (w : World) (g : Gd w (.node b y l r h e)) (nd : (AT.foot (.node b y l r h e)).Nodup) (ol : l.Ok) (or : r.Ok) (hs : SrI (AT.flat (.node b y l r h e))) (sz : l.flat.length + r.flat.length ≤ 700000) (hc : itL x y)
    (IH : ∀ W, Ext w W → Calls Try.prog 37 #[l.p, itg x] W (InsE l x W)) :
    Calls Try.prog 37 #[ptI b, itg x] w (InsE (.node b y l r h e) x w) := by
  have ND := Lib.hid nd
  have HS := Lib.hid hs
  have HC := Lib.hid hc
  have HSZ := Lib.hid sz
  have HO := Lib.hid (And.intro ol or)
  simp only [AT.foot, List.nodup_cons, List.nodup_append, List.mem_cons, List.mem_append, not_or] at nd
  obtain ⟨kb, gl, gr⟩ := g
  have HCM := Lib.hid fun W (e : Ext w W) => ncomp_any b y x l.p r.p _ _ W (kb.ext e)
  have HKB := Lib.hid kb
  have HGl := Lib.hid gl
  have HGr := Lib.hid gr
  have HNB : Hid (b ∉ l.foot ∧ w.heap.size ∉ l.foot) := Lib.hid ⟨by grind, fun hk => by have := (gl.lt) _ hk; omega⟩
  have HIN := Lib.hid IH
  obtain ⟨pp, hpp⟩ := p_form l
  have HP := Lib.hid hpp
  obtain ⟨z, hz⟩ : ∃ z, itC y x = z := ⟨_, rfl⟩
  have hz0 : 0 < z := by
    rw [← hz]
    exact itC_gt.2 hc
  rw [hz] at HCM
  rw [hpp] at HIN
  obtain ⟨hlt0, -, -, -, cb3, cb4, -, -, -, -, -, -⟩ := kb.f
  rw [hpp] at cb3
  clear nd hs hc sz ol or kb gl gr IH hpp hz
  unfold ptI at *
  go_enter Try.func37, Try.ntmps37
  go_wp2_with fail
  refine (HCM.out _ (by repeat (first | exact Ext.refl' _ | assumption | apply Ext.ex' | apply Ext.al | apply Ext.drN | apply Ext.dr))).mono ?_
  rintro en1 w1 ⟨rfl, hb1⟩
  obtain ⟨x1, rfl⟩ := hb1.get
  clear hb1 HCM
  go_wp2_with fail
  refine wp_region_T 9 (S := (fun w' => w'.cell? ⟨b, 3, none⟩ = some (.pointer pp) ∧ w'.cell? ⟨w.heap.size, 0, none⟩ = some (.int .i64 x.1.1) ∧ w'.cell? ⟨w.heap.size, 1, none⟩ = some (.int .i64 x.1.2) ∧ w'.cell? ⟨w.heap.size, 2, none⟩ = some (.int .i64 x.2))) (by kernel_rfl) (by simp [go_sem, ↓IntWalk.iteOmega, *]) (fun hHeld => ?_)
  refine wpAnyT_take (i := 0) (oi := ?oi101) (v := ?v101) ?hi101 (by kernel_rfl) (by kernel_rfl) (by kernel_rfl) (by kernel_rfl) (by kernel_rfl) ?hQ101 ?hy101 (by assumption) ?_
  case hi101 => (simp only [List.getElem?_toArray, List.getElem?_cons_succ, List.getElem?_cons_zero]; try rfl)
  case hQ101 => exact fun _ _ _ h => h
  case hy101 => (refine Or.inl ⟨by rfl, ?_⟩; intro wq hSw; (try dsimp only at hSw); go_simp; (try with_reducible rfl))
  (try simp only [Act.put, List.setIfInBounds_toArray, List.set_cons_zero, List.set_cons_succ])
  refine wpAnyT_take (i := 1) (oi := ?oi102) (v := ?v102) ?hi102 (by kernel_rfl) (by kernel_rfl) (by kernel_rfl) (by kernel_rfl) (by kernel_rfl) ?hQ102 ?hy102 (by assumption) ?_
  case hi102 => (simp only [List.getElem?_toArray, List.getElem?_cons_succ, List.getElem?_cons_zero]; try rfl)
  case hQ102 => exact fun _ _ _ h => h
  case hy102 => (refine Or.inl ⟨by rfl, ?_⟩; intro wq hSw; (try dsimp only at hSw); go_simp; (try with_reducible rfl))
  (try simp only [Act.put, List.setIfInBounds_toArray, List.set_cons_zero, List.set_cons_succ])
  refine wpAnyT_take (i := 2) (oi := ?oi103) (v := ?v103) ?hi103 (by kernel_rfl) (by kernel_rfl) (by kernel_rfl) (by kernel_rfl) (by kernel_rfl) ?hQ103 ?hy103 (by assumption) ?_
  case hi103 => (simp only [List.getElem?_toArray, List.getElem?_cons_succ, List.getElem?_cons_zero]; try rfl)
  case hQ103 => exact fun _ _ _ h => h
  case hy103 => (refine Or.inl ⟨by rfl, ?_⟩; intro wq hSw; (try dsimp only at hSw); go_simp; (try with_reducible rfl))
  (try simp only [Act.put, List.setIfInBounds_toArray, List.set_cons_zero, List.set_cons_succ])
  refine wpAnyT_take (i := 3) (oi := ?oi104) (v := ?v104) ?hi104 (by kernel_rfl) (by kernel_rfl) (by kernel_rfl) (by kernel_rfl) (by kernel_rfl) ?hQ104 ?hy104 (by assumption) ?_
  case hi104 => (simp only [List.getElem?_toArray, List.getElem?_cons_succ, List.getElem?_cons_zero]; try rfl)
  case hQ104 => exact fun _ _ _ h => h
  case hy104 => (refine Or.inl ⟨by rfl, ?_⟩; intro wq hSw; (try dsimp only at hSw); go_simp; (try with_reducible rfl))
  (try simp only [Act.put, List.setIfInBounds_toArray, List.set_cons_zero, List.set_cons_succ])
  refine wpAnyT_take (i := 4) (oi := ?oi105) (v := ?v105) ?hi105 (by kernel_rfl) (by kernel_rfl) (by kernel_rfl) (by kernel_rfl) (by kernel_rfl) ?hQ105 ?hy105 (by assumption) ?_
  case hi105 => (simp only [List.getElem?_toArray, List.getElem?_cons_succ, List.getElem?_cons_zero]; try rfl)
  case hQ105 => exact fun _ _ _ h => h
  case hy105 => (refine Or.inl ⟨by rfl, ?_⟩; intro wq hSw; (try dsimp only at hSw); go_simp; (try with_reducible rfl))
  (try simp only [Act.put, List.setIfInBounds_toArray, List.set_cons_zero, List.set_cons_succ])
  refine wpAnyT_take (i := 5) (oi := ?oi106) (v := ?v106) ?hi106 (by kernel_rfl) (by kernel_rfl) (by kernel_rfl) (by kernel_rfl) (by kernel_rfl) ?hQ106 ?hy106 (by assumption) ?_
  case hi106 => (simp only [List.getElem?_toArray, List.getElem?_cons_succ, List.getElem?_cons_zero]; try rfl)
  case hQ106 => exact fun _ _ _ h => h
  case hy106 => (refine Or.inl ⟨by rfl, ?_⟩; intro wq hSw; (try dsimp only at hSw); go_simp; (try with_reducible rfl))
  (try simp only [Act.put, List.setIfInBounds_toArray, List.set_cons_zero, List.set_cons_succ])
  refine wpAnyT_ready (rs := [6]) (by kernel_rfl) (by simp) ?_
  refine AllReadyT.cons (o := ?oi107) ?hi107 ?ti107 AllReadyT.nil
  case hi107 => (simp only [List.getElem?_toArray, List.getElem?_cons_succ, List.getElem?_cons_zero]; try rfl)
  case ti107 =>
    intro KQ hKQ
    go_simp
    go_at_call 37
    refine Calls.mono (HIN.out _ (by repeat (first | exact Ext.refl' _ | assumption | apply Ext.ex' | apply Ext.al | apply Ext.drN | apply Ext.dr))) ?_
    rintro en2 w2 ⟨s2, rfl, i2, i3, i4, i5, i6, i7, i8⟩
    have kb2 := (HKB.out.ext (show Ext w (ext (w.alloc (.cells #[.int .i64 x.1.1, .int .i64 x.1.2, .int .i64 x.2] 79)) x1).drew from by repeat (first | exact Ext.refl' _ | assumption | apply Ext.ex' | apply Ext.al | apply Ext.drN | apply Ext.dr))).chg i8 HNB.out.1
    obtain ⟨hlt2, -, -, -, cb3', cb4', -, -, fb3', fb4', -, -⟩ := kb2.f
    have d0 : w2.cell? ⟨w.heap.size, 0, none⟩ = some (.int .i64 x.1.1) := (World.cell?_of_block (i8.same _ (by simp [size_ext]; omega) HNB.out.2)).trans (by simp [go_sem, ↓IntWalk.iteOmega])
    have d1 : w2.cell? ⟨w.heap.size, 1, none⟩ = some (.int .i64 x.1.2) := (World.cell?_of_block (i8.same _ (by simp [size_ext]; omega) HNB.out.2)).trans (by simp [go_sem, ↓IntWalk.iteOmega])
    have d2 : w2.cell? ⟨w.heap.size, 2, none⟩ = some (.int .i64 x.2) := (World.cell?_of_block (i8.same _ (by simp [size_ext]; omega) HNB.out.2)).trans (by simp [go_sem, ↓IntWalk.iteOmega])
    obtain ⟨w3, s3, k3, g3⟩ := kb2.set3 s2.p
    have HI := Lib.hid (And.intro i2 (And.intro i3 (And.intro i4 (And.intro i5 (And.intro i6 (And.intro i7 i8))))))
    have HK3 := Lib.hid (And.intro k3 g3)
    obtain ⟨ps, hps⟩ := p_form s2
    have HPS := Lib.hid hps
    rw [hps] at s3 ⊢
    rw [HP.out] at cb3'
    clear i2 i3 i4 i5 i6 i7 i8 kb2 k3 g3 hps
    refine hKQ.out _ _ (by simp [go_sem, ↓IntWalk.iteOmega, *]) (fun hHeld2 => ?_)
    clear hHeld hKQ KQ; have hHeld := hHeld2; clear hHeld2
    (try simp only [Act.put, List.setIfInBounds_toArray, List.set_cons_zero, List.set_cons_succ])
    refine wpAnyT_take (i := 7) (oi := ?oi108) (v := ?v108) ?hi108 (by kernel_rfl) (by kernel_rfl) (by kernel_rfl) (by kernel_rfl) (by kernel_rfl) ?hQ108 ?hy108 (by assumption) ?_
    case hi108 => (simp only [List.getElem?_toArray, List.getElem?_cons_succ, List.getElem?_cons_zero]; try rfl)
    case hQ108 => exact fun _ _ _ h => h
    case hy108 => (refine Or.inl ⟨by rfl, ?_⟩; intro wq hSw; (try dsimp only at hSw); go_simp; (try with_reducible rfl))
    (try simp only [Act.put, List.setIfInBounds_toArray, List.set_cons_zero, List.set_cons_succ])
    refine wpAnyT_take (i := 8) (oi := ?oi109) (v := ?v109) ?hi109 (by kernel_rfl) (by kernel_rfl) (by kernel_rfl) (by kernel_rfl) (by kernel_rfl) ?hQ109 ?hy109 (by assumption) ?_
    case hi109 => (simp only [List.getElem?_toArray, List.getElem?_cons_succ, List.getElem?_cons_zero]; try rfl)
    case hQ109 => exact fun _ _ _ h => h
    case hy109 => (refine Or.inl ⟨by rfl, ?_⟩; intro wq hSw; (try dsimp only at hSw); go_simp; (try with_reducible rfl))
    (try simp only [Act.put, List.setIfInBounds_toArray, List.set_cons_zero, List.set_cons_succ])
    refine wpAnyT_ready (rs := [9]) (by kernel_rfl) (by simp) ?_
    refine AllReadyT.last (o := ?oi110) ?hi110 ?ti110
    case hi110 => (simp only [List.getElem?_toArray, List.getElem?_cons_succ, List.getElem?_cons_zero]; try rfl)
    case ti110 =>
      intro KQ hKQ
      go_simp
      (repeat (simp only [go_sem, ↓IntWalk.iteOmega, ↓reduceIte, Bool.false_eq_true]; (try go_simp)))
      refine hKQ.out _ _ ?_
      clear hKQ KQ hHeld
      (try simp only [Act.put, List.setIfInBounds_toArray, List.set_cons_zero, List.set_cons_succ])
      refine wpAnyT_done (by kernel_rfl) ?_ _
      go_wp2_with fail
      obtain ⟨i2, i3, i4, i5, i6, i7, i8⟩ := HI.out
      obtain ⟨k3, g3⟩ := HK3.out
      have hE1 : Ext w (ext (w.alloc (.cells #[.int .i64 x.1.1, .int .i64 x.1.2, .int .i64 x.2] 79)) x1).drew := by repeat (first | exact Ext.refl' _ | assumption | apply Ext.ex' | apply Ext.al | apply Ext.drN | apply Ext.dr)
      have hlen := i5.length_eq
      have nds := ND.out
      simp only [AT.foot, List.nodup_cons, List.nodup_append, List.mem_cons, List.mem_append, not_or] at nds
      have hlts : ∀ k ∈ AT.foot r, k < w.heap.size := HGr.out.lt
      have hltb := HKB.out.f.lt
      have hsz1 : w.heap.size ≤ (ext (w.alloc (.cells #[.int .i64 x.1.1, .int .i64 x.1.2, .int .i64 x.2] 79)) x1).drew.heap.size := hE1.size
      have gs3 := i2.chg g3 (by
        intro k hk hq
        simp at hq
        subst hq
        rcases i6 k hk with h | h
        · grind
        · omega)
      have gt3 : Gd w3 r := ((HGr.out.ext hE1).chg i8 (by grind)).chg g3 (by
        intro k hk hq
        simp at hq
        subst hq
        grind)
      have g2 : Gd w3 (.node b y s2 r h e) := ⟨k3, gs3, gt3⟩
      have nd2 : (AT.foot (.node b y s2 r h e)).Nodup := by
        simp only [AT.foot, List.nodup_cons, List.nodup_append, List.mem_append, not_or]
        refine ⟨⟨?_, ?_⟩, i7, nds.2.2.1, ?_⟩
        · intro h; rcases i6 b h with h | h; exact nds.1.1 h; omega
        · exact nds.1.2
        · intro u hu v hv
          rintro rfl
          rcases i6 u hu with h | h
          · exact nds.2.2.2 u h u hv rfl
          · have := hlts u hv; omega
      have HN2 := Lib.hid nd2
      have HBA := Lib.hid (balance_any b y s2 r h e w3 g2 nd2 i3 HO.out.2 (by have := HSZ.out; simp only [List.length_cons] at hlen; omega))
      have HCH : Hid (Chg (AT.foot (.node b y l r h e)) w w3) := Lib.hid (((Chg.of_ext hE1).tr (i8.mono (by simp [AT.foot]; grind))).tr (g3.mono (by simp [AT.foot])))
      have HFT2 : Hid (∀ k ∈ AT.foot (.node b y s2 r h e), k ∈ AT.foot (.node b y l r h e) ∨ w.heap.size ≤ k) := Lib.hid (by
        intro k hk
        simp only [AT.foot, List.mem_cons, List.mem_append] at hk ⊢
        rcases hk with hk | hk | hk
        · exact .inl (.inl hk)
        · rcases i6 k hk with h | h
          · exact .inl (.inr (.inl h))
          · exact .inr (Nat.le_trans hsz1 h)
        · exact .inl (.inr (.inr hk))
          skip
          skip)
      have HFL : Hid (SrI (AT.flat (.node b y s2 r h e)) ∧ (AT.flat (.node b y s2 r h e)).Perm (x :: AT.flat (.node b y l r h e))) := Lib.hid (by
        obtain ⟨m1, m2, m3, m4⟩ := SrI.mid HS.out
        constructor
        · refine SrI.mk i4 m2 ?_ m4
          intro z hz
          rcases List.mem_cons.1 (i5.mem_iff.1 hz) with rfl | hz
          · exact HC.out
          · exact m3 z hz
        · simp only [AT.flat]
          exact (i5.append_right _).trans (by simp))
      clear i2 i3 i4 i5 i6 i7 i8 k3 g3 hlen nds hlts gs3 gt3 g2 nd2
      unfold ptI at HBA
      refine Calls.mono HBA.out ?_
      rintro en3 w4 ⟨tt, rfl, b2, b3, b4, b5, b6⟩
      have HT := Lib.hid (And.intro b2 (And.intro b3 (And.intro b4 (And.intro b5 b6))))
      obtain ⟨pt, hpt⟩ := p_form tt
      have HPT := Lib.hid hpt
      rw [hpt]
      clear b2 b3 b4 b5 b6 HBA hpt
      go_wp2
      go_ret
      obtain ⟨b2, b3, b4, b5, b6⟩ := HT.out
      refine ⟨tt, by rw [HPT.out]; rfl, b2, b3, by rw [b4]; exact HFL.out.1, by rw [b4]; exact HFL.out.2, fun k hk => HFT2.out k (b5.mem_iff.1 hk), ?_, HCH.out.tr2 b6 HFT2.out⟩
      exact b5.nodup_iff.2 HN2.out


set_option maxRecDepth 100000 in
set_option maxHeartbeats 8000000 in
theorem insR (b : Nat) (x y : It) (l r : AT) (h e : Int) (w : World) (g : Gd w (.node b y l r h e)) (nd : (AT.foot (.node b y l r h e)).Nodup) (ol : l.Ok) (or : r.Ok) (hs : SrI (AT.flat (.node b y l r h e))) (sz : l.flat.length + r.flat.length ≤ 700000) (hc : itL y x)
    (IH : ∀ W, Ext w W → Calls Try.prog 37 #[r.p, itg x] W (InsE r x W)) :
    Calls Try.prog 37 #[ptI b, itg x] w (InsE (.node b y l r h e) x w) := by
  have ND := Lib.hid nd
  have HS := Lib.hid hs
  have HC := Lib.hid hc
  have HSZ := Lib.hid sz
  have HO := Lib.hid (And.intro ol or)
  simp only [AT.foot, List.nodup_cons, List.nodup_append, List.mem_cons, List.mem_append, not_or] at nd
  obtain ⟨kb, gl, gr⟩ := g
  have HCM := Lib.hid fun W (e : Ext w W) => ncomp_any b y x l.p r.p _ _ W (kb.ext e)
  have HKB := Lib.hid kb
  have HGl := Lib.hid gl
  have HGr := Lib.hid gr
  have HNB : Hid (b ∉ r.foot ∧ w.heap.size ∉ r.foot) := Lib.hid ⟨by grind, fun hk => by have := (gr.lt) _ hk; omega⟩
  have HIN := Lib.hid IH
  obtain ⟨pp, hpp⟩ := p_form r
  have HP := Lib.hid hpp
  obtain ⟨z, hz⟩ : ∃ z, itC y x = z := ⟨_, rfl⟩
  have hz0 : ¬ 0 < z := by
    rw [← hz]
    have := itC_lt.2 hc; omega
  rw [hz] at HCM
  rw [hpp] at HIN
  obtain ⟨hlt0, -, -, -, cb3, cb4, -, -, -, -, -, -⟩ := kb.f
  rw [hpp] at cb4
  clear nd hs hc sz ol or kb gl gr IH hpp hz
  unfold ptI at *
  go_enter Try.func37, Try.ntmps37
  go_wp2_with fail
  refine (HCM.out _ (by repeat (first | exact Ext.refl' _ | assumption | apply Ext.ex' | apply Ext.al | apply Ext.drN | apply Ext.dr))).mono ?_
  rintro en1 w1 ⟨rfl, hb1⟩
  obtain ⟨x1, rfl⟩ := hb1.get
  clear hb1 HCM
  go_wp2_with fail
  refine wp_region_T 9 (S := (fun w' => w'.cell? ⟨b, 4, none⟩ = some (.pointer pp) ∧ w'.cell? ⟨w.heap.size, 0, none⟩ = some (.int .i64 x.1.1) ∧ w'.cell? ⟨w.heap.size, 1, none⟩ = some (.int .i64 x.1.2) ∧ w'.cell? ⟨w.heap.size, 2, none⟩ = some (.int .i64 x.2))) (by kernel_rfl) (by simp [go_sem, ↓IntWalk.iteOmega, *]) (fun hHeld => ?_)
  refine wpAnyT_take (i := 0) (oi := ?oi101) (v := ?v101) ?hi101 (by kernel_rfl) (by kernel_rfl) (by kernel_rfl) (by kernel_rfl) (by kernel_rfl) ?hQ101 ?hy101 (by assumption) ?_
  case hi101 => (simp only [List.getElem?_toArray, List.getElem?_cons_succ, List.getElem?_cons_zero]; try rfl)
  case hQ101 => exact fun _ _ _ h => h
  case hy101 => (refine Or.inl ⟨by rfl, ?_⟩; intro wq hSw; (try dsimp only at hSw); go_simp; (try with_reducible rfl))
  (try simp only [Act.put, List.setIfInBounds_toArray, List.set_cons_zero, List.set_cons_succ])
  refine wpAnyT_take (i := 1) (oi := ?oi102) (v := ?v102) ?hi102 (by kernel_rfl) (by kernel_rfl) (by kernel_rfl) (by kernel_rfl) (by kernel_rfl) ?hQ102 ?hy102 (by assumption) ?_
  case hi102 => (simp only [List.getElem?_toArray, List.getElem?_cons_succ, List.getElem?_cons_zero]; try rfl)
  case hQ102 => exact fun _ _ _ h => h
  case hy102 => (refine Or.inl ⟨by rfl, ?_⟩; intro wq hSw; (try dsimp only at hSw); go_simp; (try with_reducible rfl))
  (try simp only [Act.put, List.setIfInBounds_toArray, List.set_cons_zero, List.set_cons_succ])
  refine wpAnyT_take (i := 2) (oi := ?oi103) (v := ?v103) ?hi103 (by kernel_rfl) (by kernel_rfl) (by kernel_rfl) (by kernel_rfl) (by kernel_rfl) ?hQ103 ?hy103 (by assumption) ?_
  case hi103 => (simp only [List.getElem?_toArray, List.getElem?_cons_succ, List.getElem?_cons_zero]; try rfl)
  case hQ103 => exact fun _ _ _ h => h
  case hy103 => (refine Or.inl ⟨by rfl, ?_⟩; intro wq hSw; (try dsimp only at hSw); go_simp; (try with_reducible rfl))
  (try simp only [Act.put, List.setIfInBounds_toArray, List.set_cons_zero, List.set_cons_succ])
  refine wpAnyT_take (i := 3) (oi := ?oi104) (v := ?v104) ?hi104 (by kernel_rfl) (by kernel_rfl) (by kernel_rfl) (by kernel_rfl) (by kernel_rfl) ?hQ104 ?hy104 (by assumption) ?_
  case hi104 => (simp only [List.getElem?_toArray, List.getElem?_cons_succ, List.getElem?_cons_zero]; try rfl)
  case hQ104 => exact fun _ _ _ h => h
  case hy104 => (refine Or.inl ⟨by rfl, ?_⟩; intro wq hSw; (try dsimp only at hSw); go_simp; (try with_reducible rfl))
  (try simp only [Act.put, List.setIfInBounds_toArray, List.set_cons_zero, List.set_cons_succ])
  refine wpAnyT_take (i := 4) (oi := ?oi105) (v := ?v105) ?hi105 (by kernel_rfl) (by kernel_rfl) (by kernel_rfl) (by kernel_rfl) (by kernel_rfl) ?hQ105 ?hy105 (by assumption) ?_
  case hi105 => (simp only [List.getElem?_toArray, List.getElem?_cons_succ, List.getElem?_cons_zero]; try rfl)
  case hQ105 => exact fun _ _ _ h => h
  case hy105 => (refine Or.inl ⟨by rfl, ?_⟩; intro wq hSw; (try dsimp only at hSw); go_simp; (try with_reducible rfl))
  (try simp only [Act.put, List.setIfInBounds_toArray, List.set_cons_zero, List.set_cons_succ])
  refine wpAnyT_take (i := 5) (oi := ?oi106) (v := ?v106) ?hi106 (by kernel_rfl) (by kernel_rfl) (by kernel_rfl) (by kernel_rfl) (by kernel_rfl) ?hQ106 ?hy106 (by assumption) ?_
  case hi106 => (simp only [List.getElem?_toArray, List.getElem?_cons_succ, List.getElem?_cons_zero]; try rfl)
  case hQ106 => exact fun _ _ _ h => h
  case hy106 => (refine Or.inl ⟨by rfl, ?_⟩; intro wq hSw; (try dsimp only at hSw); go_simp; (try with_reducible rfl))
  (try simp only [Act.put, List.setIfInBounds_toArray, List.set_cons_zero, List.set_cons_succ])
  refine wpAnyT_ready (rs := [6]) (by kernel_rfl) (by simp) ?_
  refine AllReadyT.cons (o := ?oi107) ?hi107 ?ti107 AllReadyT.nil
  case hi107 => (simp only [List.getElem?_toArray, List.getElem?_cons_succ, List.getElem?_cons_zero]; try rfl)
  case ti107 =>
    intro KQ hKQ
    go_simp
    go_at_call 37
    refine Calls.mono (HIN.out _ (by repeat (first | exact Ext.refl' _ | assumption | apply Ext.ex' | apply Ext.al | apply Ext.drN | apply Ext.dr))) ?_
    rintro en2 w2 ⟨s2, rfl, i2, i3, i4, i5, i6, i7, i8⟩
    have kb2 := (HKB.out.ext (show Ext w (ext (w.alloc (.cells #[.int .i64 x.1.1, .int .i64 x.1.2, .int .i64 x.2] 79)) x1).drew from by repeat (first | exact Ext.refl' _ | assumption | apply Ext.ex' | apply Ext.al | apply Ext.drN | apply Ext.dr))).chg i8 HNB.out.1
    obtain ⟨hlt2, -, -, -, cb3', cb4', -, -, fb3', fb4', -, -⟩ := kb2.f
    have d0 : w2.cell? ⟨w.heap.size, 0, none⟩ = some (.int .i64 x.1.1) := (World.cell?_of_block (i8.same _ (by simp [size_ext]; omega) HNB.out.2)).trans (by simp [go_sem, ↓IntWalk.iteOmega])
    have d1 : w2.cell? ⟨w.heap.size, 1, none⟩ = some (.int .i64 x.1.2) := (World.cell?_of_block (i8.same _ (by simp [size_ext]; omega) HNB.out.2)).trans (by simp [go_sem, ↓IntWalk.iteOmega])
    have d2 : w2.cell? ⟨w.heap.size, 2, none⟩ = some (.int .i64 x.2) := (World.cell?_of_block (i8.same _ (by simp [size_ext]; omega) HNB.out.2)).trans (by simp [go_sem, ↓IntWalk.iteOmega])
    obtain ⟨w3, s3, k3, g3⟩ := kb2.set4 s2.p
    have HI := Lib.hid (And.intro i2 (And.intro i3 (And.intro i4 (And.intro i5 (And.intro i6 (And.intro i7 i8))))))
    have HK3 := Lib.hid (And.intro k3 g3)
    obtain ⟨ps, hps⟩ := p_form s2
    have HPS := Lib.hid hps
    rw [hps] at s3 ⊢
    rw [HP.out] at cb4'
    clear i2 i3 i4 i5 i6 i7 i8 kb2 k3 g3 hps
    refine hKQ.out _ _ (by simp [go_sem, ↓IntWalk.iteOmega, *]) (fun hHeld2 => ?_)
    clear hHeld hKQ KQ; have hHeld := hHeld2; clear hHeld2
    (try simp only [Act.put, List.setIfInBounds_toArray, List.set_cons_zero, List.set_cons_succ])
    refine wpAnyT_take (i := 7) (oi := ?oi108) (v := ?v108) ?hi108 (by kernel_rfl) (by kernel_rfl) (by kernel_rfl) (by kernel_rfl) (by kernel_rfl) ?hQ108 ?hy108 (by assumption) ?_
    case hi108 => (simp only [List.getElem?_toArray, List.getElem?_cons_succ, List.getElem?_cons_zero]; try rfl)
    case hQ108 => exact fun _ _ _ h => h
    case hy108 => (refine Or.inl ⟨by rfl, ?_⟩; intro wq hSw; (try dsimp only at hSw); go_simp; (try with_reducible rfl))
    (try simp only [Act.put, List.setIfInBounds_toArray, List.set_cons_zero, List.set_cons_succ])
    refine wpAnyT_take (i := 8) (oi := ?oi109) (v := ?v109) ?hi109 (by kernel_rfl) (by kernel_rfl) (by kernel_rfl) (by kernel_rfl) (by kernel_rfl) ?hQ109 ?hy109 (by assumption) ?_
    case hi109 => (simp only [List.getElem?_toArray, List.getElem?_cons_succ, List.getElem?_cons_zero]; try rfl)
    case hQ109 => exact fun _ _ _ h => h
    case hy109 => (refine Or.inl ⟨by rfl, ?_⟩; intro wq hSw; (try dsimp only at hSw); go_simp; (try with_reducible rfl))
    (try simp only [Act.put, List.setIfInBounds_toArray, List.set_cons_zero, List.set_cons_succ])
    refine wpAnyT_ready (rs := [9]) (by kernel_rfl) (by simp) ?_
    refine AllReadyT.last (o := ?oi110) ?hi110 ?ti110
    case hi110 => (simp only [List.getElem?_toArray, List.getElem?_cons_succ, List.getElem?_cons_zero]; try rfl)
    case ti110 =>
      intro KQ hKQ
      go_simp
      (repeat (simp only [go_sem, ↓IntWalk.iteOmega, ↓reduceIte, Bool.false_eq_true]; (try go_simp)))
      refine hKQ.out _ _ ?_
      clear hKQ KQ hHeld
      (try simp only [Act.put, List.setIfInBounds_toArray, List.set_cons_zero, List.set_cons_succ])
      refine wpAnyT_done (by kernel_rfl) ?_ _
      go_wp2_with fail
      obtain ⟨i2, i3, i4, i5, i6, i7, i8⟩ := HI.out
      obtain ⟨k3, g3⟩ := HK3.out
      have hE1 : Ext w (ext (w.alloc (.cells #[.int .i64 x.1.1, .int .i64 x.1.2, .int .i64 x.2] 79)) x1).drew := by repeat (first | exact Ext.refl' _ | assumption | apply Ext.ex' | apply Ext.al | apply Ext.drN | apply Ext.dr)
      have hlen := i5.length_eq
      have nds := ND.out
      simp only [AT.foot, List.nodup_cons, List.nodup_append, List.mem_cons, List.mem_append, not_or] at nds
      have hlts : ∀ k ∈ AT.foot l, k < w.heap.size := HGl.out.lt
      have hltb := HKB.out.f.lt
      have hsz1 : w.heap.size ≤ (ext (w.alloc (.cells #[.int .i64 x.1.1, .int .i64 x.1.2, .int .i64 x.2] 79)) x1).drew.heap.size := hE1.size
      have gs3 := i2.chg g3 (by
        intro k hk hq
        simp at hq
        subst hq
        rcases i6 k hk with h | h
        · grind
        · omega)
      have gt3 : Gd w3 l := ((HGl.out.ext hE1).chg i8 (by grind)).chg g3 (by
        intro k hk hq
        simp at hq
        subst hq
        grind)
      have g2 : Gd w3 (.node b y l s2 h e) := ⟨k3, gt3, gs3⟩
      have nd2 : (AT.foot (.node b y l s2 h e)).Nodup := by
        simp only [AT.foot, List.nodup_cons, List.nodup_append, List.mem_append, not_or]
        refine ⟨⟨?_, ?_⟩, nds.2.1, i7, ?_⟩
        · exact nds.1.1
        · intro h; rcases i6 b h with h | h; exact nds.1.2 h; omega
        · intro u hu v hv
          rintro rfl
          rcases i6 u hv with h | h
          · exact nds.2.2.2 u hu u h rfl
          · have := hlts u hu; omega
      have HN2 := Lib.hid nd2
      have HBA := Lib.hid (balance_any b y l s2 h e w3 g2 nd2 HO.out.1 i3 (by have := HSZ.out; simp only [List.length_cons] at hlen; omega))
      have HCH : Hid (Chg (AT.foot (.node b y l r h e)) w w3) := Lib.hid (((Chg.of_ext hE1).tr (i8.mono (by simp [AT.foot]; grind))).tr (g3.mono (by simp [AT.foot])))
      have HFT2 : Hid (∀ k ∈ AT.foot (.node b y l s2 h e), k ∈ AT.foot (.node b y l r h e) ∨ w.heap.size ≤ k) := Lib.hid (by
        intro k hk
        simp only [AT.foot, List.mem_cons, List.mem_append] at hk ⊢
        rcases hk with hk | hk | hk
        · exact .inl (.inl hk)
        · exact .inl (.inr (.inl hk))
          skip
          skip
        · rcases i6 k hk with h | h
          · exact .inl (.inr (.inr h))
          · exact .inr (Nat.le_trans hsz1 h))
      have HFL : Hid (SrI (AT.flat (.node b y l s2 h e)) ∧ (AT.flat (.node b y l s2 h e)).Perm (x :: AT.flat (.node b y l r h e))) := Lib.hid (by
        obtain ⟨m1, m2, m3, m4⟩ := SrI.mid HS.out
        constructor
        · refine SrI.mk m1 i4 m3 ?_
          intro z hz
          rcases List.mem_cons.1 (i5.mem_iff.1 hz) with rfl | hz
          · exact HC.out
          · exact m4 z hz
        · simp only [AT.flat]
          exact ((i5.cons y).append_left l.flat).trans (perm_ins l.flat r.flat x y))
      clear i2 i3 i4 i5 i6 i7 i8 k3 g3 hlen nds hlts gs3 gt3 g2 nd2
      unfold ptI at HBA
      refine Calls.mono HBA.out ?_
      rintro en3 w4 ⟨tt, rfl, b2, b3, b4, b5, b6⟩
      have HT := Lib.hid (And.intro b2 (And.intro b3 (And.intro b4 (And.intro b5 b6))))
      obtain ⟨pt, hpt⟩ := p_form tt
      have HPT := Lib.hid hpt
      rw [hpt]
      clear b2 b3 b4 b5 b6 HBA hpt
      go_wp2
      go_ret
      obtain ⟨b2, b3, b4, b5, b6⟩ := HT.out
      refine ⟨tt, by rw [HPT.out]; rfl, b2, b3, by rw [b4]; exact HFL.out.1, by rw [b4]; exact HFL.out.2, fun k hk => HFT2.out k (b5.mem_iff.1 hk), ?_, HCH.out.tr2 b6 HFT2.out⟩
      exact b5.nodup_iff.2 HN2.out


theorem insert_any (x : It) : ∀ (t : AT) (w : World), Gd w t → t.foot.Nodup → t.Ok → SrI t.flat → x ∉ t.flat → t.flat.length ≤ 700000 → Calls Try.prog 37 #[t.p, itg x] w (InsE t x w)
  | .nil, w, _, _, _, _, _, _ => ins_nil x w
  | .node b y l r h e, w, g, nd, ok, hs, hx, sz => by
    have nd' := nd
    simp only [AT.foot, List.nodup_cons, List.nodup_append] at nd'
    simp only [AT.flat, List.mem_append, List.mem_cons, not_or] at hx
    have sz' := sz
    simp only [AT.flat, List.length_append, List.length_cons] at sz'
    obtain ⟨s1, s2, _, _⟩ := SrI.mid (show SrI (l.flat ++ y :: r.flat) from hs)
    rcases itL_tri x y with hl | rfl | hl
    · exact insL b x y l r h e w g nd ok.1 ok.2.1 hs (by omega) hl fun W E => insert_any x l W (g.2.1.ext E) nd'.2.1 ok.1 s1 hx.1 (by omega)
    · exact absurd rfl hx.2.1
    · exact insR b x y l r h e w g nd ok.1 ok.2.1 hs (by omega) hl fun W E => insert_any x r W (g.2.2.ext E) nd'.2.2.1 ok.2.1 s2 hx.2.2 (by omega)

end Go.Proofs.Ytahmkinppighkaa
