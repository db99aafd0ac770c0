/- Lemmas for the rows: AcD AcI AcJ. -/
import Derived.Test.YtdiaecgpjgdkdaaGreatThS42
import Derived.Deep.LoopGhost
import Derived.StillTailTactics
import Derived.Test.YtdiaecgpjgdkdaaGreatThS05
import Derived.Test.YtdiaecgpjgdkdaaGreatThS07
set_option linter.unusedSimpArgs false
set_option linter.unusedVariables false
namespace Go.Proofs.YtdiaecgpjgdkdaaGreat
open Go.RowKit Go.Shelf

attribute [local go_sem] Oper.semAt_some

theorem blk7 (wr : World) (c : Array Value) (t : TypeId) : (wr.alloc (.cells c t)).drew.heap[wr.heap.size]? = some (.cells c t (0, 0)) := heap_alloc_new wr _
theorem nw_start (w : World) (tc : Array Value) (x1 : Add) (hi : ITr (ext (w.alloc (.cells tc 27)) x1) (w.alloc (.cells tc 27)).heap.size (w.alloc (.cells tc 27)).heap.size .nil) (W2 : World)
  (hW : ((ext (w.alloc (.cells tc 27)) x1).alloc (.cells #[.slice none 0 0, .pointer none, pt (w.heap.size + 1), .slice none 0 0] 54)).alloc (.cells #[pt (w.heap.size + 1 + x1.n)] 30) = W2) :
  Ext w W2 ∧ W2.heap[w.heap.size]? = some (.cells tc 27 (0, 0)) ∧ W2.heap[w.heap.size + 1 + x1.n + 1]? = some (.cells #[pt (w.heap.size + 1 + x1.n)] 30 (0, 0)) ∧
   W2.heap[w.heap.size + 1 + x1.n]? = some (.cells #[.slice none 0 0, .pointer none, pt (w.heap.size + 1), .slice none 0 0] 54 (0, 0)) ∧ ITr W2 w.heap.size (w.heap.size + 1) .nil := by
 have hs1 : (ext (w.alloc (.cells tc 27)) x1).heap.size = w.heap.size + 1 + x1.n := by simp [size_ext]
 have e1 : Ext (w.alloc (.cells tc 27)) W2 := by rw [← hW]; exact (ex_)
 have e2 : Ext (ext (w.alloc (.cells tc 27)) x1) W2 := by rw [← hW]; exact (ex_)
 refine ⟨(Ext.al1 w _).tr e1, (e1.block _ (by simp)).trans (heap_alloc_new _ _), ?_, ?_, ?_⟩
 ·
  rw [← hW]
  have := heap_alloc_new ((ext (w.alloc (.cells tc 27)) x1).alloc (.cells #[.slice none 0 0, .pointer none, pt (w.heap.size + 1), .slice none 0 0] 54)) (.cells #[pt (w.heap.size + 1 + x1.n)] 30)
  rwa [World.size_alloc, hs1] at this
 ·
  rw [← hW]
  have := heap_alloc_new (ext (w.alloc (.cells tc 27)) x1) (.cells #[.slice none 0 0, .pointer none, pt (w.heap.size + 1), .slice none 0 0] 54)
  rw [hs1] at this
  exact ((Ext.al1 _ _).block _ (by rw [World.size_alloc, hs1]; omega)).trans this
 ·
  have := (hi.ext e2)
  rw [World.size_alloc] at this
  exact this.low (by omega)
theorem nw_two {w W2 C : World} {tc : Array Value} {tbl vr xb ib tb : Nat} (hE : Ext w W2) (hT : W2.heap[tbl]? = some (.cells tc 27 (0, 0))) (hV : W2.heap[vr]? = some (.cells #[pt xb] 30 (0, 0))) (hX : W2.heap[xb]? = some (.cells #[.slice none 0 0, .pointer none, pt ib, .slice none 0 0] 54 (0, 0))) (hI : ITr W2 w.heap.size ib .nil)
  (l1 : w.heap.size ≤ tbl) (l2 : w.heap.size ≤ vr) (l3 : w.heap.size ≤ xb) (e : Ext W2 C) (hk : TK w.heap.size C tb 8 []) : NwA w (C.setCell ⟨xb, 1, none⟩ (pt tb)) tc tbl vr xb ib tb none 0 0 [] [] .nil (.slice none 0 0) [] := by
 have b := fun (i : Nat) (c : Array Value) (ty : TypeId) (f : Nat × Nat) (h : W2.heap[i]? = some (.cells c ty f)) => (e.block i (Array.getElem?_eq_some_iff.1 h).1).trans h
 have hX1 := b _ _ _ _ hX
 have k2 : Kt (fun ty => ty ≠ 54) C (C.setCell ⟨xb, 1, none⟩ (pt tb)) := Kt.ofSet hX1
 have e2 : Ext w (C.setCell ⟨xb, 1, none⟩ (pt tb)) := Ext.st (hE.tr e) l3 _
 refine ⟨e2, k2.blk _ _ _ _ (b _ _ _ _ hT) (by decide), k2.blk _ _ _ _ (b _ _ _ _ hV) (by decide), set_heap hX1 1 _, l1, l2, l3, World.ownsRow_nil _ _ _ _, VsX.nil _, hk.kt k2 (fun ty ht => by rcases ht with rfl | rfl | rfl | rfl <;> decide) (by decide) fun i hi _ => (e2.block i hi).trans ((hE.tr e).block i hi).symm, (hI.ext e).kt k2 (fun ty ht => by rcases ht with rfl | rfl <;> decide), World.ownsRow_nil _ _ _ _⟩

set_option maxRecDepth 100000 in
set_option maxHeartbeats 8000000 in
theorem new49_any (s0 : ByteArray) (a1 a3 a4 K : Option Addr) (n1 m1 n3 m3 n4 m4 kc : Nat) (ks : List Int) (VL : Option Addr) (n vc : Nat) (vs : List VeA) (w : World) (hK : Rd w 1 K ks.length (ic ks)) (nk : ks.length ≤ 1048576) (hvl : vs.length = n) (hV : Rd w 9 VL n (vs.flatMap encVe)) (hok : VsN w vs) (hn2 : n ≤ 200) (hpv : ∀ p ∈ vs, pvB p.v = true ∧ pvB p.s = true) (hvv : ∀ p ∈ vs, ∀ v ∈ p.row.l, vvB v = true) :
  Calls Tryz.prog 9 #[.agg #[.string s0, .slice a1 n1 m1, .slice K ks.length kc, .slice a3 n3 m3, .slice a4 n4 m4], .slice VL n vc] w fun e w' => ∃ xb S, e = .returned (pt xb) ∧ IxM w' xb ks S ∧ S.map vcO = srtC (vs.map vcO) ∧ Ext w w' := by
 have HK := Lib.hid hK
 have HVL := Lib.hid hvl
 have HV := Lib.hid hV
 have HOK := Lib.hid hok
 have HPV := Lib.hid hpv
 have HVV := Lib.hid hvv
 clear hK hvl hV hok hpv hvv
 refine (callsIn_wide (n := 9)).1 ?_
 refine callsIn_of_wp_marks Tryz.func9 rfl trivial ?_ rfl
 simp only [Tryz.ntmps9, List.size_toArray, List.length_cons, List.length_nil, Nat.reduceAdd, Nat.reduceSub, Array.replicate_succ, Array.replicate_zero, List.push_toArray, List.append_toArray, List.nil_append, List.cons_append]
 refine wpIn_wide.2 ?_
 go_wp2_with (go_at_call 21; refine Calls.mono (new_any _) ?_; rintro e w1 ⟨rfl, hit, hb1⟩; obtain ⟨x1, rfl⟩ := hb1.get; have HIT := Lib.hid hit; clear hit hb1)
 obtain ⟨W2, hW2⟩ : ∃ W2, ((ext (w.alloc (.cells #[.string s0, .slice a1 n1 m1, .slice K ks.length kc, .slice a3 n3 m3, .slice a4 n4 m4] 27)) x1).alloc (.cells #[.slice none 0 0, .pointer none, pt (w.heap.size + 1), .slice none 0 0] 54)).alloc (.cells #[pt (w.heap.size + 1 + x1.n)] 30) = W2 := ⟨_, rfl⟩
 obtain ⟨hE2, hT2, hV2, hX2, hI2⟩ := nw_start w _ x1 HIT.out W2 hW2
 rw [hW2]
 clear hW2 HIT
 obtain ⟨xb, hxb⟩ : ∃ xb, w.heap.size + 1 + x1.n = xb := ⟨_, rfl⟩
 have l3 : w.heap.size ≤ xb := by omega
 rw [hxb] at hV2 hX2 ⊢
 clear hxb
 have HT2 := Lib.hid hT2
 have HV2 := Lib.hid hV2
 have HX2 := Lib.hid hX2
 have HI2 := Lib.hid hI2
 have HE2 := Lib.hid hE2
 have lv := (Array.getElem?_eq_some_iff.1 hV2).1
 have lx := (Array.getElem?_eq_some_iff.1 hX2).1
 have cv : W2.cell? ⟨xb + 1, 0, none⟩ = some (pt xb) := by simp [World.cell?, hV2]
 have c1x : W2.cell? ⟨xb, 1, none⟩ = some (.pointer none) := by simp [World.cell?, hX2]
 have cf : W2.frozen? ⟨xb, 1, none⟩ = false := by simp [World.frozen?, hX2]
 have HBN := Lib.hid fun W (e : Ext W2 W) => new_k w.heap.size 8 W (by decide) (by decide) (Nat.le_trans hE2.size e.size)
 clear hT2 hV2 hX2 hI2 hE2
 refine wp_noexit ?_
 refine wp_region_held_drew (S := (fun w' => w'.cell? ⟨xb + 1, 0, none⟩ = some (pt xb))) (by kernel_rfl) (by simp [go_sem, ↓IntWalk.iteOmega, *]) (fun hHeld => ?_)
 refine tkH 0 ?oi1 (?v1) ?hi1 ?hy1 ?_
 case hi1 => (simp only [gA, gS, gZ]; try rfl)
 case hy1 => (refine Or.inl ⟨by rfl, ?_⟩; intro wq hSw; (try dsimp only at hSw); go_simp; (try with_reducible rfl))
 (try simp only [Act.put, pA, pZ, pS])
 refine wpAnyH_ready (rs := [1]) (by kernel_rfl) (by simp) ?_
 refine AllReadyH.cons (o := ?oi2) ?hi2 ?ti2 AllReadyH.nil
 case hi2 => (simp only [gA, gS, gZ]; try rfl)
 case ti2 =>
  intro KQ hKQ
  go_simp
  go_at_call 22
  refine Calls.mono (HBN.out _ (ex_)) ?_
  rintro e w3 ⟨tb, rfl, htk, hb3⟩
  obtain ⟨x3, rfl⟩ := hb3.get
  have HTK := Lib.hid htk
  clear hb3 htk
  refine hKQ.out _ _ (by simp [go_sem, ↓IntWalk.iteOmega, *]) (fun hHeld2 => ?_)
  clear hHeld hKQ KQ; have hHeld := hHeld2; clear hHeld2
  (try simp only [Act.put, pA, pZ, pS])
  refine tkH 2 ?oi3 (?v3) ?hi3 ?hy3 ?_
  case hi3 => (simp only [gA, gS, gZ]; try rfl)
  case hy3 => (refine Or.inl ⟨by rfl, ?_⟩; intro wq hSw; (try dsimp only at hSw); go_simp; (try with_reducible rfl))
  (try simp only [Act.put, pA, pZ, pS])
  refine tkH 3 ?oi4 (?v4) ?hi4 ?hy4 ?_
  case hi4 => (simp only [gA, gS, gZ]; try rfl)
  case hy4 => (refine Or.inl ⟨by rfl, ?_⟩; intro wq hSw; (try dsimp only at hSw); go_simp; (try with_reducible rfl))
  (try simp only [Act.put, pA, pZ, pS])
  refine tkH 4 ?oi5 (?v5) ?hi5 ?hy5 ?_
  case hi5 => (simp only [gA, gS, gZ]; try rfl)
  case hy5 => (refine Or.inl ⟨by rfl, ?_⟩; intro wq hSw; (try dsimp only at hSw); go_simp; (try with_reducible rfl))
  (try simp only [Act.put, pA, pZ, pS])
  refine tkH 5 ?oi6 (?v6) ?hi6 ?hy6 ?_
  case hi6 => (simp only [gA, gS, gZ]; try rfl)
  case hy6 => (refine Or.inl ⟨by rfl, ?_⟩; intro wq hSw; (try dsimp only at hSw); go_simp; (try with_reducible rfl))
  (try simp only [Act.put, pA, pZ, pS])
  refine tkH 6 ?oi7 (?v7) ?hi7 ?hy7 ?_
  case hi7 => (simp only [gA, gS, gZ]; try rfl)
  case hy7 => (refine Or.inl ⟨by rfl, ?_⟩; intro wq hSw; (try dsimp only at hSw); go_simp; (try with_reducible rfl))
  (try simp only [Act.put, pA, pZ, pS])
  refine wpAnyH_ready (rs := [7]) (by kernel_rfl) (by simp) ?_
  refine AllReadyH.cons (o := ?oi8) ?hi8 ?ti8 AllReadyH.nil
  case hi8 => (simp only [gA, gS, gZ]; try rfl)
  case ti8 =>
   intro KQ hKQ
   go_simp
   (repeat (simp only [go_sem, ↓IntWalk.iteOmega, ↓reduceIte, Bool.false_eq_true]; (try go_simp)))
   skip
   refine hKQ.out _ _ (by simp [go_sem, ↓IntWalk.iteOmega, *]) (fun hHeld2 => ?_)
   clear hHeld hKQ KQ; have hHeld := hHeld2; clear hHeld2
   (try simp only [Act.put, pA, pZ, pS])
   refine wpAnyH_done (by kernel_rfl) ?_ _
   refine onlyN_n ?_
   have hw : (ext W2.drew x3).setCell ⟨xb, 1, none⟩ (pt tb) = ext (W2.setCell ⟨xb, 1, none⟩ (pt tb)).drew x3 := setCell_ext W2.drew x3 xb 1 _ lx
   have HN : Hid (NwA w (ext (W2.setCell ⟨xb, 1, none⟩ (pt tb)).drew x3) #[.string s0, .slice a1 n1 m1, .slice K ks.length kc, .slice a3 n3 m3, .slice a4 n4 m4] w.heap.size (xb + 1) xb (w.heap.size + 1) tb none 0 0 [] [] .nil (.slice none 0 0) []) := Lib.hid (by rw [← hw]; exact nw_two HE2.out HT2.out HV2.out HX2.out HI2.out (Nat.le_refl _) (by omega) l3 (ex_) HTK.out)
   generalize ext (W2.setCell ⟨xb, 1, none⟩ (pt tb)).drew x3 = W3 at HN ⊢
   clear hw HTK HE2 HT2 HV2 HX2 HI2 HBN cv cf lv lx c1x
   go_wp2
   go_loopw [26] (fun si wr => ∃ (k : Nat) (A : Option Addr) (c : Nat) (Q : List VeA), k ≤ n ∧ si = .int .i64 k ∧ Hid (NwA w wr #[.string s0, .slice a1 n1 m1, .slice K ks.length kc, .slice a3 n3 m3, .slice a4 n4 m4] w.heap.size (xb + 1) xb (w.heap.size + 1) tb A k c Q [] .nil (.slice none 0 0) []) ∧ Hid (Q.map vcO = (vs.take k).map vcO)) (fun si _ => n - (intOf si).toNat)
   case atStart => exact ⟨0, none, 0, [], Nat.zero_le _, rfl, HN, Lib.hid rfl⟩
   case round =>
    clear HN
    obtain ⟨k, A, c, Q, hk, rfl, HN, HQ⟩ := hrel
    have hEw : Ext w wr := HN.out.e
    have lv : xb + 1 < wr.heap.size := (Array.getElem?_eq_some_iff.1 HN.out.hV).1
    have cv : wr.cell? ⟨xb + 1, 0, none⟩ = some (pt xb) := cell_of HN.out.hV rfl
    obtain ⟨lx, cx0, cx1, cx2, cx3, cxf⟩ := HN.out.hX.c
    by_cases hlt : k < n
    ·
     obtain ⟨pp, b, oo, hpi, rfl, hb, d0, d1, d2, d3, d4, d5, d6, d7, d8⟩ := (HV.out.ext HN.out.e).ve9 HVL.out hlt
     obtain ⟨⟨hpr, hpl, hpt⟩, hpn⟩ := HOK.out.at hpi
     have hprW := hpr.ext HN.out.e
     have HCL : Hid (∀ W, Ext wr W → Calls Tryz.prog 16 #[vgA pp] W fun e w' => ∃ A c, e = .returned (.agg #[.int .i64 pp.id, .int .i64 pp.sch, .slice A pp.row.l.length c, .int .i64 pp.v.1, .int .i64 pp.v.2, .int .i64 pp.s.1, .int .i64 pp.s.2, .int .i64 pp.by_, .int .i64 pp.un]) ∧ Ext W w' ∧ RdT w' TVA 3 A pp.row.l.length (vcl pp.row.l) ∧ (A = none → c = 0)) := Lib.hid fun W e => acloned_any pp W (hprW.ext e) hpl hpn
     have HPL : Hid (pp.row.l.length ≤ 1048576 ∧ ∀ v ∈ pp.row.l, v.t.size ≤ 9223372036854775807) := Lib.hid ⟨hpl, hpt⟩
     have HTK1 : Hid ((vs.take k).map vcO ++ [vcO pp] = (vs.take (k + 1)).map vcO) := Lib.hid (by
      obtain ⟨h1, h2⟩ := List.getElem?_eq_some_iff.1 hpi
      rw [List.take_succ_eq_append_getElem h1, h2, List.map_append]
      rfl)
     have hkz : (k : Int) < (n : Int) := by omega
     clear hpi hpr hpl hpt hpn hprW
     go_wp2_with fail
     refine wp_noexit ?_
     refine wp_region_T 11 (S := (fun w' => w'.cell? ⟨xb + 1, 0, none⟩ = some (pt xb) ∧ w'.cell? ⟨xb, 0, none⟩ = some (.slice A k c) ∧ w'.cell? ⟨wr.heap.size, 0, none⟩ = some (.int .i64 pp.id) ∧ w'.cell? ⟨wr.heap.size, 1, none⟩ = some (.int .i64 pp.sch) ∧ w'.cell? ⟨wr.heap.size, 2, none⟩ = some (.slice pp.row.A pp.row.l.length pp.row.c) ∧ w'.cell? ⟨wr.heap.size, 3, none⟩ = some (.int .i64 pp.v.1) ∧ w'.cell? ⟨wr.heap.size, 4, none⟩ = some (.int .i64 pp.v.2) ∧ w'.cell? ⟨wr.heap.size, 5, none⟩ = some (.int .i64 pp.s.1) ∧ w'.cell? ⟨wr.heap.size, 6, none⟩ = some (.int .i64 pp.s.2) ∧ w'.cell? ⟨wr.heap.size, 7, none⟩ = some (.int .i64 pp.by_) ∧ w'.cell? ⟨wr.heap.size, 8, none⟩ = some (.int .i64 pp.un))) (by kernel_rfl) (by simp [go_sem, ↓IntWalk.iteOmega, *]) (fun hHeld => ?_)
     refine tkT 0 ?oi101 (?v101) ?hi101 ?hy101 ?_
     case hi101 => (simp only [gA, gS, gZ]; try rfl)
     case hy101 => (refine Or.inl ⟨by rfl, ?_⟩; intro wq hSw; (try dsimp only at hSw); go_simp; (try with_reducible rfl))
     (try simp only [Act.put, pA, pZ, pS])
     refine tkT 1 ?oi102 (?v102) ?hi102 ?hy102 ?_
     case hi102 => (simp only [gA, gS, gZ]; try rfl)
     case hy102 => (refine Or.inl ⟨by rfl, ?_⟩; intro wq hSw; (try dsimp only at hSw); go_simp; (try with_reducible rfl))
     (try simp only [Act.put, pA, pZ, pS])
     refine tkT 2 ?oi103 (?v103) ?hi103 ?hy103 ?_
     case hi103 => (simp only [gA, gS, gZ]; try rfl)
     case hy103 => (refine Or.inl ⟨by rfl, ?_⟩; intro wq hSw; (try dsimp only at hSw); go_simp; (try with_reducible rfl))
     (try simp only [Act.put, pA, pZ, pS])
     refine tkT 3 ?oi104 (?v104) ?hi104 ?hy104 ?_
     case hi104 => (simp only [gA, gS, gZ]; try rfl)
     case hy104 => (refine Or.inl ⟨by rfl, ?_⟩; intro wq hSw; (try dsimp only at hSw); go_simp; (try with_reducible rfl))
     (try simp only [Act.put, pA, pZ, pS])
     refine tkT 4 ?oi105 (?v105) ?hi105 ?hy105 ?_
     case hi105 => (simp only [gA, gS, gZ]; try rfl)
     case hy105 => (refine Or.inl ⟨by rfl, ?_⟩; intro wq hSw; (try dsimp only at hSw); go_simp; (try with_reducible rfl))
     (try simp only [Act.put, pA, pZ, pS])
     refine tkT 5 ?oi106 (?v106) ?hi106 ?hy106 ?_
     case hi106 => (simp only [gA, gS, gZ]; try rfl)
     case hy106 => (refine Or.inl ⟨by rfl, ?_⟩; intro wq hSw; (try dsimp only at hSw); go_simp; (try with_reducible rfl))
     (try simp only [Act.put, pA, pZ, pS])
     refine wpAnyT_ready (rs := [6]) (by kernel_rfl) (by simp) ?_
     refine AllReadyT.cons (o := ?oi107) ?hi107 ?ti107 AllReadyT.nil
     case hi107 => (simp only [gA, gS, gZ]; try rfl)
     case ti107 =>
      intro KQ hKQ
      go_simp
      go_at_call 16
      refine Calls.mono (HCL.out _ (ex_)) ?_
      rintro e w1 ⟨A2, c2, rfl, hb9, hR2, hn2⟩
      obtain ⟨x1, rfl⟩ := hb9.get
      have HR2 := Lib.hid hR2
      have HN2 := Lib.hid hn2
      clear hb9 hR2 hn2
      refine hKQ.out _ _ (by simp [go_sem, ↓IntWalk.iteOmega, *]) (fun hHeld2 => ?_)
      clear hHeld hKQ KQ; have hHeld := hHeld2; clear hHeld2
      (try simp only [Act.put, pA, pZ, pS])
      refine wpAnyT_ready (rs := [7]) (by kernel_rfl) (by simp) ?_
      refine AllReadyT.cons (o := ?oi108) ?hi108 ?ti108 AllReadyT.nil
      case hi108 => (simp only [gA, gS, gZ]; try rfl)
      case ti108 =>
       intro KQ hKQ
       go_simp
       refine hKQ.out _ _ (by simp [go_sem, ↓IntWalk.iteOmega, *]) (fun hHeld2 => ?_)
       clear hHeld hKQ KQ; have hHeld := hHeld2; clear hHeld2
       (try simp only [Act.put, pA, pZ, pS])
       refine wpAnyT_ready (rs := [8]) (by kernel_rfl) (by simp) ?_
       refine AllReadyT.cons (o := ?oi109) ?hi109 ?ti109 AllReadyT.nil
       case hi109 => (simp only [gA, gS, gZ]; try rfl)
       case ti109 =>
        intro KQ hKQ
        refine step_app2 _ (by rfl) (.tmp 34) (.tmp 37) (by rfl) elVeA w (ex_) (.slice A k c) k (Q.flatMap encVe) (by rfl) ((HN.out.ext (ex_)).own) _ 1 1 [.int .i64 pp.id, .int .i64 pp.sch, .slice A2 pp.row.l.length c2, .int .i64 pp.v.1, .int .i64 pp.v.2, .int .i64 pp.s.1, .int .i64 pp.s.2, .int .i64 pp.by_, .int .i64 pp.un] (by rfl) (Rd.lit _ _ _ 1 9 rfl (by simp [size_ext])) (oneCell_ve (pp.at A2 c2)) (by unfold maxLen; omega) (by omega) ?_
        intro v' x' hown' hg' _
        obtain ⟨A', c', rfl, _, _⟩ := Own.form hown'
        have hkt := Kt.ofGrown hg' ((HN.out.ext (ex_)).own)
        have hApp := (HN.out.ext (ex_)).app hg' (Ext.ex w x') (p := pp.at A2 c2) hown' ⟨RdT.ext HR2.out (ex_), HPL.out⟩ HN2.out
        have e0 : (extR w x').cell? ⟨xb + 1, 0, none⟩ = some (pt xb) := cell_of (hkt.blk _ _ _ _ ((HN.out.ext (ex_)).hV) (by decide)) rfl
        have e1 : (extR w x').cell? ⟨xb, 0, none⟩ = some (.slice A k c) := cell_of (hkt.blk _ _ _ _ ((HN.out.ext (ex_)).hX) (by decide)) rfl
        have e2 : (extR w x').frozen? ⟨xb, 0, none⟩ = false := froz_of (hkt.blk _ _ _ _ ((HN.out.ext (ex_)).hX) (by decide))
        have e3 : ∀ j, (extR w x').cell? ⟨wr.heap.size, j, none⟩ = _ := fun j => World.cell?_of_block (hg'.block wr.heap.size (by simp [size_ext]; omega) fun e => by
         have := (row_block HN.out.own e.symm).2.1
         omega)
        obtain ⟨x3, hx3⟩ := hApp.e.get
        have hst : (extR w x').setCell ⟨xb, 0, none⟩ (.slice A' (k + 1) c') = ext w x3 := hx3
        rw [hx3] at hApp
        have HNN := Lib.hid hApp
        clear hApp hkt hown' hg' hx3
        refine hKQ.out _ _ (by simp [go_sem, ↓IntWalk.iteOmega, *]) (fun hHeld2 => ?_)
        clear hHeld hKQ KQ; have hHeld := hHeld2; clear hHeld2
        (try simp only [Act.put, pA, pZ, pS])
        refine tkT 9 ?oi110 (?v110) ?hi110 ?hy110 ?_
        case hi110 => (simp only [gA, gS, gZ]; try rfl)
        case hy110 => (refine Or.inl ⟨by rfl, ?_⟩; intro wq hSw; (try dsimp only at hSw); go_simp; (try with_reducible rfl))
        (try simp only [Act.put, pA, pZ, pS])
        refine tkT 10 ?oi111 (?v111) ?hi111 ?hy111 ?_
        case hi111 => (simp only [gA, gS, gZ]; try rfl)
        case hy111 => (refine Or.inl ⟨by rfl, ?_⟩; intro wq hSw; (try dsimp only at hSw); go_simp; (try with_reducible rfl))
        (try simp only [Act.put, pA, pZ, pS])
        refine wpAnyT_ready (rs := [11]) (by kernel_rfl) (by simp) ?_
        refine AllReadyT.last (o := ?oi112) ?hi112 ?ti112
        case hi112 => (simp only [gA, gS, gZ]; try rfl)
        case ti112 =>
         intro KQ hKQ
         go_simp
         (repeat (simp only [go_sem, ↓IntWalk.iteOmega, ↓reduceIte, Bool.false_eq_true]; (try go_simp)))
         refine hKQ.out _ _ ?_
         clear hKQ KQ hHeld
         (try simp only [Act.put, pA, pZ, pS])
         refine wpAnyT_done (by kernel_rfl) ?_ _
         refine onlyN_n ?_
         go_wp2
         go_roundw
         case rel => exact ⟨k + 1, A', c', Q ++ [pp.at A2 c2], by omega, by go_num, HNN, Lib.hid (by rw [List.map_append, HQ.out]; exact HTK1.out)⟩
         case measure => simp [intOf]; omega
    ·
     obtain rfl : k = n := by omega
     have hkz : ¬ (k : Int) < (k : Int) := by omega
     go_wp2_with fail
     obtain ⟨xw, rfl⟩ := hEw.get
     have hlen := HN.out.len
     have HS := Lib.hid (sortA w xw A c Q (by rw [hlen]; exact HN.out.own) (by omega))
     rw [hlen] at HS
     refine Calls.mono HS.out ?_
     rintro e w1 ⟨rfl, x', rfl, hg, ho'⟩
     have HN2 := Lib.hid (HN.out.sort hg (Ext.ex w x') ho' (isort_perm (lt := ltOf cfA) Q))
     have HSC : Hid ((isort (ltOf cfA) Q).map vcO = srtC (vs.map vcO)) := Lib.hid (by rw [isort_of, HQ.out, ← HVL.out, List.take_length])
     generalize isort (ltOf cfA) Q = S at HN2 HSC
     generalize ext w x' = W5 at HN2 ⊢
     clear HN HQ HS hlen hg ho' cv lv lx cx0 cx1 cx2 cx3 cxf hk hlt hkz hEw
     have cv : W5.cell? ⟨xb + 1, 0, none⟩ = some (pt xb) := cell_of HN2.out.hV rfl
     obtain ⟨lx, cx0, -, -, -, -⟩ := HN2.out.hX.c
     go_wp2
     clear cv lx cx0
     go_loopw [8, 52] (fun so si wr => ∃ (j : Nat) (Ks : List Kp) (t : AT) (L : List Bxs), j ≤ k ∧ si = .int .i64 j ∧ Hid (NwA w wr #[.string s0, .slice a1 n1 m1, .slice K ks.length kc, .slice a3 n3 m3, .slice a4 n4 m4] w.heap.size (xb + 1) xb (w.heap.size + 1) tb A k c S Ks t so L) ∧ Hid (St2 ks S j Ks t L)) (fun _ si _ => k - (intOf si).toNat)
     case atStart => exact ⟨0, [], .nil, [], Nat.zero_le _, rfl, HN2, Lib.hid (St2.zero _ _)⟩
     case round =>
      clear HN2
      obtain ⟨j, Ks, t, L, hj, rfl, HN, HST⟩ := hrel
      by_cases hlt : j < k
      ·
       obtain ⟨pp, b, oo, hpi, hAe, hb, d0, d1, d2, d3, d4, d5, d6, d7, d8⟩ := (Rd.of_own HN.out.own).ve9 HN.out.len hlt
       subst hAe
       have HPI := Lib.hid hpi
       have hppS := List.mem_of_getElem? hpi
       have HPVS : Hid (pvB pp.v = true ∧ pvB pp.s = true) := Lib.hid (by
        obtain ⟨q, hq, he⟩ := of_srt HSC.out hppS
        have := HPV.out q hq
        rw [show pp.v = q.v from (congrArg VC.v he).symm, show pp.s = q.s from (congrArg VC.s he).symm]
        exact this)
       have hrow := (HN.out.vs.1 pp hppS)
       have hEw : Ext w wr := HN.out.e
       have HKY := Lib.hid fun W (e : Ext wr W) => tkeyN_any s0 a1 a3 a4 K n1 m1 n3 m3 n4 m4 kc ks pp.row.A pp.row.c pp.row.l W (hrow.1.1.ext e) (HK.out.ext (hEw.tr e)) (by omega) nk
       have HPT : Hid (∀ W B q, Ext wr W → Rd W 3 B ks.length (vcl (ks.map (atV pp.row.l))) → (B = none → ks.length = 0 ∧ q = 0) → Calls Tryz.prog 25 #[pt tb, .slice B ks.length q, .int .i64 (j : Int)] W (TPk w.heap.size W tb 8 (!hasK Ks (ks.map (atV pp.row.l), (j : Int))) (putK Ks (ks.map (atV pp.row.l), (j : Int))))) := Lib.hid fun W B q e h1 h2 => by
        have := put_k w.heap.size 8 tb Ks B q (ks.map (atV pp.row.l)) (j : Int) W (by decide) (by decide) (Nat.le_trans hEw.size e.size) (HN.out.tk.ext e) (by rw [List.length_map]; exact h1) (by rw [List.length_map]; exact nk) (by rw [List.length_map]; exact h2) (by have := HST.out.kl; omega) (by omega)
        rw [List.length_map] at this
        exact this
       have hjz : (j : Int) < (k : Int) := by omega
       have lv : xb + 1 < wr.heap.size := (Array.getElem?_eq_some_iff.1 HN.out.hV).1
       have cv : wr.cell? ⟨xb + 1, 0, none⟩ = some (pt xb) := cell_of HN.out.hV rfl
       obtain ⟨lx, -, cx1, -, -, -⟩ := HN.out.hX.c
       have lt0 : w.heap.size < wr.heap.size := (Array.getElem?_eq_some_iff.1 HN.out.hT).1
       have ct0 : wr.cell? ⟨w.heap.size, 0, none⟩ = some (.string s0) := cell_of HN.out.hT rfl
       have ct1 : wr.cell? ⟨w.heap.size, 1, none⟩ = some (.slice a1 n1 m1) := cell_of HN.out.hT rfl
       have ct2 : wr.cell? ⟨w.heap.size, 2, none⟩ = some (.slice K ks.length kc) := cell_of HN.out.hT rfl
       have ct3 : wr.cell? ⟨w.heap.size, 3, none⟩ = some (.slice a3 n3 m3) := cell_of HN.out.hT rfl
       have ct4 : wr.cell? ⟨w.heap.size, 4, none⟩ = some (.slice a4 n4 m4) := cell_of HN.out.hT rfl
       clear hpi hppS hrow
       go_wp2_with fail
       refine wp_noexit ?_
       refine wp_region_T 9 (S := (fun w' => w'.cell? ⟨xb + 1, 0, none⟩ = some (pt xb) ∧ w'.cell? ⟨xb, 1, none⟩ = some (pt tb) ∧ w'.cell? ⟨w.heap.size, 0, none⟩ = some (.string s0) ∧ w'.cell? ⟨w.heap.size, 1, none⟩ = some (.slice a1 n1 m1) ∧ w'.cell? ⟨w.heap.size, 2, none⟩ = some (.slice K ks.length kc) ∧ w'.cell? ⟨w.heap.size, 3, none⟩ = some (.slice a3 n3 m3) ∧ w'.cell? ⟨w.heap.size, 4, none⟩ = some (.slice a4 n4 m4) ∧ w'.cell? ⟨wr.heap.size, 2, none⟩ = some (.slice pp.row.A pp.row.l.length pp.row.c))) (by kernel_rfl) (by simp [go_sem, ↓IntWalk.iteOmega, *]) (fun hHeld => ?_)
       refine tkT 0 ?oi201 (?v201) ?hi201 ?hy201 ?_
       case hi201 => (simp only [gA, gS, gZ]; try rfl)
       case hy201 => (refine Or.inl ⟨by rfl, ?_⟩; intro wq hSw; (try dsimp only at hSw); go_simp; (try with_reducible rfl))
       (try simp only [Act.put, pA, pZ, pS])
       refine tkT 1 ?oi202 (?v202) ?hi202 ?hy202 ?_
       case hi202 => (simp only [gA, gS, gZ]; try rfl)
       case hy202 => (refine Or.inl ⟨by rfl, ?_⟩; intro wq hSw; (try dsimp only at hSw); go_simp; (try with_reducible rfl))
       (try simp only [Act.put, pA, pZ, pS])
       refine tkT 2 ?oi203 (?v203) ?hi203 ?hy203 ?_
       case hi203 => (simp only [gA, gS, gZ]; try rfl)
       case hy203 => (refine Or.inl ⟨by rfl, ?_⟩; intro wq hSw; (try dsimp only at hSw); go_simp; (try with_reducible rfl))
       (try simp only [Act.put, pA, pZ, pS])
       refine tkT 3 ?oi204 (?v204) ?hi204 ?hy204 ?_
       case hi204 => (simp only [gA, gS, gZ]; try rfl)
       case hy204 => (refine Or.inl ⟨by rfl, ?_⟩; intro wq hSw; (try dsimp only at hSw); go_simp; (try with_reducible rfl))
       (try simp only [Act.put, pA, pZ, pS])
       refine tkT 4 ?oi205 (?v205) ?hi205 ?hy205 ?_
       case hi205 => (simp only [gA, gS, gZ]; try rfl)
       case hy205 => (refine Or.inl ⟨by rfl, ?_⟩; intro wq hSw; (try dsimp only at hSw); go_simp; (try with_reducible rfl))
       (try simp only [Act.put, pA, pZ, pS])
       refine tkT 5 ?oi206 (?v206) ?hi206 ?hy206 ?_
       case hi206 => (simp only [gA, gS, gZ]; try rfl)
       case hy206 => (refine Or.inl ⟨by rfl, ?_⟩; intro wq hSw; (try dsimp only at hSw); go_simp; (try with_reducible rfl))
       (try simp only [Act.put, pA, pZ, pS])
       refine tkT 6 ?oi207 (?v207) ?hi207 ?hy207 ?_
       case hi207 => (simp only [gA, gS, gZ]; try rfl)
       case hy207 => (refine Or.inl ⟨by rfl, ?_⟩; intro wq hSw; (try dsimp only at hSw); go_simp; (try with_reducible rfl))
       (try simp only [Act.put, pA, pZ, pS])
       refine tkT 8 ?oi208 (?v208) ?hi208 ?hy208 ?_
       case hi208 => (simp only [gA, gS, gZ]; try rfl)
       case hy208 => (refine Or.inl ⟨by rfl, ?_⟩; intro wq hSw; (try dsimp only at hSw); go_simp; (try with_reducible rfl))
       (try simp only [Act.put, pA, pZ, pS])
       refine wpAnyT_ready (rs := [7]) (by kernel_rfl) (by simp) ?_
       refine AllReadyT.cons (o := ?oi209) ?hi209 ?ti209 AllReadyT.nil
       case hi209 => (simp only [gA, gS, gZ]; try rfl)
       case ti209 =>
        intro KQ hKQ
        go_simp
        go_at_call 26
        refine Calls.mono (HKY.out _ (ex_)) ?_
        rintro e w1 ⟨B, q, rfl, hb9, -, hR2, hn2⟩
        obtain ⟨x1, rfl⟩ := hb9.get
        have HR2 := Lib.hid hR2
        have HN2 := Lib.hid hn2
        clear hb9 hR2 hn2
        refine hKQ.out _ _ (by simp [go_sem, ↓IntWalk.iteOmega, *]) (fun hHeld2 => ?_)
        clear hHeld hKQ KQ; have hHeld := hHeld2; clear hHeld2
        (try simp only [Act.put, pA, pZ, pS])
        refine wpAnyT_ready (rs := [9]) (by kernel_rfl) (by simp) ?_
        refine AllReadyT.last (o := ?oi210) ?hi210 ?ti210
        case hi210 => (simp only [gA, gS, gZ]; try rfl)
        case ti210 =>
         intro KQ hKQ
         go_simp
         go_at_call 25
         refine Calls.mono (HPT.out _ _ _ (ex_) HR2.out HN2.out) ?_
         rintro e w9 ⟨rfl, htk, hmu⟩
         have HN9 := Lib.hid ((HN.out.ext (ex_)).put hmu htk)
         have hkt := Kt.ofMu hmu
         have h7 : w9.heap[wr.heap.size]? = some (.cells #[.int .i64 pp.id, .int .i64 pp.sch, .slice pp.row.A pp.row.l.length pp.row.c, .int .i64 pp.v.1, .int .i64 pp.v.2, .int .i64 pp.s.1, .int .i64 pp.s.2, .int .i64 pp.by_, .int .i64 pp.un] 47 (0, 0)) := hkt.blk _ _ _ _ (by first | exact blk7 _ _ _ | exact (Ext.ex _ _).at (blk7 _ _ _) | (rw [block_ext _ _ _ (by simp)]; exact blk7 _ _ _)) (by unfold TreeT; decide)
         have cv9 : w9.cell? ⟨xb + 1, 0, none⟩ = some (pt xb) := cell_of HN9.out.hV rfl
         obtain ⟨lx9, -, -, cx9, -, -⟩ := HN9.out.hX.c
         have lv9 : xb + 1 < w9.heap.size := (Array.getElem?_eq_some_iff.1 HN9.out.hV).1
         have l79 : wr.heap.size < w9.heap.size := (Array.getElem?_eq_some_iff.1 h7).1
         have f3 : w9.cell? ⟨wr.heap.size, 3, none⟩ = some (.int .i64 pp.v.1) := cell_of h7 rfl
         have f4 : w9.cell? ⟨wr.heap.size, 4, none⟩ = some (.int .i64 pp.v.2) := cell_of h7 rfl
         clear hkt hmu htk
         refine hKQ.out _ _ ?_
         clear hKQ KQ hHeld
         (try simp only [Act.put, pA, pZ, pS])
         refine wpAnyT_done (by kernel_rfl) ?_ _
         refine onlyN_n ?_
         clear HKY HPT cv cx1 lx lv ct0 ct1 ct2 ct3 ct4 lt0
         have H7 := Lib.hid h7
         clear h7
         have HAD := Lib.hid fun W (e : Ext w9 W) => addC_any pp.v (j : Int) W w.heap.size (w.heap.size + 1) t (HN9.out.it.ext e) HPVS.out.1 (HST.out.fresh [] pp.v).2 (by rw [HST.out.il]; omega)
         unfold ptI at HAD
         go_wp2_with fail
         refine wp_noexit ?_
         refine wp_region_T 7 (S := (fun w' => w'.cell? ⟨xb + 1, 0, none⟩ = some (pt xb) ∧ w'.cell? ⟨xb, 2, none⟩ = some (pt (w.heap.size + 1)) ∧ w'.cell? ⟨wr.heap.size, 3, none⟩ = some (.int .i64 pp.v.1) ∧ w'.cell? ⟨wr.heap.size, 4, none⟩ = some (.int .i64 pp.v.2))) (by kernel_rfl) (by simp [go_sem, ↓IntWalk.iteOmega, *]) (fun hHeld => ?_)
         refine tkT 0 ?oi301 (?v301) ?hi301 ?hy301 ?_
         case hi301 => (simp only [gA, gS, gZ]; try rfl)
         case hy301 => (refine Or.inl ⟨by rfl, ?_⟩; intro wq hSw; (try dsimp only at hSw); go_simp; (try with_reducible rfl))
         (try simp only [Act.put, pA, pZ, pS])
         refine tkT 1 ?oi302 (?v302) ?hi302 ?hy302 ?_
         case hi302 => (simp only [gA, gS, gZ]; try rfl)
         case hy302 => (refine Or.inl ⟨by rfl, ?_⟩; intro wq hSw; (try dsimp only at hSw); go_simp; (try with_reducible rfl))
         (try simp only [Act.put, pA, pZ, pS])
         refine tkT 2 ?oi303 (?v303) ?hi303 ?hy303 ?_
         case hi303 => (simp only [gA, gS, gZ]; try rfl)
         case hy303 => (refine Or.inl ⟨by rfl, ?_⟩; intro wq hSw; (try dsimp only at hSw); go_simp; (try with_reducible rfl))
         (try simp only [Act.put, pA, pZ, pS])
         refine tkT 3 ?oi304 (?v304) ?hi304 ?hy304 ?_
         case hi304 => (simp only [gA, gS, gZ]; try rfl)
         case hy304 => (refine Or.inl ⟨by rfl, ?_⟩; intro wq hSw; (try dsimp only at hSw); go_simp; (try with_reducible rfl))
         (try simp only [Act.put, pA, pZ, pS])
         refine tkT 4 ?oi305 (?v305) ?hi305 ?hy305 ?_
         case hi305 => (simp only [gA, gS, gZ]; try rfl)
         case hy305 => (refine Or.inl ⟨by rfl, ?_⟩; intro wq hSw; (try dsimp only at hSw); go_simp; (try with_reducible rfl))
         (try simp only [Act.put, pA, pZ, pS])
         refine tkT 5 ?oi306 (?v306) ?hi306 ?hy306 ?_
         case hi306 => (simp only [gA, gS, gZ]; try rfl)
         case hy306 => (refine Or.inl ⟨by rfl, ?_⟩; intro wq hSw; (try dsimp only at hSw); go_simp; (try with_reducible rfl))
         (try simp only [Act.put, pA, pZ, pS])
         refine tkT 6 ?oi307 (?v307) ?hi307 ?hy307 ?_
         case hi307 => (simp only [gA, gS, gZ]; try rfl)
         case hy307 => (refine Or.inl ⟨by rfl, ?_⟩; intro wq hSw; (try dsimp only at hSw); go_simp; (try with_reducible rfl))
         (try simp only [Act.put, pA, pZ, pS])
         refine wpAnyT_ready (rs := [7]) (by kernel_rfl) (by simp) ?_
         refine AllReadyT.last (o := ?oi308) ?hi308 ?ti308
         case hi308 => (simp only [gA, gS, gZ]; try rfl)
         case ti308 =>
          intro KQ hKQ
          go_simp
          go_at_call 27
          refine Calls.mono (HAD.out _ (ex_)) ?_
          rintro e w10 ⟨rfl, t', hit, hpm, hch⟩
          have HN10 := Lib.hid ((HN9.out.ext (ex_)).add hch hit)
          have hkt := Kt.ofChg hch (HN9.out.it.ext (ex_))
          have h7' : w10.heap[wr.heap.size]? = some (.cells #[.int .i64 pp.id, .int .i64 pp.sch, .slice pp.row.A pp.row.l.length pp.row.c, .int .i64 pp.v.1, .int .i64 pp.v.2, .int .i64 pp.s.1, .int .i64 pp.s.2, .int .i64 pp.by_, .int .i64 pp.un] 47 (0, 0)) := hkt.blk _ _ _ _ ((Ext.dr (Ext.refl' w9)).at H7.out) (by unfold ItT; decide)
          have l710 : wr.heap.size < w10.heap.size := (Array.getElem?_eq_some_iff.1 h7').1
          have HPM := Lib.hid hpm
          clear hkt hch hit hpm
          refine hKQ.out _ _ ?_
          clear hKQ KQ hHeld
          (try simp only [Act.put, pA, pZ, pS])
          refine wpAnyT_done (by kernel_rfl) ?_ _
          refine onlyN_n ?_
          have g3 : w10.cell? ⟨wr.heap.size, 3, none⟩ = some (.int .i64 pp.v.1) := cell_of h7' rfl
          have g4 : w10.cell? ⟨wr.heap.size, 4, none⟩ = some (.int .i64 pp.v.2) := cell_of h7' rfl
          have g5 : w10.cell? ⟨wr.heap.size, 5, none⟩ = some (.int .i64 pp.s.1) := cell_of h7' rfl
          have g6 : w10.cell? ⟨wr.heap.size, 6, none⟩ = some (.int .i64 pp.s.2) := cell_of h7' rfl
          have hEw := HN10.out.e
          have hLl : L.length = j := HST.out.ll
          clear h7' HAD f3 f4 cx9 cv9 lv9 lx9 l79
          go_wp2_with (at_builtin; refine wpList_app2 _ rfl (.tmp 75) (.tmp 83) rfl elBox w (ex_) _ _ _ rfl ((HN10.out.ext (ex_)).bo) _ 1 1 [.int .i64 pp.v.1, .int .i64 pp.v.2, .int .i64 pp.s.1, .int .i64 pp.s.2, .int .i64 j] rfl (Rd.lit _ _ _ 1 5 rfl (by simp [size_ext])) (oneCell_bxl [((pp.v, pp.s), (j : Int))]) (by unfold maxLen; omega) (by omega) ?_; intro v' x' hown' hg' _; have HN11 := Lib.hid ((HN10.out.ext (ex_)).box (L' := L ++ [((pp.v, pp.s), (j : Int))]) hg' (Ext.ex w x') (by rw [bxl_append, List.length_append]; exact hown')); clear hown' hg')
          go_roundw
          case rel => exact ⟨j + 1, _, t', L ++ [((pp.v, pp.s), (j : Int))], by omega, by go_num, HN11, Lib.hid (HST.out.step HPI.out HPM.out)⟩
          case measure => simp [intOf]; omega
      ·
       obtain rfl : j = k := by omega
       have hLl : L.length = j := HST.out.ll
       obtain ⟨sA, sc, rfl, hcap⟩ := row_form HN.out.bo
       have hSl := HN.out.len
       have HPS : Hid (∀ p ∈ S, pvB p.v = true ∧ pvB p.s = true) := Lib.hid fun p hp => by
        obtain ⟨q, hq, he⟩ := of_srt HSC.out hp
        have := HPV.out q hq
        rw [show p.v = q.v from (congrArg VC.v he).symm, show p.s = q.s from (congrArg VC.s he).symm]
        exact this
       have HRS : Hid (∀ p ∈ S, ∀ v ∈ p.row.l, vvB v = true) := Lib.hid fun p hp => by
        obtain ⟨q, hq, he⟩ := of_srt HSC.out hp
        have := HVV.out q hq
        rw [show p.row.l = q.row.l from (congrArg VC.row he).symm]
        exact this
       have hjz : ¬ (j : Int) < (j : Int) := by omega
       simp only [hLl] at hcap ⊢
       go_wp2_with (go_at_call 28; refine (chunkBox_any sA j sc 4096 (by decide) _).mono ?_; rintro e w' ⟨rfl, rfl⟩)
       obtain ⟨W0, hW0⟩ : ∃ W0, (wr.alloc (.cells #[.slice sA j sc] 79)).alloc (.cells #[.int .i64 4096] 3) = W0 := ⟨_, rfl⟩
       have hE0 : Ext wr W0 := by rw [← hW0]; exact (ex_)
       have c1 : W0.cell? ⟨wr.heap.size, 0, none⟩ = some (.slice sA j sc) := by rw [← hW0]; simp [go_sem, ↓IntWalk.iteOmega]
       have c2 : W0.cell? ⟨wr.heap.size + 1, 0, none⟩ = some (.int .i64 ((4096 : Nat) : Int)) := by rw [← hW0]; simp [go_sem, ↓IntWalk.iteOmega]
       have hsz : W0.heap.size = wr.heap.size + 2 := by rw [← hW0]; simp
       rw [hW0]
       have HN0 := Lib.hid (HN.out.ext hE0)
       clear hW0
       have hxw := HN.out.hX.c.1
       refine (wpIn_wide (n := 9)).1 ?_
       rcases Nat.eq_zero_or_pos j with h0 | h0
       ·
        subst h0
        refine wpIn_rangeFunc_ownG (encs := encBox 0 0 4096 0) (F := Fence.wide) (n := 9) (ps := #[88]) (w := W0) (Kp := But W0.heap.size xb) rfl (by decide) (gf := 53) (lb := #[.pointer (some ⟨wr.heap.size, 0, none⟩), .pointer (some ⟨wr.heap.size + 1, 0, none⟩)]) rfl trivial (enters_of Tryz.func53 (by kernel_rfl) rfl)
         (chunk0_stops 7 wr.heap.size (wr.heap.size + 1) W0.heap.size xb 0 0 sA sc W0 c1 c2) But.trans (But.kb (Nat.le_refl _)) (Below.refl _ _) (fun _ => rfl)
         (RnI W0 W0.heap.size xb A 0 c tb (w.heap.size + 1) L) (fun _ _ _ => False) (RnI.own (Nat.le_refl _)) (fun _ _ _ _ _ hs _ _ => hs) ⟨But.refl _ _ _, .inl ⟨rfl, HN0.out.hX⟩⟩ ?ax ?assign ?body ?done ?stop
        case assign =>
         intro l x W K hK
         gi_wp2
         exact hK
        case body =>
         rintro l pre x W _ hlt
         exact absurd hlt (by omega)
        case done =>
         rintro D xs W hD hS hr hK
         have HS := Lib.hid hS
         have HR := Lib.hid hr
         have lv : xb + 1 < W0.heap.size := (Array.getElem?_eq_some_iff.1 HN0.out.hV).1
         have hWsz := hr.1.size
         have lvW : xb + 1 < W.heap.size := by omega
         have cv : W.cell? ⟨xb + 1, 0, none⟩ = some (pt xb) := (hr.1.cell lv (by omega)).trans (cell_of HN0.out.hV rfl)
         clear hS hr
         go_wp2
         refine ⟨by simp, .inl ⟨_, _, rfl, run_takeDeferred hK, ?_⟩⟩
         refine ⟨_, results_tmp rfl _ _ _, ?_⟩
         obtain ⟨f1, f2⟩ := rn_done HN0.out HST.out hn2 HPS.out HRS.out HR.out rfl (.inl ⟨by simpa using HS.out, rfl⟩) hD hK
         exact ⟨xb, S, rfl, f1, HSC.out, f2⟩
        case stop =>
         rintro D c pre W _ _ h _
         exact h.elim
       ·
        obtain ⟨g, og, rfl, hgb, -⟩ := (Rd.of_own HN0.out.bo).2 (by omega)
        have hR0 : Rd W0 5 (some ⟨g, og, none⟩) j (bxl L) := by rw [← hLl]; exact Rd.of_own HN0.out.bo
        have hgx : g ≠ xb := by
         obtain ⟨_, _, c', f', h1⟩ := row_block HN0.out.bo (r := g) rfl
         rintro rfl
         have h2 := HN0.out.hX
         unfold IdxS at h2
         rw [h1] at h2
         injection h2 with h2
         injection h2 with h3 h4
         exact absurd h4 (by decide)
        have hnc : nch 4096 j = 1 := by
         have h1 := lt_nch (w := 4096) (n := j) (j := 0) (by decide)
         have h2 := lt_nch (w := 4096) (n := j) (j := 1) (by decide)
         omega
        refine wpIn_rangeFunc_ownG (encs := encBox g og 4096 j) (F := Fence.wide) (n := 9) (ps := #[88]) (w := W0) (Kp := But W0.heap.size xb) rfl (by decide) (gf := 53) (lb := #[.pointer (some ⟨wr.heap.size, 0, none⟩), .pointer (some ⟨wr.heap.size + 1, 0, none⟩)]) rfl trivial (enters_of Tryz.func53 (by kernel_rfl) rfl)
         (chunkBox4_stops 7 wr.heap.size (wr.heap.size + 1) W0.heap.size xb g og 4096 j sc (by decide) (by decide) (by omega) hcap (by omega) (by omega) (by omega) (by omega) W0 c1 c2) But.trans (But.kb (Nat.le_refl _)) (Below.refl _ _) (fun _ => rfl)
         (RnI W0 W0.heap.size xb A j c tb (w.heap.size + 1) L) (fun _ _ _ => False) (RnI.own (Nat.le_refl _)) (fun _ _ _ _ _ hs _ _ => hs) ⟨But.refl _ _ _, .inl ⟨rfl, HN0.out.hX⟩⟩ ?ax2 ?assign ?body ?done ?stop
        case assign =>
         intro l x W K hK
         gi_wp2
         exact hK
        case body =>
         rintro l pre ⟨i, hi⟩ W hr hlt
         obtain rfl : pre = [] := List.eq_nil_of_length_eq_zero (by rw [hnc] at hlt; omega)
         have HR := Lib.hid hr
         have hbt := hr.1
         have hWsz := hbt.size
         have hX1 : IdxS W xb A j c tb (w.heap.size + 1) none 0 0 := by
          rcases hr.2 with ⟨_, h⟩ | ⟨_, _, _, _, _, _, h, _⟩
          ·
           exact h
          ·
           cases h
         have lv : xb + 1 < W0.heap.size := (Array.getElem?_eq_some_iff.1 HN0.out.hV).1
         have lvW : xb + 1 < W.heap.size := by omega
         have cv : W.cell? ⟨xb + 1, 0, none⟩ = some (pt xb) := (hbt.cell lv (by omega)).trans (cell_of HN0.out.hV rfl)
         obtain ⟨lx, -, -, -, cx3, cxf⟩ := hX1.c
         have hC : Rd W 5 (some ⟨g, og + i * 5, none⟩) ((L.drop i).take 4096).length (bxl ((L.drop i).take 4096)) := (hR0.agree fun b o e _ => by
          simp only [Option.some.injEq, Addr.mk.injEq, and_true] at e
          obtain ⟨rfl, rfl⟩ := e
          exact ⟨by omega, hbt.block _ hgb hgx⟩).boxes hLl.symm i 4096 (by omega)
         have hCl := chunk_len L i 4096
         have hm : min 4096 (j - i) = ((L.drop i).take 4096).length := by rw [hCl, hLl]
         have HE : Hid (errF 8 ((L.drop i).take 4096) = 0) := Lib.hid (bx_err HST.out hSl hn2 HPS.out i 4096)
         have hwf : ∀ b ∈ (L.drop i).take 4096, (Lit.int .i64 b.2).wf = true := fun b hb => by
          obtain ⟨q, p, hp, rfl⟩ := (bx_mem HST.out hSl b).1 (List.mem_of_mem_drop (List.mem_of_mem_take hb))
          have := (List.getElem?_eq_some_iff.1 hp).1
          have e1 : IntKind.i64.min = -9223372036854775808 := rfl
          have e2 : IntKind.i64.max = 9223372036854775807 := rfl
          simp [Lit.wf, e1, e2]
          omega
         have HB := Lib.hid (buildN_any (some ⟨g, og + i * 5, none⟩) ((L.drop i).take 4096).length ((L.drop i).take 4096).length 8 ((L.drop i).take 4096) W rfl hC (by omega) (Nat.le_refl _) hwf)
         have HRT : Hid (rtE 8 ((L.drop i).take 4096) = (rootF (Int.toNat 8) ((L.drop i).take 4096)).1) := Lib.hid (by unfold rtE; rw [if_pos HE.out])
         simp only [hm]
         have HST9 := Lib.hid fun (C : World) (RA : Option Addr) (rc : Nat) (w1 cur : World) (tp : Option Addr) (nn d : Int) (e1 : Ext W w1) (q1 : ∀ X : World, w1.heap.size ≤ X.heap.size → (∀ k, W.heap.size ≤ k → k < w1.heap.size → X.heap[k]? = w1.heap[k]?) → TreeH X tp (rtE 8 ((L.drop i).take 4096)) nn d) (e2 : Ext w1 cur) (q2 : cur.grownBy C none) (q3 : C.ownsRow W.heap.size 88 1 (.slice RA 1 rc) 1 [.pointer tp]) => rn_step (x := ⟨i, hi⟩) HR.out hWsz (by omega) e1 q1 e2 q2 q3
         clear hm hwf hC hCl hX1 hr hbt
         generalize (L.drop i).take 4096 = C at HB HE HRT HST9 ⊢
         unfold BuildN at HB
         generalize C.length = cl at HB ⊢
         gi_wp2_with (refine ⟨trivial, ?_⟩; gi_at_call 29; refine (callsRound HB.out).mono ?_; rintro e w1 ⟨hb1, (⟨hne, _⟩ | ⟨_, tpb, rfl, hXX⟩)⟩; exact absurd HE.out hne; obtain ⟨x1, rfl⟩ := hb1.get; have HXX := Lib.hid hXX; clear hb1 hXX)
         refine wpIn_region_round_T 10 (S := (fun w' => w'.cell? ⟨xb + 1, 0, none⟩ = some (pt xb) ∧ w'.cell? ⟨xb, 3, none⟩ = some (.slice none 0 0))) (by kernel_rfl) (by kernel_rfl) (by rintro ⟨a, w, h⟩; exact h) (by simp [go_sem, ↓IntWalk.iteOmega, *]) (fun hHeld => ?_)
         refine tkT 0 ?oi401 (?v401) ?hi401 ?hy401 ?_
         case hi401 => (simp only [gA, gS, gZ]; try rfl)
         case hy401 => (refine Or.inl ⟨by rfl, ?_⟩; intro wq hSw; (try dsimp only at hSw); go_simp; (try with_reducible rfl))
         (try simp only [Act.put, pA, pZ, pS])
         refine tkT 1 ?oi402 (?v402) ?hi402 ?hy402 ?_
         case hi402 => (simp only [gA, gS, gZ]; try rfl)
         case hy402 => (refine Or.inl ⟨by rfl, ?_⟩; intro wq hSw; (try dsimp only at hSw); go_simp; (try with_reducible rfl))
         (try simp only [Act.put, pA, pZ, pS])
         refine tkT 2 ?oi403 (?v403) ?hi403 ?hy403 ?_
         case hi403 => (simp only [gA, gS, gZ]; try rfl)
         case hy403 => (refine Or.inl ⟨by rfl, ?_⟩; intro wq hSw; (try dsimp only at hSw); go_simp; (try with_reducible rfl))
         (try simp only [Act.put, pA, pZ, pS])
         refine tkT 3 ?oi404 (?v404) ?hi404 ?hy404 ?_
         case hi404 => (simp only [gA, gS, gZ]; try rfl)
         case hy404 => (refine Or.inl ⟨by rfl, ?_⟩; intro wq hSw; (try dsimp only at hSw); go_simp; (try with_reducible rfl))
         (try simp only [Act.put, pA, pZ, pS])
         refine tkT 4 ?oi405 (?v405) ?hi405 ?hy405 ?_
         case hi405 => (simp only [gA, gS, gZ]; try rfl)
         case hy405 => (refine Or.inl ⟨by rfl, ?_⟩; intro wq hSw; (try dsimp only at hSw); go_simp; (try with_reducible rfl))
         (try simp only [Act.put, pA, pZ, pS])
         refine tkT 5 ?oi406 (?v406) ?hi406 ?hy406 ?_
         case hi406 => (simp only [gA, gS, gZ]; try rfl)
         case hy406 => (refine Or.inl ⟨by rfl, ?_⟩; intro wq hSw; (try dsimp only at hSw); go_simp; (try with_reducible rfl))
         (try simp only [Act.put, pA, pZ, pS])
         refine wpAnyT_ready (rs := [6]) (by kernel_rfl) (by simp) ?_
         refine AllReadyT.cons (o := ?oi407) ?hi407 ?ti407 AllReadyT.nil
         case hi407 => (simp only [gA, gS, gZ]; try rfl)
         case ti407 =>
          intro KQ hKQ
          go_simp
          refine hKQ.out _ _ (by simp [go_sem, ↓IntWalk.iteOmega, *]) (fun hHeld2 => ?_)
          clear hHeld hKQ KQ; have hHeld := hHeld2; clear hHeld2
          (try simp only [Act.put, pA, pZ, pS])
          refine wpAnyT_ready (rs := [7]) (by kernel_rfl) (by simp) ?_
          refine AllReadyT.cons (o := ?oi408) ?hi408 ?ti408 AllReadyT.nil
          case hi408 => (simp only [gA, gS, gZ]; try rfl)
          case ti408 =>
           intro KQ hKQ
           refine step_app2 _ (by rfl) (.tmp 98) (.tmp 100) (by rfl) elTree W (ex_) (.slice none 0 0) 0 [] (by rfl) (World.ownsRow_nil _ _ _ _) _ 1 1 [.pointer (some ⟨tpb, 0, none⟩)] (by rfl) (Rd.lit _ _ _ 1 1 rfl (by simp [size_ext])) (by intro u hu; simp at hu; subst hu; rfl) (by unfold maxLen; omega) (by omega) ?_
           intro v' x' hown' hg' _
           obtain ⟨A', c', rfl, _, _⟩ := Own.form hown'
           have hrn := HST9.out _ A' c' _ _ (some ⟨tpb, 0, none⟩) _ _ (Ext.ex W x1) (by rw [HRT.out]; exact HXX.out) (ex_) hg' (by simpa using hown')
           have hw : (ext W x').setCell ⟨xb, 3, none⟩ (.slice A' 1 c') = ext (W.setCell ⟨xb, 3, none⟩ (.slice A' 1 c')) x' := setCell_ext W x' xb 3 _ lx
           rw [hw] at hrn
           have HRN := Lib.hid hrn
           clear hrn hown' hg' hw
           refine hKQ.out _ _ (by simp [go_sem, ↓IntWalk.iteOmega, *]) (fun hHeld2 => ?_)
           clear hHeld hKQ KQ; have hHeld := hHeld2; clear hHeld2
           (try simp only [Act.put, pA, pZ, pS])
           refine tkT 8 ?oi409 (?v409) ?hi409 ?hy409 ?_
           case hi409 => (simp only [gA, gS, gZ]; try rfl)
           case hy409 => (refine Or.inl ⟨by rfl, ?_⟩; intro wq hSw; (try dsimp only at hSw); go_simp; (try with_reducible rfl))
           (try simp only [Act.put, pA, pZ, pS])
           refine tkT 9 ?oi410 (?v410) ?hi410 ?hy410 ?_
           case hi410 => (simp only [gA, gS, gZ]; try rfl)
           case hy410 => (refine Or.inl ⟨by rfl, ?_⟩; intro wq hSw; (try dsimp only at hSw); go_simp; (try with_reducible rfl))
           (try simp only [Act.put, pA, pZ, pS])
           refine wpAnyT_ready (rs := [10]) (by kernel_rfl) (by simp) ?_
           refine AllReadyT.last (o := ?oi411) ?hi411 ?ti411
           case hi411 => (simp only [gA, gS, gZ]; try rfl)
           case ti411 =>
            intro KQ hKQ
            go_simp
            (repeat (simp only [go_sem, ↓IntWalk.iteOmega, ↓reduceIte, Bool.false_eq_true]; (try go_simp)))
            refine hKQ.out _ _ ?_
            clear hKQ KQ hHeld
            (try simp only [Act.put, pA, pZ, pS])
            refine wpAnyT_done (by kernel_rfl) ?_ _
            exact HRN.out
        case done =>
         rintro D xs W hD hS hr hK
         have HS := Lib.hid hS
         have HR := Lib.hid hr
         have lv : xb + 1 < W0.heap.size := (Array.getElem?_eq_some_iff.1 HN0.out.hV).1
         have hWsz := hr.1.size
         have lvW : xb + 1 < W.heap.size := by omega
         have cv : W.cell? ⟨xb + 1, 0, none⟩ = some (pt xb) := (hr.1.cell lv (by omega)).trans (cell_of HN0.out.hV rfl)
         clear hS hr
         go_wp2
         refine ⟨by simp, .inl ⟨_, _, rfl, run_takeDeferred hK, ?_⟩⟩
         refine ⟨_, results_tmp rfl _ _ _, ?_⟩
         obtain ⟨f1, f2⟩ := rn_done HN0.out HST.out hn2 HPS.out HRS.out HR.out rfl (.inr (one_ix (by rw [hnc] at HS; exact HS.out))) hD hK
         exact ⟨xb, S, rfl, f1, HSC.out, f2⟩
        case stop =>
         rintro D c pre W _ _ h _
         exact h.elim
   

end Go.Proofs.YtdiaecgpjgdkdaaGreat

namespace Go.Proofs.YtdiaecgpjgdkdaaGreat
open Go.RowKit

set_option maxRecDepth 100000 in
set_option maxHeartbeats 8000000 in
theorem len_nil (w : World) : Calls Tryz.prog 5 #[.pointer none] w fun e w' => e = .returned (.int .i64 0) ∧ Ext w w' := by
 go_enter Tryz.func5, Tryz.ntmps5
 go_wp2
 go_ret
 exact ⟨rfl, ex_⟩
set_option maxRecDepth 100000 in
set_option maxHeartbeats 8000000 in
theorem lenX_any (xb : Nat) (ks : List Int) (S : List VeA) (w : World) (hI : IxM w xb ks S) : Calls Tryz.prog 5 #[pt xb] w fun e w' => e = .returned (.int .i64 S.length) ∧ Ext w w' := by
 obtain ⟨VA, n, vc, tb, ib, RA, m, rc, base, Ks, t, R, h⟩ := hI
 have HN := Lib.hid h.sn
 have h2 := h.n200
 obtain ⟨lx, c0, -, -, -, -⟩ := h.x.c
 clear h
 go_enter Tryz.func5, Tryz.ntmps5
 go_wp2
 go_ret
 exact ⟨by rw [HN.out]; rfl, ex_⟩
set_option maxRecDepth 100000 in
set_option maxHeartbeats 8000000 in
theorem samev_any (p q : VeA) (w : World) (hp : Rd w 3 p.row.A p.row.l.length (vcl p.row.l)) (hq : Rd w 3 q.row.A q.row.l.length (vcl q.row.l)) (hl : p.row.l.length ≤ 1048576) (he : vcO p = vcO q) :
  Calls Tryz.prog 30 #[vgA p, vgA q] w fun e w' => e = .returned (.bool true) ∧ Ext w w' := by
 obtain ⟨id, sch, ⟨rA, rc, rl⟩, ⟨v1, v2⟩, ⟨s1, s2⟩, by_, un⟩ := p
 obtain ⟨id', sch', ⟨rA', rc', rl'⟩, ⟨v1', v2'⟩, ⟨s1', s2'⟩, by_', un'⟩ := q
 unfold vcO at he
 simp only [VC.mk.injEq, Prod.mk.injEq] at he
 obtain ⟨rfl, rfl, rfl, ⟨rfl, rfl⟩, ⟨rfl, rfl⟩, rfl, rfl⟩ := he
 have HE := Lib.hid fun W (e : Ext w W) => requal_any rA rA' rc rc' rl rl W (hp.ext e) (hq.ext e) (by dsimp only at hl; omega) (by dsimp only at hl; omega)
 rw [show (cmpR rl rl == 0) = true from by simp [cmpR_zero.2 rfl]] at HE
 clear hp hq hl
 go_enter Tryz.func30, Tryz.ntmps30
 go_wp2_with (go_at_call 60; refine (HE.out _ (ex_)).mono ?_; rintro e w1 ⟨rfl, hb1⟩; obtain ⟨x1, rfl⟩ := hb1.get; clear hb1)
 go_ret
 exact ⟨rfl, ex_⟩
set_option maxRecDepth 100000 in
set_option maxHeartbeats 8000000 in
theorem sameX_any (A B : Option Addr) (n c d : Nat) (P Q : List VeA) (w : World) (hP : P.length = n) (hRP : Rd w 9 A n (P.flatMap encVe)) (hRQ : Rd w 9 B n (Q.flatMap encVe)) (hOP : VsOk w P) (hOQ : VsOk w Q) (he : P.map vcO = Q.map vcO) (hn : n ≤ 1048576) :
  Calls Tryz.prog 10 #[.slice A n c, .slice B n d] w fun e w' => e = .returned (.bool true) ∧ Ext w w' := by
 have hQ : Q.length = n := by rw [← hP]; simpa using (congrArg List.length he).symm
 have HP := Lib.hid hP
 have HQ := Lib.hid hQ
 have HRP := Lib.hid hRP
 have HRQ := Lib.hid hRQ
 have HOP := Lib.hid hOP
 have HOQ := Lib.hid hOQ
 have HE := Lib.hid he
 clear hP hQ hRP hRQ hOP hOQ he
 go_enter Tryz.func10, Tryz.ntmps10
 go_wp2
 go_loopw [5] (fun si wr => ∃ k : Nat, k ≤ n ∧ si = .int .i64 k ∧ Ext w wr) (fun si _ => n - (intOf si).toNat)
 case atStart => exact ⟨0, Nat.zero_le _, rfl, ex_⟩
 case round =>
  obtain ⟨k, hk, rfl, hE⟩ := hrel
  obtain ⟨x, rfl⟩ := hE.get
  clear hE
  by_cases hlt : k < n
  ·
   obtain ⟨p, b, oo, hpi, rfl, hb, c0, c1, c2, c3, c4, c5, c6, c7, c8⟩ := HRP.out.ve9 HP.out hlt
   obtain ⟨q, b2, oo2, hqi, rfl, hb2, d0, d1, d2, d3, d4, d5, d6, d7, d8⟩ := HRQ.out.ve9 HQ.out hlt
   have hpm := HOP.out p (List.mem_of_getElem? hpi)
   have hqm := HOQ.out q (List.mem_of_getElem? hqi)
   have hpq : vcO p = vcO q := by
    have := congrArg (fun l => l[k]?) HE.out
    simpa [hpi, hqi] using this
   have HSV := Lib.hid fun W (e : Ext w W) => samev_any p q W (hpm.1.ext e) (hqm.1.ext e) hpm.2.1 hpq
   have hkz : (k : Int) < (n : Int) := by omega
   clear hpi hqi hpm hqm hpq
   go_wp2_with fail
   refine wp_region_ext (by kernel_rfl) (by kernel_rfl) ?_
   repeat (first | go_big_quiet_step ((go_at_call 30; exact Calls.ext_of (HSV.out _ (ex_)))) | quiet_step ((go_at_call 30; exact Calls.ext_of (HSV.out _ (ex_)))))
   refine wpQuiet_nil ?_
   intro _ hw'
   obtain ⟨xq, hw''⟩ := hw'
   subst hw''
   go_wp2
   go_roundw
   case rel => exact ⟨k + 1, by omega, by go_num, ex_⟩
   case measure => simp [intOf]; omega
  ·
   have hkz : ¬ (k : Int) < (n : Int) := by omega
   go_wp2
   go_ret
   exact ⟨rfl, ex_⟩

end Go.Proofs.YtdiaecgpjgdkdaaGreat

namespace Go.Proofs.YtdiaecgpjgdkdaaGreat
open Go.RowKit

def insV (T : List VeA) (x : VeA) : List VeA := T.takeWhile (fun y => befV y x) ++ x :: T.dropWhile (fun y => befV y x)
def stV (f : VC → Bool) (T : List VeA) (x : VeA) : List VeA := if f (vcO x) then insV T x else T
def fetV (f : VC → Bool) (vs : List VeA) : List VeA := vs.foldl (stV f) []
theorem insV_map (T : List VeA) (x : VeA) : (insV T x).map vcO = insC (T.map vcO) (vcO x) := by
 unfold insV insC
 rw [List.map_append, List.map_cons, List.takeWhile_map, List.dropWhile_map]
 rfl
theorem fetV_aux (f : VC → Bool) : ∀ (vs T : List VeA), (vs.foldl (stV f) T).map vcO = (vs.map vcO).foldl (fun out x => if f x then insC out x else out) (T.map vcO)
 | [], T => rfl
 | v :: vs, T => by
  rw [List.foldl_cons, List.map_cons, List.foldl_cons, fetV_aux f vs]
  congr 1
  unfold stV
  split
  ·
   exact insV_map T v
  ·
   rfl
theorem fetV_map (f : VC → Bool) (vs : List VeA) : (fetV f vs).map vcO = fetC f (vs.map vcO) := fetV_aux f vs []
theorem insV_len (T : List VeA) (x : VeA) : (insV T x).length = T.length + 1 := by
 have h := congrArg List.length (List.takeWhile_append_dropWhile (p := fun y => befV y x) (l := T))
 rw [List.length_append] at h
 unfold insV
 rw [List.length_append, List.length_cons]
 omega
theorem insV_mem {T vs : List VeA} {x : VeA} (h : ∀ p ∈ T, p ∈ vs) (hx : x ∈ vs) : ∀ p ∈ insV T x, p ∈ vs := fun p hp => by
 unfold insV at hp
 rcases List.mem_append.1 hp with hp | hp
 ·
  exact h p (List.takeWhile_subset _ hp)
 ·
  rcases List.mem_cons.1 hp with rfl | hp
  ·
   exact hx
  ·
   exact h p ((List.dropWhile_sublist _).subset hp)
def nxt (T : List VeA) (a : Nat) (x : VeA) (i : Nat) : List VeA := if a < i then T.take a ++ x :: (T.drop a).take (i - a) else T.take i
theorem nxt_step {T : List VeA} {a i : Nat} {x t : VeA} (ht : T[i]? = some t) : nxt T a x (i + 1) = (if i = a then nxt T a x i ++ [x] else nxt T a x i) ++ [t] := by
 obtain ⟨hi, he⟩ := List.getElem?_eq_some_iff.1 ht
 unfold nxt
 rcases Nat.lt_trichotomy i a with h | rfl | h
 ·
  rw [if_neg (by omega), if_neg (by omega), if_neg (by omega), List.take_succ_eq_append_getElem hi, he]
 ·
  rw [if_pos (by omega), if_pos rfl, if_neg (by omega), show i + 1 - i = 1 from by omega, List.drop_eq_getElem_cons hi, he]
  simp
 ·
  rw [if_pos (by omega), if_neg (by omega), if_pos h, show i + 1 - a = (i - a) + 1 from by omega, List.take_succ_eq_append_getElem (by simp; omega)]
  simp [show a + (i - a) = i from by omega, he]
theorem nxt_end {T : List VeA} {a : Nat} {x : VeA} (hA : T.takeWhile (fun y => befV y x) = T.take a ∧ T.dropWhile (fun y => befV y x) = T.drop a) (ha : a ≤ T.length) : nxt T a x T.length ++ (if a = T.length then [x] else []) = insV T x := by
 unfold nxt insV
 rw [hA.1, hA.2]
 by_cases h : a = T.length
 ·
  rw [if_neg (by omega), if_pos h, h]
  simp
 ·
  have e : (T.drop a).take (T.length - a) = T.drop a := List.take_of_length_le (by simp)
  rw [if_pos (by omega), if_neg h, e]
  simp
theorem place_of {T : List VeA} {x : VeA} : ∀ {a : Nat}, a ≤ T.length → (∀ i q, i < a → T[i]? = some q → befV q x = true) → (∀ q, T[a]? = some q → befV q x = false) → T.takeWhile (fun y => befV y x) = T.take a ∧ T.dropWhile (fun y => befV y x) = T.drop a := by
 induction T with
 | nil => intro a ha _ _; simp at ha; subst ha; exact ⟨rfl, rfl⟩
 | cons t T ih =>
  intro a ha h1 h2
  cases a with
  | zero =>
   have := h2 t rfl
   rw [List.takeWhile_cons, List.dropWhile_cons, this]
   exact ⟨rfl, rfl⟩
  | succ a =>
   have h3 := h1 0 t (by omega) rfl
   have := ih (a := a) (by simpa using ha) (fun i q hi hq => h1 (i + 1) q (by omega) hq) (fun q hq => h2 q hq)
   rw [List.takeWhile_cons, List.dropWhile_cons, h3]
   exact ⟨by simp [this.1], by simp [this.2]⟩
def RfP (Q vs : List VeA) (w : World) (e : Ending) (w' : World) : Prop := ∃ A c, e = .returned (.slice A Q.length c) ∧ Ext w w' ∧ Hid (Rd w' 9 A Q.length (Q.flatMap encVe)) ∧ Hid (∀ x ∈ Q, x ∈ vs)
set_option maxRecDepth 100000 in
set_option maxHeartbeats 16000000 in
theorem rfetch_any (s0 : ByteArray) (a1 a3 a4 K : Option Addr) (n1 m1 n3 m3 n4 m4 kc : Nat) (ks : List Int) (VL : Option Addr) (n vc : Nat) (vs : List VeA) (kd : Int) (PK : Option Addr) (kn pc : Nat) (key : List Va) (p q : Int × Int) (w : World) (hK : Rd w 1 K ks.length (ic ks)) (nk : ks.length ≤ 1048576) (hvl : vs.length = n) (hV : Rd w 9 VL n (vs.flatMap encVe)) (hok : VsOk w vs) (hn2 : n ≤ 200) (hkn : key.length = kn) (hP : Rd w 3 PK kn (vcl key)) (nkn : kn ≤ 9223372036854775807) :
  Calls Tryz.prog 11 #[.agg #[.string s0, .slice a1 n1 m1, .slice K ks.length kc, .slice a3 n3 m3, .slice a4 n4 m4], .slice VL n vc, .agg #[.int .i64 kd, .slice PK kn pc, .int .i64 p.1, .int .i64 p.2, .int .i64 q.1, .int .i64 q.2]] w (RfP (fetV (hasC ks kd key p q) vs) vs w) := by
 have HVL := Lib.hid hvl
 have HV := Lib.hid hV
 have HMM : Hid (∀ x ∈ vs, ∀ W, Ext w W → Calls Tryz.prog 31 #[.agg #[.string s0, .slice a1 n1 m1, .slice K ks.length kc, .slice a3 n3 m3, .slice a4 n4 m4], .agg #[.int .i64 kd, .slice PK kn pc, .int .i64 p.1, .int .i64 p.2, .int .i64 q.1, .int .i64 q.2], vgA x] W fun e w' => e = .returned (.bool (hasC ks kd key p q (vcO x))) ∧ Ext W w') := Lib.hid fun x hx W e => by
  have hx2 := hok x hx
  have := rmatches_any s0 a1 a3 a4 K n1 m1 n3 m3 n4 m4 kc ks x.id x.sch x.row.A x.row.c x.row.l x.v x.s x.by_ x.un kd PK pc key p q W (hx2.1.ext e) (hK.ext e) (by rw [hkn]; exact hP.ext e) (by omega) nk (by omega)
  rw [hkn] at this
  exact this
 have HFV : ∀ vs, Hid (fetV (hasC ks kd key p q) vs = vs.foldl (stV (hasC ks kd key p q)) []) := fun vs => Lib.hid rfl
 have HFD := Lib.hid HFV
 clear hok hK hP hvl hV HFV
 generalize hasC ks kd key p q = f at HMM HFD ⊢
 go_enter Tryz.func11, Tryz.ntmps11
 go_wp2
 obtain ⟨w1, hw1⟩ : ∃ W, (w.alloc (.cells #[.string s0, .slice a1 n1 m1, .slice K ks.length kc, .slice a3 n3 m3, .slice a4 n4 m4] 27)).alloc (.cells #[.int .i64 kd, .slice PK kn pc, .int .i64 p.1, .int .i64 p.2, .int .i64 q.1, .int .i64 q.2] 39) = W := ⟨_, rfl⟩
 have hE1 : Ext w w1 := by rw [← hw1]; exact (ex_)
 have hs1 : w1.heap.size = w.heap.size + 2 := by rw [← hw1]; simp
 have g0 : w1.cell? ⟨w.heap.size, 0, none⟩ = some (.string s0) := by rw [← hw1]; simp [go_sem, ↓IntWalk.iteOmega]
 have g1 : w1.cell? ⟨w.heap.size, 1, none⟩ = some (.slice a1 n1 m1) := by rw [← hw1]; simp [go_sem, ↓IntWalk.iteOmega]
 have g2 : w1.cell? ⟨w.heap.size, 2, none⟩ = some (.slice K ks.length kc) := by rw [← hw1]; simp [go_sem, ↓IntWalk.iteOmega]
 have g3 : w1.cell? ⟨w.heap.size, 3, none⟩ = some (.slice a3 n3 m3) := by rw [← hw1]; simp [go_sem, ↓IntWalk.iteOmega]
 have g4 : w1.cell? ⟨w.heap.size, 4, none⟩ = some (.slice a4 n4 m4) := by rw [← hw1]; simp [go_sem, ↓IntWalk.iteOmega]
 have p0 : w1.cell? ⟨w.heap.size + 1, 0, none⟩ = some (.int .i64 kd) := by rw [← hw1]; simp [go_sem, ↓IntWalk.iteOmega]
 have p1 : w1.cell? ⟨w.heap.size + 1, 1, none⟩ = some (.slice PK kn pc) := by rw [← hw1]; simp [go_sem, ↓IntWalk.iteOmega]
 have p2 : w1.cell? ⟨w.heap.size + 1, 2, none⟩ = some (.int .i64 p.1) := by rw [← hw1]; simp [go_sem, ↓IntWalk.iteOmega]
 have p3 : w1.cell? ⟨w.heap.size + 1, 3, none⟩ = some (.int .i64 p.2) := by rw [← hw1]; simp [go_sem, ↓IntWalk.iteOmega]
 have p4 : w1.cell? ⟨w.heap.size + 1, 4, none⟩ = some (.int .i64 q.1) := by rw [← hw1]; simp [go_sem, ↓IntWalk.iteOmega]
 have p5 : w1.cell? ⟨w.heap.size + 1, 5, none⟩ = some (.int .i64 q.2) := by rw [← hw1]; simp [go_sem, ↓IntWalk.iteOmega]
 rw [hw1]
 clear hw1
 go_loopw [7, 8] (fun so si wr => ∃ (k : Nat) (T : List VeA) (x : Add), k ≤ n ∧ si = .int .i64 k ∧ T.length ≤ k ∧ Hid (T = (vs.take k).foldl (stV f) []) ∧ Hid (∀ p ∈ T, p ∈ vs) ∧ wr = ext w1 x ∧ Own w1 x 47 9 so T.length (T.flatMap encVe)) (fun _ si _ => n - (intOf si).toNat)
 case atStart =>
  obtain ⟨x, hx⟩ := (Ext.al1 w1 (.cells #[] 47)).get
  exact ⟨0, [], x, Nat.zero_le _, rfl, by simp, Lib.hid rfl, Lib.hid (fun p h => by cases h), hx, by unfold Own; rw [← hx]; exact own_litv _ _ _ (by simp [hs1])⟩
 case round =>
  obtain ⟨k, T, x, hk, rfl, hTk, HT, HTM, rfl, hown⟩ := hrel
  have hlow : w.heap.size + 1 < w1.heap.size := by omega
  clear hs1
  by_cases hlt : k < n
  ·
   obtain ⟨xv, b, oo, hpi, rfl, hb, c0, c1, c2, c3, c4, c5, c6, c7, c8⟩ := (HV.out.ext hE1).ve9 HVL.out hlt
   have hxm := List.mem_of_getElem? hpi
   have HM := Lib.hid fun W (e : Ext w W) => HMM.out xv hxm W e
   have HST : Hid ((vs.take (k + 1)).foldl (stV f) [] = if f (vcO xv) then insV ((vs.take k).foldl (stV f) []) xv else (vs.take k).foldl (stV f) []) := Lib.hid (by
    obtain ⟨h1, h2⟩ := List.getElem?_eq_some_iff.1 hpi
    rw [List.take_succ_eq_append_getElem h1, h2, List.foldl_append]
    rfl)
   have hkz : (k : Int) < (n : Int) := by omega
   clear hpi
   rcases hf : f (vcO xv) with _ | _
   ·
    rw [hf] at HM
    have HF : Hid (f (vcO xv) = false) := Lib.hid hf
    clear hf
    go_wp2_with fail
    refine wp_region_ext (by kernel_rfl) (by kernel_rfl) ?_
    repeat (first | go_big_quiet_step ((go_at_call 31; exact Calls.ext_of (HM.out _ (ex_)))) | quiet_step ((go_at_call 31; exact Calls.ext_of (HM.out _ (ex_)))))
    refine wpQuiet_nil ?_
    intro _ hw'
    obtain ⟨xq, hw''⟩ := hw'
    subst hw''
    go_wp2
    obtain ⟨z9, hz9⟩ := (Ext.ex' (Ext.ex w1 x) xq).get
    go_roundw
    case rel => exact ⟨k + 1, T, z9, by omega, by go_num, by omega, Lib.hid (by rw [HST.out, HF.out, HT.out]; rfl), HTM, hz9, by unfold Own; rw [← hz9]; exact own_ext hown _⟩
    case measure => simp [intOf]; omega
   ·
    rw [hf] at HM
    have HF : Hid (f (vcO xv) = true) := Lib.hid hf
    clear hf
    obtain ⟨AO, cO, rfl, hcO, _⟩ := Own.form hown
    go_wp2_with fail
    refine wp_region_ext (by kernel_rfl) (by kernel_rfl) ?_
    repeat (first | go_big_quiet_step ((go_at_call 31; exact Calls.ext_of (HM.out _ (ex_)))) | quiet_step ((go_at_call 31; exact Calls.ext_of (HM.out _ (ex_)))))
    refine wpQuiet_nil ?_
    intro _ hw'
    obtain ⟨xq, hw''⟩ := hw'
    subst hw''
    go_wp2
    go_loopw [9] (fun sp wr2 => ∃ a : Nat, a ≤ T.length ∧ sp = .int .i64 a ∧ Hid (∀ i q, i < a → T[i]? = some q → befV q xv = true) ∧ Ext (ext w1 x) wr2) (fun sp _ => T.length - (intOf sp).toNat)
    case atStart => exact ⟨0, Nat.zero_le _, rfl, Lib.hid fun i q h => absurd h (by omega), ex_⟩
    case round =>
     obtain ⟨a, ha, rfl, HBA, hE2⟩ := hrel
     obtain ⟨y, rfl⟩ := hE2.get
     clear hE2
     by_cases hlt2 : a < T.length
     ·
      obtain ⟨tq, b2, o2, htq, hA2, hb2, d0, d1, d2, d3, d4, d5, d6, d7, d8⟩ := (Rd.of_own hown).ve9 rfl hlt2
      subst hA2
      have hb2' : b2 < w1.heap.size + x.n := by simpa [size_ext] using hb2
      clear hb2
      have HB := Lib.hid fun W => before49_any tq xv W
      have haz : (a : Int) < (T.length : Int) := by omega
      rcases hbq : befV tq xv with _ | _
      ·
       rw [hbq] at HB
       have HA : Hid (T.takeWhile (fun y => befV y xv) = T.take a ∧ T.dropWhile (fun y => befV y xv) = T.drop a) := Lib.hid (place_of ha HBA.out fun q h => by rw [htq] at h; cases h; exact hbq)
       clear htq hbq
       go_wp2_with fail
       refine wp_region_held_drew (S := (fun w' => w'.cell? ⟨b2, o2 + a * 9, none⟩ = some (.int .i64 tq.id) ∧ w'.cell? ⟨b2, o2 + a * 9 + 1, none⟩ = some (.int .i64 tq.sch) ∧ w'.cell? ⟨b2, o2 + a * 9 + 2, none⟩ = some (.slice tq.row.A tq.row.l.length tq.row.c) ∧ w'.cell? ⟨b2, o2 + a * 9 + 3, none⟩ = some (.int .i64 tq.v.1) ∧ w'.cell? ⟨b2, o2 + a * 9 + 4, none⟩ = some (.int .i64 tq.v.2) ∧ w'.cell? ⟨b2, o2 + a * 9 + 5, none⟩ = some (.int .i64 tq.s.1) ∧ w'.cell? ⟨b2, o2 + a * 9 + 6, none⟩ = some (.int .i64 tq.s.2) ∧ w'.cell? ⟨b2, o2 + a * 9 + 7, none⟩ = some (.int .i64 tq.by_) ∧ w'.cell? ⟨b2, o2 + a * 9 + 8, none⟩ = some (.int .i64 tq.un) ∧ w'.cell? ⟨b, oo + k * 9, none⟩ = some (.int .i64 xv.id) ∧ w'.cell? ⟨b, oo + k * 9 + 1, none⟩ = some (.int .i64 xv.sch) ∧ w'.cell? ⟨b, oo + k * 9 + 2, none⟩ = some (.slice xv.row.A xv.row.l.length xv.row.c) ∧ w'.cell? ⟨b, oo + k * 9 + 3, none⟩ = some (.int .i64 xv.v.1) ∧ w'.cell? ⟨b, oo + k * 9 + 4, none⟩ = some (.int .i64 xv.v.2) ∧ w'.cell? ⟨b, oo + k * 9 + 5, none⟩ = some (.int .i64 xv.s.1) ∧ w'.cell? ⟨b, oo + k * 9 + 6, none⟩ = some (.int .i64 xv.s.2) ∧ w'.cell? ⟨b, oo + k * 9 + 7, none⟩ = some (.int .i64 xv.by_) ∧ w'.cell? ⟨b, oo + k * 9 + 8, none⟩ = some (.int .i64 xv.un))) (by kernel_rfl) (by simp [go_sem, ↓IntWalk.iteOmega, *]) (fun hHeld => ?_)
       refine tkH 0 ?oi101 (?v101) ?hi101 ?hy101 ?_
       case hi101 => (simp only [gA, gS, gZ]; try rfl)
       case hy101 => (refine Or.inl ⟨by rfl, ?_⟩; intro wq hSw; (try dsimp only at hSw); go_simp; (try with_reducible rfl))
       (try simp only [Act.put, pA, pZ, pS])
       refine tkH 1 ?oi102 (?v102) ?hi102 ?hy102 ?_
       case hi102 => (simp only [gA, gS, gZ]; try rfl)
       case hy102 => (refine Or.inl ⟨by rfl, ?_⟩; intro wq hSw; (try dsimp only at hSw); go_simp; (try with_reducible rfl))
       (try simp only [Act.put, pA, pZ, pS])
       refine tkH 2 ?oi103 (?v103) ?hi103 ?hy103 ?_
       case hi103 => (simp only [gA, gS, gZ]; try rfl)
       case hy103 => (refine Or.inl ⟨by rfl, ?_⟩; intro wq hSw; (try dsimp only at hSw); go_simp; (try with_reducible rfl))
       (try simp only [Act.put, pA, pZ, pS])
       refine tkH 3 ?oi104 (?v104) ?hi104 ?hy104 ?_
       case hi104 => (simp only [gA, gS, gZ]; try rfl)
       case hy104 => (refine Or.inl ⟨by rfl, ?_⟩; intro wq hSw; (try dsimp only at hSw); go_simp; (try with_reducible rfl))
       (try simp only [Act.put, pA, pZ, pS])
       refine tkH 4 ?oi105 (?v105) ?hi105 ?hy105 ?_
       case hi105 => (simp only [gA, gS, gZ]; try rfl)
       case hy105 => (refine Or.inl ⟨by rfl, ?_⟩; intro wq hSw; (try dsimp only at hSw); go_simp; (try with_reducible rfl))
       (try simp only [Act.put, pA, pZ, pS])
       refine tkH 5 ?oi106 (?v106) ?hi106 ?hy106 ?_
       case hi106 => (simp only [gA, gS, gZ]; try rfl)
       case hy106 => (refine Or.inl ⟨by rfl, ?_⟩; intro wq hSw; (try dsimp only at hSw); go_simp; (try with_reducible rfl))
       (try simp only [Act.put, pA, pZ, pS])
       refine tkH 6 ?oi107 (?v107) ?hi107 ?hy107 ?_
       case hi107 => (simp only [gA, gS, gZ]; try rfl)
       case hy107 => (refine Or.inl ⟨by rfl, ?_⟩; intro wq hSw; (try dsimp only at hSw); go_simp; (try with_reducible rfl))
       (try simp only [Act.put, pA, pZ, pS])
       refine tkH 7 ?oi108 (?v108) ?hi108 ?hy108 ?_
       case hi108 => (simp only [gA, gS, gZ]; try rfl)
       case hy108 => (refine Or.inl ⟨by rfl, ?_⟩; intro wq hSw; (try dsimp only at hSw); go_simp; (try with_reducible rfl))
       (try simp only [Act.put, pA, pZ, pS])
       refine tkH 8 ?oi109 (?v109) ?hi109 ?hy109 ?_
       case hi109 => (simp only [gA, gS, gZ]; try rfl)
       case hy109 => (refine Or.inl ⟨by rfl, ?_⟩; intro wq hSw; (try dsimp only at hSw); go_simp; (try with_reducible rfl))
       (try simp only [Act.put, pA, pZ, pS])
       refine tkH 9 ?oi110 (?v110) ?hi110 ?hy110 ?_
       case hi110 => (simp only [gA, gS, gZ]; try rfl)
       case hy110 => (refine Or.inl ⟨by rfl, ?_⟩; intro wq hSw; (try dsimp only at hSw); go_simp; (try with_reducible rfl))
       (try simp only [Act.put, pA, pZ, pS])
       refine tkH 10 ?oi111 (?v111) ?hi111 ?hy111 ?_
       case hi111 => (simp only [gA, gS, gZ]; try rfl)
       case hy111 => (refine Or.inl ⟨by rfl, ?_⟩; intro wq hSw; (try dsimp only at hSw); go_simp; (try with_reducible rfl))
       (try simp only [Act.put, pA, pZ, pS])
       refine tkH 11 ?oi112 (?v112) ?hi112 ?hy112 ?_
       case hi112 => (simp only [gA, gS, gZ]; try rfl)
       case hy112 => (refine Or.inl ⟨by rfl, ?_⟩; intro wq hSw; (try dsimp only at hSw); go_simp; (try with_reducible rfl))
       (try simp only [Act.put, pA, pZ, pS])
       refine tkH 12 ?oi113 (?v113) ?hi113 ?hy113 ?_
       case hi113 => (simp only [gA, gS, gZ]; try rfl)
       case hy113 => (refine Or.inl ⟨by rfl, ?_⟩; intro wq hSw; (try dsimp only at hSw); go_simp; (try with_reducible rfl))
       (try simp only [Act.put, pA, pZ, pS])
       refine wpAnyH_ready (rs := [13]) (by kernel_rfl) (by simp) ?_
       refine AllReadyH.cons (o := ?oi114) ?hi114 ?ti114 AllReadyH.nil
       case hi114 => (simp only [gA, gS, gZ]; try rfl)
       case ti114 =>
        intro KQ hKQ
        go_simp
        go_at_call 32
        refine (HB.out _).mono ?_
        rintro e w5 ⟨rfl, hb1⟩
        obtain ⟨x5, rfl⟩ := hb1.get
        clear hb1
        refine hKQ.out _ _ (by simp [go_sem, ↓IntWalk.iteOmega, *]) (fun hHeld2 => ?_)
        clear hHeld hKQ KQ; have hHeld := hHeld2; clear hHeld2
        (try simp only [Act.put, pA, pZ, pS])
        refine tkH 14 ?oi115 (?v115) ?hi115 ?hy115 ?_
        case hi115 => (simp only [gA, gS, gZ]; try rfl)
        case hy115 => (refine Or.inl ⟨by rfl, ?_⟩; intro wq hSw; (try dsimp only at hSw); go_simp; (try with_reducible rfl))
        (try simp only [Act.put, pA, pZ, pS])
        refine wpAnyH_done (by kernel_rfl) ?_ _
        go_wp2
        
        obtain ⟨W3, hW3⟩ : ∃ W, ext (ext (ext w1 x) y).drew x5 = W := ⟨_, rfl⟩
        have RT : Rd W3 9 (some ⟨b2, o2, none⟩) T.length (T.flatMap encVe) := by rw [← hW3]; exact (Rd.of_own hown).ext (ex_)
        have hE3 : Ext w1 W3 := by rw [← hW3]; exact (ex_)
        rw [hW3]
        have HW3 := Lib.hid hW3
        clear hW3 hown
        have HOT := Lib.hid RT
        have c0 := hE3.cell' c0
        have c1 := hE3.cell' c1
        have c2 := hE3.cell' c2
        have c3 := hE3.cell' c3
        have c4 := hE3.cell' c4
        have c5 := hE3.cell' c5
        have c6 := hE3.cell' c6
        have c7 := hE3.cell' c7
        have c8 := hE3.cell' c8
        have hbW : b < W3.heap.size := Nat.lt_of_lt_of_le hb hE3.size
        have HL3 := Lib.hid hlow
        clear RT hlow
        go_wp2
        go_loopw [10, 11] (fun sn si wr3 => ∃ (i : Nat) (N : List VeA) (z : Add), i ≤ T.length ∧ si = .int .i64 i ∧ N.length ≤ 2 * i + 1 ∧ Hid (N = nxt T a xv i) ∧ wr3 = ext W3 z ∧ Own W3 z 47 9 sn N.length (N.flatMap encVe)) (fun _ si _ => T.length - (intOf si).toNat)
        case atStart =>
         obtain ⟨z, hz⟩ := (Ext.al1 W3 (.cells #[] 47)).get
         exact ⟨0, [], z, Nat.zero_le _, rfl, by simp, Lib.hid (by simp [nxt]), hz, by unfold Own; rw [← hz]; exact own_litv _ _ _ (by rw [← HW3.out]; simp [size_ext])⟩
        case round =>
         obtain ⟨i, N, z, hi, rfl, hNl, HN, rfl, hownN⟩ := hrel
         by_cases hlt3 : i < T.length
         ·
          obtain ⟨tv, b3, o3, hti, hA3, hb3, e0, e1, e2, e3, e4, e5, e6, e7, e8⟩ := HOT.out.ve9 rfl hlt3
          simp only [Option.some.injEq, Addr.mk.injEq, and_true] at hA3
          obtain ⟨rfl, rfl⟩ := hA3
          have hiz : (i : Int) < (T.length : Int) := by omega
          by_cases hia : i = a
          ·
           have HNX : Hid ((N ++ [xv]) ++ [tv] = nxt T a xv (i + 1)) := Lib.hid (by rw [HN.out, nxt_step hti, if_pos hia])
           have hiaz : ((i : Int) == (a : Int)) = true := by simp [hia]
           clear hti hia
           go_wp2_with (first | (at_builtin; refine wpList_app _ rfl (.tmp 54) (.tmp 59) rfl elVeA W3 (ex_) _ _ _ rfl (by repeat (first | exact hownN | apply World.ownsRow.alloc | apply own_ext)) _ 1 1 [.int .i64 xv.id, .int .i64 xv.sch, .slice xv.row.A xv.row.l.length xv.row.c, .int .i64 xv.v.1, .int .i64 xv.v.2, .int .i64 xv.s.1, .int .i64 xv.s.2, .int .i64 xv.by_, .int .i64 xv.un] rfl (Rd.lit _ _ _ 1 9 rfl (by simp [size_ext])) (oneCell_ve xv) (by unfold maxLen; omega) (by omega) ?_; intro v1 y1 hown1 _) | (at_builtin; refine wpList_app _ rfl (.tmp 61) (.tmp 66) rfl elVeA W3 (ex_) _ _ _ rfl (by repeat (first | exact (show Own W3 y1 _ _ _ _ _ from hown1) | apply World.ownsRow.alloc | apply own_ext)) _ 1 1 [.int .i64 tv.id, .int .i64 tv.sch, .slice tv.row.A tv.row.l.length tv.row.c, .int .i64 tv.v.1, .int .i64 tv.v.2, .int .i64 tv.s.1, .int .i64 tv.s.2, .int .i64 tv.by_, .int .i64 tv.un] rfl (Rd.lit _ _ _ 1 9 rfl (by simp [size_ext])) (oneCell_ve tv) (by unfold maxLen; omega) (by omega) ?_; intro v2 y2 hown2 _))
           go_roundw
           case rel => exact ⟨i + 1, (N ++ [xv]) ++ [tv], y2, by omega, by go_num, by simp; omega, HNX, rfl, by simpa [encVe, Nat.add_assoc] using hown2⟩
           case measure => simp [intOf]; omega
          ·
           have HNX : Hid (N ++ [tv] = nxt T a xv (i + 1)) := Lib.hid (by rw [HN.out, nxt_step hti, if_neg hia])
           have hiaz : ((i : Int) == (a : Int)) = false := by simp; omega
           clear hti hia
           go_wp2_with (first | (at_builtin; refine wpList_app _ rfl (.tmp 61) (.tmp 66) rfl elVeA W3 (ex_) _ _ _ rfl (by repeat (first | exact hownN | apply World.ownsRow.alloc | apply own_ext)) _ 1 1 [.int .i64 tv.id, .int .i64 tv.sch, .slice tv.row.A tv.row.l.length tv.row.c, .int .i64 tv.v.1, .int .i64 tv.v.2, .int .i64 tv.s.1, .int .i64 tv.s.2, .int .i64 tv.by_, .int .i64 tv.un] rfl (Rd.lit _ _ _ 1 9 rfl (by simp [size_ext])) (oneCell_ve tv) (by unfold maxLen; omega) (by omega) ?_; intro v2 y2 hown2 _))
           go_roundw
           case rel => exact ⟨i + 1, N ++ [tv], y2, by omega, by go_num, by simp; omega, HNX, rfl, by simpa [encVe] using hown2⟩
           case measure => simp [intOf]; omega
         ·
          obtain rfl : i = T.length := by omega
          have hiz : ¬ (T.length : Int) < (T.length : Int) := by omega
          by_cases hat : a = T.length
          ·
           omega
          ·
           have HNX : Hid (N = insV T xv) := Lib.hid (by rw [HN.out, ← nxt_end HA.out ha, if_neg hat, List.append_nil])
           have hatz : ((a : Int) == (T.length : Int)) = false := by simp; omega
           go_wp2
           obtain ⟨z9, hz9⟩ := (hE3.tr (Ext.ex W3 z)).get
           go_roundw
           case rel => exact ⟨k + 1, N, z9, by omega, by go_num, by rw [HNX.out, insV_len]; omega, Lib.hid (by rw [HNX.out, HST.out, if_pos HF.out, HT.out]), Lib.hid (by rw [HNX.out]; exact insV_mem HTM.out hxm), hz9, by unfold Own; rw [← hz9]; exact own_mono hownN hE3.size⟩
           case measure => simp [intOf]; omega
      ·
       rw [hbq] at HB
       have HB2 : Hid (∀ i q, i < a + 1 → T[i]? = some q → befV q xv = true) := Lib.hid fun i q h1 h2 => by
        by_cases e : i = a
        ·
         subst e
         rw [htq] at h2
         cases h2
         exact hbq
        ·
         exact HBA.out i q (by omega) h2
       clear htq hbq
       go_wp2_with fail
       refine wp_region_held_drew (S := (fun w' => w'.cell? ⟨b2, o2 + a * 9, none⟩ = some (.int .i64 tq.id) ∧ w'.cell? ⟨b2, o2 + a * 9 + 1, none⟩ = some (.int .i64 tq.sch) ∧ w'.cell? ⟨b2, o2 + a * 9 + 2, none⟩ = some (.slice tq.row.A tq.row.l.length tq.row.c) ∧ w'.cell? ⟨b2, o2 + a * 9 + 3, none⟩ = some (.int .i64 tq.v.1) ∧ w'.cell? ⟨b2, o2 + a * 9 + 4, none⟩ = some (.int .i64 tq.v.2) ∧ w'.cell? ⟨b2, o2 + a * 9 + 5, none⟩ = some (.int .i64 tq.s.1) ∧ w'.cell? ⟨b2, o2 + a * 9 + 6, none⟩ = some (.int .i64 tq.s.2) ∧ w'.cell? ⟨b2, o2 + a * 9 + 7, none⟩ = some (.int .i64 tq.by_) ∧ w'.cell? ⟨b2, o2 + a * 9 + 8, none⟩ = some (.int .i64 tq.un) ∧ w'.cell? ⟨b, oo + k * 9, none⟩ = some (.int .i64 xv.id) ∧ w'.cell? ⟨b, oo + k * 9 + 1, none⟩ = some (.int .i64 xv.sch) ∧ w'.cell? ⟨b, oo + k * 9 + 2, none⟩ = some (.slice xv.row.A xv.row.l.length xv.row.c) ∧ w'.cell? ⟨b, oo + k * 9 + 3, none⟩ = some (.int .i64 xv.v.1) ∧ w'.cell? ⟨b, oo + k * 9 + 4, none⟩ = some (.int .i64 xv.v.2) ∧ w'.cell? ⟨b, oo + k * 9 + 5, none⟩ = some (.int .i64 xv.s.1) ∧ w'.cell? ⟨b, oo + k * 9 + 6, none⟩ = some (.int .i64 xv.s.2) ∧ w'.cell? ⟨b, oo + k * 9 + 7, none⟩ = some (.int .i64 xv.by_) ∧ w'.cell? ⟨b, oo + k * 9 + 8, none⟩ = some (.int .i64 xv.un))) (by kernel_rfl) (by simp [go_sem, ↓IntWalk.iteOmega, *]) (fun hHeld => ?_)
       refine tkH 0 ?oi201 (?v201) ?hi201 ?hy201 ?_
       case hi201 => (simp only [gA, gS, gZ]; try rfl)
       case hy201 => (refine Or.inl ⟨by rfl, ?_⟩; intro wq hSw; (try dsimp only at hSw); go_simp; (try with_reducible rfl))
       (try simp only [Act.put, pA, pZ, pS])
       refine tkH 1 ?oi202 (?v202) ?hi202 ?hy202 ?_
       case hi202 => (simp only [gA, gS, gZ]; try rfl)
       case hy202 => (refine Or.inl ⟨by rfl, ?_⟩; intro wq hSw; (try dsimp only at hSw); go_simp; (try with_reducible rfl))
       (try simp only [Act.put, pA, pZ, pS])
       refine tkH 2 ?oi203 (?v203) ?hi203 ?hy203 ?_
       case hi203 => (simp only [gA, gS, gZ]; try rfl)
       case hy203 => (refine Or.inl ⟨by rfl, ?_⟩; intro wq hSw; (try dsimp only at hSw); go_simp; (try with_reducible rfl))
       (try simp only [Act.put, pA, pZ, pS])
       refine tkH 3 ?oi204 (?v204) ?hi204 ?hy204 ?_
       case hi204 => (simp only [gA, gS, gZ]; try rfl)
       case hy204 => (refine Or.inl ⟨by rfl, ?_⟩; intro wq hSw; (try dsimp only at hSw); go_simp; (try with_reducible rfl))
       (try simp only [Act.put, pA, pZ, pS])
       refine tkH 4 ?oi205 (?v205) ?hi205 ?hy205 ?_
       case hi205 => (simp only [gA, gS, gZ]; try rfl)
       case hy205 => (refine Or.inl ⟨by rfl, ?_⟩; intro wq hSw; (try dsimp only at hSw); go_simp; (try with_reducible rfl))
       (try simp only [Act.put, pA, pZ, pS])
       refine tkH 5 ?oi206 (?v206) ?hi206 ?hy206 ?_
       case hi206 => (simp only [gA, gS, gZ]; try rfl)
       case hy206 => (refine Or.inl ⟨by rfl, ?_⟩; intro wq hSw; (try dsimp only at hSw); go_simp; (try with_reducible rfl))
       (try simp only [Act.put, pA, pZ, pS])
       refine tkH 6 ?oi207 (?v207) ?hi207 ?hy207 ?_
       case hi207 => (simp only [gA, gS, gZ]; try rfl)
       case hy207 => (refine Or.inl ⟨by rfl, ?_⟩; intro wq hSw; (try dsimp only at hSw); go_simp; (try with_reducible rfl))
       (try simp only [Act.put, pA, pZ, pS])
       refine tkH 7 ?oi208 (?v208) ?hi208 ?hy208 ?_
       case hi208 => (simp only [gA, gS, gZ]; try rfl)
       case hy208 => (refine Or.inl ⟨by rfl, ?_⟩; intro wq hSw; (try dsimp only at hSw); go_simp; (try with_reducible rfl))
       (try simp only [Act.put, pA, pZ, pS])
       refine tkH 8 ?oi209 (?v209) ?hi209 ?hy209 ?_
       case hi209 => (simp only [gA, gS, gZ]; try rfl)
       case hy209 => (refine Or.inl ⟨by rfl, ?_⟩; intro wq hSw; (try dsimp only at hSw); go_simp; (try with_reducible rfl))
       (try simp only [Act.put, pA, pZ, pS])
       refine tkH 9 ?oi210 (?v210) ?hi210 ?hy210 ?_
       case hi210 => (simp only [gA, gS, gZ]; try rfl)
       case hy210 => (refine Or.inl ⟨by rfl, ?_⟩; intro wq hSw; (try dsimp only at hSw); go_simp; (try with_reducible rfl))
       (try simp only [Act.put, pA, pZ, pS])
       refine tkH 10 ?oi211 (?v211) ?hi211 ?hy211 ?_
       case hi211 => (simp only [gA, gS, gZ]; try rfl)
       case hy211 => (refine Or.inl ⟨by rfl, ?_⟩; intro wq hSw; (try dsimp only at hSw); go_simp; (try with_reducible rfl))
       (try simp only [Act.put, pA, pZ, pS])
       refine tkH 11 ?oi212 (?v212) ?hi212 ?hy212 ?_
       case hi212 => (simp only [gA, gS, gZ]; try rfl)
       case hy212 => (refine Or.inl ⟨by rfl, ?_⟩; intro wq hSw; (try dsimp only at hSw); go_simp; (try with_reducible rfl))
       (try simp only [Act.put, pA, pZ, pS])
       refine tkH 12 ?oi213 (?v213) ?hi213 ?hy213 ?_
       case hi213 => (simp only [gA, gS, gZ]; try rfl)
       case hy213 => (refine Or.inl ⟨by rfl, ?_⟩; intro wq hSw; (try dsimp only at hSw); go_simp; (try with_reducible rfl))
       (try simp only [Act.put, pA, pZ, pS])
       refine wpAnyH_ready (rs := [13]) (by kernel_rfl) (by simp) ?_
       refine AllReadyH.cons (o := ?oi214) ?hi214 ?ti214 AllReadyH.nil
       case hi214 => (simp only [gA, gS, gZ]; try rfl)
       case ti214 =>
        intro KQ hKQ
        go_simp
        go_at_call 32
        refine (HB.out _).mono ?_
        rintro e w5 ⟨rfl, hb1⟩
        obtain ⟨x5, rfl⟩ := hb1.get
        clear hb1
        refine hKQ.out _ _ (by simp [go_sem, ↓IntWalk.iteOmega, *]) (fun hHeld2 => ?_)
        clear hHeld hKQ KQ; have hHeld := hHeld2; clear hHeld2
        (try simp only [Act.put, pA, pZ, pS])
        refine tkH 14 ?oi215 (?v215) ?hi215 ?hy215 ?_
        case hi215 => (simp only [gA, gS, gZ]; try rfl)
        case hy215 => (refine Or.inl ⟨by rfl, ?_⟩; intro wq hSw; (try dsimp only at hSw); go_simp; (try with_reducible rfl))
        (try simp only [Act.put, pA, pZ, pS])
        refine wpAnyH_done (by kernel_rfl) ?_ _
        go_wp2
        go_roundw
        case rel => exact ⟨a + 1, by omega, by go_num, HB2, ex_⟩
        case measure => simp [intOf]; omega
     ·
      have hae : a = T.length := by omega
      have haz : ¬ (a : Int) < (T.length : Int) := by omega
      have HA : Hid (T.takeWhile (fun y => befV y xv) = T.take a ∧ T.dropWhile (fun y => befV y xv) = T.drop a) := Lib.hid (place_of ha HBA.out fun q h => by rw [List.getElem?_eq_none (by omega)] at h; cases h)
      go_wp2_with fail
      refine wp_region_held_drew (S := (fun _ => True)) (by kernel_rfl) (by trivial) (fun hHeld => ?_)
      refine tkH 0 ?oi301 (?v301) ?hi301 ?hy301 ?_
      case hi301 => (simp only [gA, gS, gZ]; try rfl)
      case hy301 => (refine Or.inl ⟨by rfl, ?_⟩; intro wq hSw; (try dsimp only at hSw); go_simp; (try with_reducible rfl))
      (try simp only [Act.put, pA, pZ, pS])
      refine tkH 1 ?oi302 (?v302) ?hi302 ?hy302 ?_
      case hi302 => (simp only [gA, gS, gZ]; try rfl)
      case hy302 => (refine Or.inl ⟨by rfl, ?_⟩; intro wq hSw; (try dsimp only at hSw); go_simp; (try with_reducible rfl))
      (try simp only [Act.put, pA, pZ, pS])
      refine tkH 2 ?oi303 (?v303) ?hi303 ?hy303 ?_
      case hi303 => (simp only [gA, gS, gZ]; try rfl)
      case hy303 => (refine Or.inl ⟨by rfl, ?_⟩; intro wq hSw; (try dsimp only at hSw); go_simp; (try with_reducible rfl))
      (try simp only [Act.put, pA, pZ, pS])
      refine tkH 3 ?oi304 (?v304) ?hi304 ?hy304 ?_
      case hi304 => (simp only [gA, gS, gZ]; try rfl)
      case hy304 => (refine Or.inl ⟨by rfl, ?_⟩; intro wq hSw; (try dsimp only at hSw); go_simp; (try with_reducible rfl))
      (try simp only [Act.put, pA, pZ, pS])
      refine tkH 4 ?oi305 (?v305) ?hi305 ?hy305 ?_
      case hi305 => (simp only [gA, gS, gZ]; try rfl)
      case hy305 => (refine Or.inl ⟨by rfl, ?_⟩; intro wq hSw; (try dsimp only at hSw); go_simp; (try with_reducible rfl))
      (try simp only [Act.put, pA, pZ, pS])
      refine tkH 5 ?oi306 (undef) ?hi306 ?hy306 ?_
      case hi306 => (simp only [gA, gS, gZ]; try rfl)
      case hy306 => exact Or.inr ⟨by rfl, rfl⟩
      (try simp only [Act.put, pA, pZ, pS])
      refine tkH 6 ?oi307 (undef) ?hi307 ?hy307 ?_
      case hi307 => (simp only [gA, gS, gZ]; try rfl)
      case hy307 => exact Or.inr ⟨by rfl, rfl⟩
      (try simp only [Act.put, pA, pZ, pS])
      refine tkH 7 ?oi308 (undef) ?hi308 ?hy308 ?_
      case hi308 => (simp only [gA, gS, gZ]; try rfl)
      case hy308 => exact Or.inr ⟨by rfl, rfl⟩
      (try simp only [Act.put, pA, pZ, pS])
      refine tkH 8 ?oi309 (undef) ?hi309 ?hy309 ?_
      case hi309 => (simp only [gA, gS, gZ]; try rfl)
      case hy309 => exact Or.inr ⟨by rfl, rfl⟩
      (try simp only [Act.put, pA, pZ, pS])
      refine tkH 9 ?oi310 (undef) ?hi310 ?hy310 ?_
      case hi310 => (simp only [gA, gS, gZ]; try rfl)
      case hy310 => exact Or.inr ⟨by rfl, rfl⟩
      (try simp only [Act.put, pA, pZ, pS])
      refine tkH 10 ?oi311 (undef) ?hi311 ?hy311 ?_
      case hi311 => (simp only [gA, gS, gZ]; try rfl)
      case hy311 => exact Or.inr ⟨by rfl, rfl⟩
      (try simp only [Act.put, pA, pZ, pS])
      refine tkH 11 ?oi312 (undef) ?hi312 ?hy312 ?_
      case hi312 => (simp only [gA, gS, gZ]; try rfl)
      case hy312 => exact Or.inr ⟨by rfl, rfl⟩
      (try simp only [Act.put, pA, pZ, pS])
      refine tkH 12 ?oi313 (undef) ?hi313 ?hy313 ?_
      case hi313 => (simp only [gA, gS, gZ]; try rfl)
      case hy313 => exact Or.inr ⟨by rfl, rfl⟩
      (try simp only [Act.put, pA, pZ, pS])
      refine tkH 13 ?oi314 (undef) ?hi314 ?hy314 ?_
      case hi314 => (simp only [gA, gS, gZ]; try rfl)
      case hy314 => exact Or.inr ⟨by rfl, rfl⟩
      (try simp only [Act.put, pA, pZ, pS])
      refine tkH 14 ?oi315 (?v315) ?hi315 ?hy315 ?_
      case hi315 => (simp only [gA, gS, gZ]; try rfl)
      case hy315 => (refine Or.inl ⟨by rfl, ?_⟩; intro wq hSw; (try dsimp only at hSw); go_simp; (try with_reducible rfl))
      (try simp only [Act.put, pA, pZ, pS])
      refine wpAnyH_done (by kernel_rfl) ?_ _
      go_wp2
      
      obtain ⟨W3, hW3⟩ : ∃ W, ext (ext w1 x) y = W := ⟨_, rfl⟩
      have RT : Rd W3 9 AO T.length (T.flatMap encVe) := by rw [← hW3]; exact (Rd.of_own hown).ext (ex_)
      have hE3 : Ext w1 W3 := by rw [← hW3]; exact (ex_)
      rw [hW3]
      have HW3 := Lib.hid hW3
      clear hW3 hown
      have HOT := Lib.hid RT
      have c0 := hE3.cell' c0
      have c1 := hE3.cell' c1
      have c2 := hE3.cell' c2
      have c3 := hE3.cell' c3
      have c4 := hE3.cell' c4
      have c5 := hE3.cell' c5
      have c6 := hE3.cell' c6
      have c7 := hE3.cell' c7
      have c8 := hE3.cell' c8
      have hbW : b < W3.heap.size := Nat.lt_of_lt_of_le hb hE3.size
      have HL3 := Lib.hid hlow
      clear RT hlow
      go_wp2
      go_loopw [10, 11] (fun sn si wr3 => ∃ (i : Nat) (N : List VeA) (z : Add), i ≤ T.length ∧ si = .int .i64 i ∧ N.length ≤ 2 * i + 1 ∧ Hid (N = nxt T a xv i) ∧ wr3 = ext W3 z ∧ Own W3 z 47 9 sn N.length (N.flatMap encVe)) (fun _ si _ => T.length - (intOf si).toNat)
      case atStart =>
       obtain ⟨z, hz⟩ := (Ext.dr (Ext.al1 W3 (.cells #[] 47))).get
       exact ⟨0, [], z, Nat.zero_le _, rfl, by simp, Lib.hid (by simp [nxt]), hz, by unfold Own; rw [← hz]; exact own_litv _ _ _ (by rw [← HW3.out]; simp [size_ext])⟩
      case round =>
       obtain ⟨i, N, z, hi, rfl, hNl, HN, rfl, hownN⟩ := hrel
       by_cases hlt3 : i < T.length
       ·
        obtain ⟨tv, b3, o3, hti, hA3, hb3, e0, e1, e2, e3, e4, e5, e6, e7, e8⟩ := HOT.out.ve9 rfl hlt3
        subst hA3
        have hiz : (i : Int) < (T.length : Int) := by omega
        by_cases hia : i = a
        ·
         omega
        ·
         have HNX : Hid (N ++ [tv] = nxt T a xv (i + 1)) := Lib.hid (by rw [HN.out, nxt_step hti, if_neg hia])
         have hiaz : ((i : Int) == (a : Int)) = false := by simp; omega
         clear hti hia
         go_wp2_with (first | (at_builtin; refine wpList_app _ rfl (.tmp 61) (.tmp 66) rfl elVeA W3 (ex_) _ _ _ rfl (by repeat (first | exact hownN | apply World.ownsRow.alloc | apply own_ext)) _ 1 1 [.int .i64 tv.id, .int .i64 tv.sch, .slice tv.row.A tv.row.l.length tv.row.c, .int .i64 tv.v.1, .int .i64 tv.v.2, .int .i64 tv.s.1, .int .i64 tv.s.2, .int .i64 tv.by_, .int .i64 tv.un] rfl (Rd.lit _ _ _ 1 9 rfl (by simp [size_ext])) (oneCell_ve tv) (by unfold maxLen; omega) (by omega) ?_; intro v2 y2 hown2 _))
         go_roundw
         case rel => exact ⟨i + 1, N ++ [tv], y2, by omega, by go_num, by simp; omega, HNX, rfl, by simpa [encVe] using hown2⟩
         case measure => simp [intOf]; omega
       ·
        obtain rfl : i = T.length := by omega
        have hiz : ¬ (T.length : Int) < (T.length : Int) := by omega
        by_cases hat : a = T.length
        ·
         have HNX : Hid (N ++ [xv] = insV T xv) := Lib.hid (by rw [HN.out, ← nxt_end HA.out ha, if_pos hat])
         have hatz : ((a : Int) == (T.length : Int)) = true := by simp [hat]
         go_wp2_with (first | (at_builtin; refine wpList_app _ rfl (.tmp 72) (.tmp 77) rfl elVeA W3 (ex_) _ _ _ rfl (by repeat (first | exact hownN | apply World.ownsRow.alloc | apply own_ext)) _ 1 1 [.int .i64 xv.id, .int .i64 xv.sch, .slice xv.row.A xv.row.l.length xv.row.c, .int .i64 xv.v.1, .int .i64 xv.v.2, .int .i64 xv.s.1, .int .i64 xv.s.2, .int .i64 xv.by_, .int .i64 xv.un] rfl (Rd.lit _ _ _ 1 9 rfl (by simp [size_ext])) (oneCell_ve xv) (by unfold maxLen; omega) (by omega) ?_; intro v1 y1 hown1 _))
         obtain ⟨z9, hz9⟩ := (hE3.tr (Ext.ex W3 y1)).get
         go_roundw
         case rel => exact ⟨k + 1, N ++ [xv], z9, by omega, by go_num, by rw [HNX.out, insV_len]; omega, Lib.hid (by rw [HNX.out, HST.out, if_pos HF.out, HT.out]), Lib.hid (by rw [HNX.out]; exact insV_mem HTM.out hxm), hz9, by unfold Own; rw [← hz9]; exact own_mono (by simpa [encVe, Own] using hown1) hE3.size⟩
         case measure => simp [intOf]; omega
        ·
         omega
  ·
   obtain rfl : k = n := by omega
   have hkz : ¬ (k : Int) < (k : Int) := by omega
   obtain ⟨AO, cO, rfl, hcO, _⟩ := Own.form hown
   have HOW := Lib.hid (Rd.of_own hown)
   have HTT : Hid (T = fetV f vs) := Lib.hid (by rw [HT.out, (HFD.out vs).out, ← HVL.out, List.take_length])
   clear hown
   go_wp2
   go_ret
   rw [← HTT.out]
   exact ⟨AO, cO, rfl, hE1.tr (ex_), HOW, HTM⟩

end Go.Proofs.YtdiaecgpjgdkdaaGreat
