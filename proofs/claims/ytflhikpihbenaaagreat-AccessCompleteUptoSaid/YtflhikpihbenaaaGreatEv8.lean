/- The reference of expressions: Eval, walked. -/
import Derived.Test.YtflhikpihbenaaaGreatEv7
import Derived.Test.YtflhikpihbenaaaGreatHld
import Derived.Deep.LoopGhost
set_option linter.unusedSimpArgs false
set_option linter.unusedVariables false
namespace Go.Proofs.YtflhikpihbenaaaGreat
open Go.RowKit


theorem elVa : El Tryz.prog 36 29 (.agg #[.int .i64 0, .int .i64 0, .string ⟨#[]⟩]) 3 32 := ⟨Tryz.underlying36, info_parts (by kernel_rfl), rfl, by decide⟩
theorem oneCell_v (v : Va) : ∀ u ∈ vcl [v], u.oneCell' = true := by
  intro u hu
  simp [vcl, vc] at hu
  rcases hu with rfl | rfl | rfl <;> rfl
theorem EvL.snoc {row : List Va} {args : List Ex} {l : List Va} {k : Nat} {r : Va} (hk : k < args.length) (h : EvL row (args.take k) l) (hr : EvT row args[k] r) : EvL row (args.take (k + 1)) (l ++ [r]) := by
  have hlen : l.length = k := by rw [h.1, List.length_take]; omega
  refine ⟨by rw [List.length_append, hlen, List.length_take]; simp; omega, fun j h1 h2 => ?_⟩
  rw [List.length_append, hlen] at h2
  simp at h2
  rcases Nat.lt_or_ge j k with hj | hj
  · have h3 : j < (args.take k).length := by rw [List.length_take]; omega
    have h4 := h.2 j h3 (by omega)
    rw [List.getElem_take] at h4 ⊢
    rw [List.getElem_append_left (by omega)]
    exact h4
  · have hjk : j = k := by omega
    subst hjk
    rw [List.getElem_take, List.getElem_append_right (by omega)]
    simp only [hlen, Nat.sub_self, List.getElem_cons_zero]
    exact hr
theorem EvP.eq2 {row : List Va} {i : Int} {v : Va} {nm : ByteArray} {args : List Ex} {lk : List Va} {l0 l1 : Va} {z : Int} (hf : frB 7 i v nm args.length = true) (hl : EvL row args lk) (h2 : args.length = 2) (hv0 : lk[0]? = some l0) (hv1 : lk[1]? = some l1) (hz : z = tyT l0 l1 (cmpV l0 l1 == 0)) : EvP row (.mk 7 i v nm args) (.returned (vag (ofT z))) := by
  match args, h2 with
  | [a, b], _ =>
    obtain ⟨g0, e0⟩ := List.getElem?_eq_some_iff.1 hv0
    obtain ⟨g1, e1⟩ := List.getElem?_eq_some_iff.1 hv1
    have h0 := hl.2 0 (by simp) g0
    have h1 := hl.2 1 (by simp) g1
    rw [e0] at h0
    rw [e1] at h1
    exact EvP.eq hf h0 h1 hz
set_option maxRecDepth 100000 in
set_option maxHeartbeats 20000000 in
theorem eval_any (RA : Option Addr) (rc : Nat) (row : List Va) (nl : row.length ≤ 1048576) (hz : ∀ v ∈ row, v.t.size ≤ 9223372036854775807) (m : Nat) : ∀ (o i : Int) (v : Va) (nm : ByteArray) (A : Option Addr) (args : List Ex) (c : Nat) (css : List (List Value)) (w : World), szs args = m → szs args ≤ 1048576 → v.t.size ≤ 9223372036854775807 → Rd w 7 A args.length css.flatten → REs w args css → Rd w 3 RA row.length (vcl row) →
    Calls Tryz.prog 20 #[exag o i v nm A args.length c, .slice RA row.length rc] w fun e w' => EvP row (.mk o i v nm args) e ∧ Ext w w' := by
  induction m using Nat.strongRecOn with
  | _ m ih =>
    intro o i v nm A args c css w hm hsz hvt hR hs hRow
    have IH := Lib.hid ih
    have HM := Lib.hid hm
    have HSZ := Lib.hid hsz
    have hl : args.length ≤ 1048576 := Nat.le_trans (szs_len args) hsz
    have HF := Lib.hid (fun w => formed_any o i v nm A args.length c w hvt (by omega))
    have HLF := Lib.hid fun W (e : Ext w W) => leaf_any o i v nm A args.length c RA rc row W hvt (hRow.ext e) (by omega) hz
    obtain ⟨fb, hfb⟩ : ∃ b, frB o i v nm args.length = b := ⟨_, rfl⟩
    have HFB := Lib.hid hfb
    rw [hfb] at HF
    clear ih hm hsz hfb
    cases fb
    · have HEV : Hid (EvP row (.mk o i v nm args) (.returned (vag nullV))) := Lib.hid (EvP.null HFB.out)
      clear HLF
      go_enter Tryz.func20, Tryz.ntmps20
      go_wp2_with fail
      refine (HF.out _).mono ?_
      rintro e w1 ⟨rfl, hb1⟩
      obtain ⟨x1, rfl⟩ := hb1.get
      clear hb1
      go_wp2_with fail
      refine (rnull7 _).mono ?_
      rintro e w1 ⟨rfl, hb1⟩
      obtain ⟨x2, rfl⟩ := hb1.get
      clear hb1
      go_wp2
      refine bodyPost_ret (v := vag nullV) ?_ rfl ⟨HEV.out, by repeat (first | exact Ext.refl' _ | assumption | apply Ext.ex' | apply Ext.al | apply Ext.drN | apply Ext.dr)⟩
      simp [results, Tryz.results20, go_sem, ↓IntWalk.iteOmega, nullV]
    go_enter Tryz.func20, Tryz.ntmps20
    go_wp2_with fail
    refine (HF.out _).mono ?_
    rintro e w1 ⟨rfl, hb1⟩
    obtain ⟨x1, rfl⟩ := hb1.get
    clear hb1
    clear HF
    go_wp2
    have hE0 : Ext ((w.alloc (.cells #[.int .i64 o, .int .i64 i, .int .i64 v.k, .int .i64 v.i, .string v.t, .string nm, .slice A args.length c] 31)).alloc (.cells #[.int .i64 0, .int .i64 0, .string ⟨#[]⟩] 29)) ((ext ((w.alloc (.cells #[.int .i64 o, .int .i64 i, .int .i64 v.k, .int .i64 v.i, .string v.t, .string nm, .slice A args.length c] 31)).alloc (.cells #[.int .i64 0, .int .i64 0, .string ⟨#[]⟩] 29)) x1).alloc (.cells #[] 29)) := by repeat (first | exact Ext.refl' _ | assumption | apply Ext.ex' | apply Ext.al | apply Ext.drN | apply Ext.dr)
    have hE00 : Ext ((w.alloc (.cells #[.int .i64 o, .int .i64 i, .int .i64 v.k, .int .i64 v.i, .string v.t, .string nm, .slice A args.length c] 31)).alloc (.cells #[.int .i64 0, .int .i64 0, .string ⟨#[]⟩] 29)) (ext ((w.alloc (.cells #[.int .i64 o, .int .i64 i, .int .i64 v.k, .int .i64 v.i, .string v.t, .string nm, .slice A args.length c] 31)).alloc (.cells #[.int .i64 0, .int .i64 0, .string ⟨#[]⟩] 29)) x1) := by repeat (first | exact Ext.refl' _ | assumption | apply Ext.ex' | apply Ext.al | apply Ext.drN | apply Ext.dr)
    go_loopg [5, 6] args.length (fun g q ix wr => ∃ (k lc : Nat) (lA : Option Addr) (lk : List Va), q = .slice lA k lc ∧ ix = .int .i64 k ∧ k ≤ args.length ∧ args.length - k ≤ g ∧ k ≤ lc ∧ lc ≤ maxLen ∧ Hid (lk.length = k) ∧ Hid (EvL row (args.take k) lk) ∧ Hid (wr.ownsRow (((w.alloc (.cells #[.int .i64 o, .int .i64 i, .int .i64 v.k, .int .i64 v.i, .string v.t, .string nm, .slice A args.length c] 31)).alloc (.cells #[.int .i64 0, .int .i64 0, .string ⟨#[]⟩] 29))).heap.size 29 3 (.slice lA k lc) k (vcl lk)) ∧ Ext ((w.alloc (.cells #[.int .i64 o, .int .i64 i, .int .i64 v.k, .int .i64 v.i, .string v.t, .string nm, .slice A args.length c] 31)).alloc (.cells #[.int .i64 0, .int .i64 0, .string ⟨#[]⟩] 29)) wr)
    case atStart => refine ⟨0, 0, _, [], rfl, rfl, by omega, by omega, Nat.le_refl _, Nat.zero_le _, Lib.hid rfl, Lib.hid ⟨by simp, fun k h => absurd h (by simp)⟩, Lib.hid (own_lit0d _ _ _ (Ext.size' hE00) _ _ (by simp [size_ext])), hE0⟩
    case round =>
      obtain ⟨k, lc, lA, lk, rfl, rfl, hk, hg, hkl, hlm, HLK, HEL, HO, hE⟩ := hrel
      obtain ⟨x, rfl⟩ := hE.get
      have HG := Lib.hid hg
      clear hg
      by_cases hlt : k < args.length
      · have hkz : (k : Int) < (args.length : Int) := by omega
        have hE1 : Ext w (ext ((w.alloc (.cells #[.int .i64 o, .int .i64 i, .int .i64 v.k, .int .i64 v.i, .string v.t, .string nm, .slice A args.length c] 31)).alloc (.cells #[.int .i64 0, .int .i64 0, .string ⟨#[]⟩] 29)) x) := by repeat (first | exact Ext.refl' _ | assumption | apply Ext.ex' | apply Ext.al | apply Ext.drN | apply Ext.dr)
        obtain ⟨b0, o0, hAe, hb0, A1, c1, css1, p0, p1, p2, p3, p4, p5, p6, p7, p8, p9, p10, p11, p12⟩ := RE.arg hR hs hlt
        have hsz := szs_get args k hlt
        have HR2 : Hid (∀ W, Ext (ext ((w.alloc (.cells #[.int .i64 o, .int .i64 i, .int .i64 v.k, .int .i64 v.i, .string v.t, .string nm, .slice A args.length c] 31)).alloc (.cells #[.int .i64 0, .int .i64 0, .string ⟨#[]⟩] 29)) x) W → Calls Tryz.prog 20 #[exag args[k].op args[k].i args[k].v args[k].nm A1 args[k].args.length c1, .slice RA row.length rc] W fun e w' => EvP row args[k] e ∧ Ext W w') := Lib.hid fun W e => by
          have h := IH.out _ (by have := HM.out; omega) args[k].op args[k].i args[k].v args[k].nm A1 args[k].args c1 css1 W rfl (by have := HSZ.out; omega) p7 (p11.ext (hE1.tr e)) (REs.ext (hE1.tr e) p12) (hRow.ext (hE1.tr e))
          rw [Ex.eta] at h
          exact h
        have HSN : Hid (∀ r, EvT row args[k] r → EvL row (args.take (k + 1)) (lk ++ [r])) := Lib.hid fun r hr => EvL.snoc hlt HEL.out hr
        subst hAe
        clear hsz p7 p8 p9 p10 p11 p12
        generalize args[k] = ek at p0 p1 p2 p3 p4 p5 p6 HR2 HSN
        go_wp2_with fail
        refine (HR2.out _ (by repeat (first | exact Ext.refl' _ | assumption | apply Ext.ex' | apply Ext.al | apply Ext.drN | apply Ext.dr))).mono ?_
        rintro e w2 ⟨⟨r, rfl, hr⟩, hb1⟩
        obtain ⟨x3, rfl⟩ := hb1.get
        have HEL2 := Lib.hid (HSN.out r hr)
        clear hb1 HR2 HSN hr
        go_wp2_with (at_builtin; (refine wpList_app _ rfl (.tmp 19) (.tmp 27) rfl elVa ((w.alloc (.cells #[.int .i64 o, .int .i64 i, .int .i64 v.k, .int .i64 v.i, .string v.t, .string nm, .slice (some ⟨b0, o0, none⟩) args.length c] 31)).alloc (.cells #[.int .i64 0, .int .i64 0, .string ⟨#[]⟩] 29)) (by repeat (first | exact Ext.refl' _ | assumption | apply Ext.ex' | apply Ext.al | apply Ext.drN | apply Ext.dr)) _ k _ rfl (ownsRow_ext11 HO.out (by repeat (first | exact Ext.refl' _ | assumption | apply Ext.ex' | apply Ext.al | apply Ext.drN | apply Ext.dr))) _ 1 1 (vcl [r]) rfl (Rd.lit _ #[.int .i64 r.k, .int .i64 r.i, .string r.t] _ 1 3 rfl (by simp [size_ext])) (oneCell_v r) (by unfold maxLen; omega) (by omega) ?_; intro v1 x4 ho1 _))
        obtain ⟨A4, c4, rfl, hd1, hd2⟩ := Own.form ho1
        have HO4 := Lib.hid ho1
        clear ho1
        go_wp2
        go_roundg (gk - 1)
        case rel => exact ⟨k + 1, c4, A4, lk ++ [r], rfl, by go_num, by omega, by have := HG.out; omega, hd1, hd2, Lib.hid (by rw [List.length_append, HLK.out]; rfl), HEL2, Lib.hid (by rw [show vcl (lk ++ [r]) = vcl lk ++ vcl [r] from List.flatMap_append]; exact HO4.out), by repeat (first | exact Ext.refl' _ | assumption | apply Ext.ex' | apply Ext.al | apply Ext.drN | apply Ext.dr)⟩
        case measure => have := HG.out; omega
      · have hkz : ¬ ((k : Int) < (args.length : Int)) := by omega
        have hk20 : k ≤ 1048576 := by omega
        have hke : k = args.length := by omega
        have HKE := Lib.hid hke
        clear hke
        have HRl : Hid (Rd (ext ((w.alloc (.cells #[.int .i64 o, .int .i64 i, .int .i64 v.k, .int .i64 v.i, .string v.t, .string nm, .slice A args.length c] 31)).alloc (.cells #[.int .i64 0, .int .i64 0, .string ⟨#[]⟩] 29)) x) 3 lA k (vcl lk)) := Lib.hid (Rd.of_own HO.out)
        have HEA : Hid (EvL row args lk) := Lib.hid (by have h := HEL.out; rw [HKE.out, List.take_length] at h; exact h)
        have HSM : Hid (∀ v ∈ lk, SmV v) := Lib.hid fun y hy => by
          obtain ⟨j, hj, rfl⟩ := List.getElem_of_mem hy
          exact (HEA.out.2 j (by rw [← HEA.out.1]; exact hj) hj).1
        have hfa := fr_args HFB.out
        rw [← HKE.out] at hfa
        have hop : o = 1 ∨ o = 2 ∨ o = 4 ∨ o = 5 ∨ o = 6 ∨ o = 7 ∨ o = 8 ∨ o = 9 ∨ o = 10 ∨ o = 11 ∨ o = 12 ∨ o = 13 ∨ o = 14 ∨ o = 15 ∨ o = 16 ∨ o = 17 ∨ o = 18 ∨ o = 19 ∨ o = 20 ∨ o = 21 ∨ o = 22 ∨ o = 23 ∨ o = 24 := by
          refine Classical.byContradiction fun hno => ?_
          simp only [not_or] at hno
          have h1 : arLo o = -1 := by unfold arLo; simp [hno]
          have h2 := HFB.out
          unfold frB at h2
          rw [h1] at h2
          simp at h2
        have HBB : Hid (∀ g q, lA = some ⟨g, q, none⟩ → w.heap.size + 1 + 1 ≤ g) := Lib.hid fun g q h => by
          subst h
          have h5 := (HO.out.lt g rfl).1
          simpa using h5
        clear HO HEL
        rcases hop with rfl | rfl | rfl | rfl | rfl | rfl | rfl | rfl | rfl | rfl | rfl | rfl | rfl | rfl | rfl | rfl | rfl | rfl | rfl | rfl | rfl | rfl | rfl
        · have hfb : arLo 1 ≤ (k : Int) ∧ (k : Int) ≤ arHi 1 := hfa
          simp only [show arLo 1 = 0 by decide, show arHi 1 = 0 by decide] at hfb
          clear hfa
          go_wp2_with fail
          refine (HLF.out _ (by repeat (first | exact Ext.refl' _ | assumption | apply Ext.ex' | apply Ext.al | apply Ext.drN | apply Ext.dr))).mono ?_
          rintro e w1 ⟨rfl, hb1⟩
          obtain ⟨x1, rfl⟩ := hb1.get
          clear hb1
          go_wp2
          refine bodyPost_ret (v := vag (lfV 1 i v row)) ?_ rfl ⟨EvP.leaf HFB.out (by decide) (by decide), by repeat (first | exact Ext.refl' _ | assumption | apply Ext.ex' | apply Ext.al | apply Ext.drN | apply Ext.dr)⟩
          simp [results, Tryz.results20, go_sem, ↓IntWalk.iteOmega]
        · have hfb : arLo 2 ≤ (k : Int) ∧ (k : Int) ≤ arHi 2 := hfa
          simp only [show arLo 2 = 0 by decide, show arHi 2 = 0 by decide] at hfb
          clear hfa
          go_wp2_with fail
          refine (HLF.out _ (by repeat (first | exact Ext.refl' _ | assumption | apply Ext.ex' | apply Ext.al | apply Ext.drN | apply Ext.dr))).mono ?_
          rintro e w1 ⟨rfl, hb1⟩
          obtain ⟨x1, rfl⟩ := hb1.get
          clear hb1
          go_wp2
          refine bodyPost_ret (v := vag (lfV 2 i v row)) ?_ rfl ⟨EvP.leaf HFB.out (by decide) (by decide), by repeat (first | exact Ext.refl' _ | assumption | apply Ext.ex' | apply Ext.al | apply Ext.drN | apply Ext.dr)⟩
          simp [results, Tryz.results20, go_sem, ↓IntWalk.iteOmega]
        · have hfb : arLo 4 ≤ (k : Int) ∧ (k : Int) ≤ arHi 4 := hfa
          simp only [show arLo 4 = 1 by decide, show arHi 4 = 1 by decide] at hfb
          clear hfa
          obtain ⟨v0, b0, o0, hv0, hAe0, hb0, p0, p1, p2⟩ := HRl.out.val3 HLK.out (show 0 < k by omega)
          have hs0 : SmV v0 := HSM.out v0 (List.mem_of_getElem? hv0)
          subst hAe0
          simp only [Nat.zero_mul, Nat.add_zero, Nat.one_mul] at p0 p1 p2
          go_wp2_with fail
          refine (rTruth7_any v0 _).mono ?_
          rintro e w1 ⟨rfl, hb1⟩
          obtain ⟨x2, rfl⟩ := hb1.get
          clear hb1
          go_wp2_with fail
          refine (rnot7_any _ _).mono ?_
          rintro e w1 ⟨⟨z, rfl⟩, hb1⟩
          obtain ⟨x3, rfl⟩ := hb1.get
          clear hb1
          have HO7 := Lib.hid fun W => rof7_any z W
          have hrz := ofT_size z
          generalize ofT z = r at HO7 hrz
          go_wp2_with fail
          refine (HO7.out _).mono ?_
          rintro e w1 ⟨rfl, hb1⟩
          obtain ⟨x4, rfl⟩ := hb1.get
          clear hb1
          go_wp2
          refine bodyPost_ret (v := vag r) ?_ rfl ⟨EvP.other HFB.out (by decide) (by decide) (by decide) (by decide) (hrz), by repeat (first | exact Ext.refl' _ | assumption | apply Ext.ex' | apply Ext.al | apply Ext.drN | apply Ext.dr)⟩
          simp [results, Tryz.results20, go_sem, ↓IntWalk.iteOmega]
        · have hfb : arLo 5 ≤ (k : Int) ∧ (k : Int) ≤ arHi 5 := hfa
          simp only [show arLo 5 = 2 by decide, show arHi 5 = 1099511627776 by decide] at hfb
          clear hfa
          go_wp2_with fail
          refine (logic_any 5 lA k lc lk _ HLK.out (HRl.out.ext (by repeat (first | exact Ext.refl' _ | assumption | apply Ext.ex' | apply Ext.al | apply Ext.drN | apply Ext.dr))) hk20 (by omega)).mono ?_
          rintro e w1 ⟨⟨r, rfl, hr, ht⟩, hb1⟩
          obtain ⟨x2, rfl⟩ := hb1.get
          clear hb1
          go_wp2
          refine bodyPost_ret (v := vag r) ?_ rfl ⟨EvP.and HFB.out HEA.out hr (fun h => ht (by first | rfl | trivial) h), by repeat (first | exact Ext.refl' _ | assumption | apply Ext.ex' | apply Ext.al | apply Ext.drN | apply Ext.dr)⟩
          simp [results, Tryz.results20, go_sem, ↓IntWalk.iteOmega]
        · have hfb : arLo 6 ≤ (k : Int) ∧ (k : Int) ≤ arHi 6 := hfa
          simp only [show arLo 6 = 2 by decide, show arHi 6 = 1099511627776 by decide] at hfb
          clear hfa
          go_wp2_with fail
          refine (logic_any 6 lA k lc lk _ HLK.out (HRl.out.ext (by repeat (first | exact Ext.refl' _ | assumption | apply Ext.ex' | apply Ext.al | apply Ext.drN | apply Ext.dr))) hk20 (by omega)).mono ?_
          rintro e w1 ⟨⟨r, rfl, hr, ht⟩, hb1⟩
          obtain ⟨x2, rfl⟩ := hb1.get
          clear hb1
          go_wp2
          refine bodyPost_ret (v := vag r) ?_ rfl ⟨EvP.other HFB.out (by decide) (by decide) (by decide) (by decide) (hr), by repeat (first | exact Ext.refl' _ | assumption | apply Ext.ex' | apply Ext.al | apply Ext.drN | apply Ext.dr)⟩
          simp [results, Tryz.results20, go_sem, ↓IntWalk.iteOmega]
        · have hfb : arLo 7 ≤ (k : Int) ∧ (k : Int) ≤ arHi 7 := hfa
          simp only [show arLo 7 = 2 by decide, show arHi 7 = 2 by decide] at hfb
          clear hfa
          obtain ⟨v0, b0, o0, hv0, hAe0, hb0, p0, p1, p2⟩ := HRl.out.val3 HLK.out (show 0 < k by omega)
          have hs0 : SmV v0 := HSM.out v0 (List.mem_of_getElem? hv0)
          have hbb := HBB.out b0 o0 hAe0
          have hbn : b0 < w.heap.size + 1 + 1 + x.n := by simpa using hb0
          obtain ⟨v1, b1, o1, hv1, hAe1, hb1, q0, q1, q2⟩ := HRl.out.val3 HLK.out (show 1 < k by omega)
          have hs1 : SmV v1 := HSM.out v1 (List.mem_of_getElem? hv1)
          simp only [hAe0, Option.some.injEq, Addr.mk.injEq, and_true] at hAe1
          obtain ⟨rfl, rfl⟩ := hAe1
          have HV0 := Lib.hid hv0
          have HV1 := Lib.hid hv1
          clear hv0 hv1
          subst hAe0
          simp only [Nat.zero_mul, Nat.add_zero, Nat.one_mul] at p0 p1 p2
          simp only [Nat.one_mul] at q0 q1 q2
          have p0 : World.cell? (extR ((w.alloc (.cells #[.int .i64 7, .int .i64 i, .int .i64 v.k, .int .i64 v.i, .string v.t, .string nm, .slice A args.length c] 31)).alloc (.cells #[.int .i64 0, .int .i64 0, .string ⟨#[]⟩] 29)) x) ⟨b0, o0, none⟩ = some (.int .i64 v0.k) := p0
          have p1 : World.cell? (extR ((w.alloc (.cells #[.int .i64 7, .int .i64 i, .int .i64 v.k, .int .i64 v.i, .string v.t, .string nm, .slice A args.length c] 31)).alloc (.cells #[.int .i64 0, .int .i64 0, .string ⟨#[]⟩] 29)) x) ⟨b0, o0 + 1, none⟩ = some (.int .i64 v0.i) := p1
          have p2 : World.cell? (extR ((w.alloc (.cells #[.int .i64 7, .int .i64 i, .int .i64 v.k, .int .i64 v.i, .string v.t, .string nm, .slice A args.length c] 31)).alloc (.cells #[.int .i64 0, .int .i64 0, .string ⟨#[]⟩] 29)) x) ⟨b0, o0 + 2, none⟩ = some (.string v0.t) := p2
          have q0 : World.cell? (extR ((w.alloc (.cells #[.int .i64 7, .int .i64 i, .int .i64 v.k, .int .i64 v.i, .string v.t, .string nm, .slice A args.length c] 31)).alloc (.cells #[.int .i64 0, .int .i64 0, .string ⟨#[]⟩] 29)) x) ⟨b0, o0 + 3, none⟩ = some (.int .i64 v1.k) := q0
          have q1 : World.cell? (extR ((w.alloc (.cells #[.int .i64 7, .int .i64 i, .int .i64 v.k, .int .i64 v.i, .string v.t, .string nm, .slice A args.length c] 31)).alloc (.cells #[.int .i64 0, .int .i64 0, .string ⟨#[]⟩] 29)) x) ⟨b0, o0 + 4, none⟩ = some (.int .i64 v1.i) := q1
          have q2 : World.cell? (extR ((w.alloc (.cells #[.int .i64 7, .int .i64 i, .int .i64 v.k, .int .i64 v.i, .string v.t, .string nm, .slice A args.length c] 31)).alloc (.cells #[.int .i64 0, .int .i64 0, .string ⟨#[]⟩] 29)) x) ⟨b0, o0 + 5, none⟩ = some (.string v1.t) := q2
          have h0n : 0 < k := by omega
          have h1n : 1 < k := by omega
          have h0z : (0 : Int) < (k : Int) := by omega
          have h1z : (1 : Int) < (k : Int) := by omega
          go_wp2_with fail
          refine wp_region_T 10 (S := (fun w' => w'.cell? ⟨w.heap.size, 0, none⟩ = some (.int .i64 7) ∧ w'.cell? ⟨b0, o0, none⟩ = some (.int .i64 v0.k) ∧ w'.cell? ⟨b0, o0 + 1, none⟩ = some (.int .i64 v0.i) ∧ w'.cell? ⟨b0, o0 + 2, none⟩ = some (.string v0.t) ∧ w'.cell? ⟨b0, o0 + 3, none⟩ = some (.int .i64 v1.k) ∧ w'.cell? ⟨b0, o0 + 4, none⟩ = some (.int .i64 v1.i) ∧ w'.cell? ⟨b0, o0 + 5, none⟩ = some (.string v1.t))) (by kernel_rfl) (by simp [go_sem, ↓IntWalk.iteOmega, *]) (fun hHeld => ?_)
          refine wpAnyT_take (i := 0) (oi := ?oi701) (v := ?v701) ?hi701 (by kernel_rfl) (by kernel_rfl) (by kernel_rfl) (by kernel_rfl) (by kernel_rfl) ?hQ701 ?hy701 (by assumption) ?_
          case hi701 => (simp only [List.getElem?_toArray, List.getElem?_cons_succ, List.getElem?_cons_zero]; try rfl)
          case hQ701 => exact fun _ _ _ h => h
          case hy701 => (refine Or.inl ⟨by rfl, ?_⟩; intro wq hSw; (try dsimp only at hSw); go_simp; (try rw [if_pos h0n]); (try rw [if_pos h1n]); (try rw [if_pos h0z]); (try rw [if_pos h1z]); (try with_reducible rfl))
          (try simp only [Act.put, List.setIfInBounds_toArray, List.set_cons_zero, List.set_cons_succ])
          refine wpAnyT_take (i := 1) (oi := ?oi702) (v := ?v702) ?hi702 (by kernel_rfl) (by kernel_rfl) (by kernel_rfl) (by kernel_rfl) (by kernel_rfl) ?hQ702 ?hy702 (by assumption) ?_
          case hi702 => (simp only [List.getElem?_toArray, List.getElem?_cons_succ, List.getElem?_cons_zero]; try rfl)
          case hQ702 => exact fun _ _ _ h => h
          case hy702 => (refine Or.inl ⟨by rfl, ?_⟩; intro wq hSw; (try dsimp only at hSw); go_simp; (try rw [if_pos h0n]); (try rw [if_pos h1n]); (try rw [if_pos h0z]); (try rw [if_pos h1z]); (try with_reducible rfl))
          (try simp only [Act.put, List.setIfInBounds_toArray, List.set_cons_zero, List.set_cons_succ])
          refine wpAnyT_take (i := 2) (oi := ?oi703) (v := ?v703) ?hi703 (by kernel_rfl) (by kernel_rfl) (by kernel_rfl) (by kernel_rfl) (by kernel_rfl) ?hQ703 ?hy703 (by assumption) ?_
          case hi703 => (simp only [List.getElem?_toArray, List.getElem?_cons_succ, List.getElem?_cons_zero]; try rfl)
          case hQ703 => exact fun _ _ _ h => h
          case hy703 => (refine Or.inl ⟨by rfl, ?_⟩; intro wq hSw; (try dsimp only at hSw); go_simp; (try rw [if_pos h0n]); (try rw [if_pos h1n]); (try rw [if_pos h0z]); (try rw [if_pos h1z]); (try with_reducible rfl))
          (try simp only [Act.put, List.setIfInBounds_toArray, List.set_cons_zero, List.set_cons_succ])
          refine wpAnyT_take (i := 3) (oi := ?oi704) (v := ?v704) ?hi704 (by kernel_rfl) (by kernel_rfl) (by kernel_rfl) (by kernel_rfl) (by kernel_rfl) ?hQ704 ?hy704 (by assumption) ?_
          case hi704 => (simp only [List.getElem?_toArray, List.getElem?_cons_succ, List.getElem?_cons_zero]; try rfl)
          case hQ704 => exact fun _ _ _ h => h
          case hy704 => (refine Or.inl ⟨by rfl, ?_⟩; intro wq hSw; (try dsimp only at hSw); go_simp; (try rw [if_pos h0n]); (try rw [if_pos h1n]); (try rw [if_pos h0z]); (try rw [if_pos h1z]); (try with_reducible rfl))
          (try simp only [Act.put, List.setIfInBounds_toArray, List.set_cons_zero, List.set_cons_succ])
          refine wpAnyT_take (i := 4) (oi := ?oi705) (v := ?v705) ?hi705 (by kernel_rfl) (by kernel_rfl) (by kernel_rfl) (by kernel_rfl) (by kernel_rfl) ?hQ705 ?hy705 (by assumption) ?_
          case hi705 => (simp only [List.getElem?_toArray, List.getElem?_cons_succ, List.getElem?_cons_zero]; try rfl)
          case hQ705 => exact fun _ _ _ h => h
          case hy705 => (refine Or.inl ⟨by rfl, ?_⟩; intro wq hSw; (try dsimp only at hSw); go_simp; (try rw [if_pos h0n]); (try rw [if_pos h1n]); (try rw [if_pos h0z]); (try rw [if_pos h1z]); (try with_reducible rfl))
          (try simp only [Act.put, List.setIfInBounds_toArray, List.set_cons_zero, List.set_cons_succ])
          refine wpAnyT_take (i := 5) (oi := ?oi706) (v := ?v706) ?hi706 (by kernel_rfl) (by kernel_rfl) (by kernel_rfl) (by kernel_rfl) (by kernel_rfl) ?hQ706 ?hy706 (by assumption) ?_
          case hi706 => (simp only [List.getElem?_toArray, List.getElem?_cons_succ, List.getElem?_cons_zero]; try rfl)
          case hQ706 => exact fun _ _ _ h => h
          case hy706 => (refine Or.inl ⟨by rfl, ?_⟩; intro wq hSw; (try dsimp only at hSw); go_simp; (try rw [if_pos h0n]); (try rw [if_pos h1n]); (try rw [if_pos h0z]); (try rw [if_pos h1z]); (try with_reducible rfl))
          (try simp only [Act.put, List.setIfInBounds_toArray, List.set_cons_zero, List.set_cons_succ])
          refine wpAnyT_take (i := 6) (oi := ?oi707) (v := ?v707) ?hi707 (by kernel_rfl) (by kernel_rfl) (by kernel_rfl) (by kernel_rfl) (by kernel_rfl) ?hQ707 ?hy707 (by assumption) ?_
          case hi707 => (simp only [List.getElem?_toArray, List.getElem?_cons_succ, List.getElem?_cons_zero]; try rfl)
          case hQ707 => exact fun _ _ _ h => h
          case hy707 => (refine Or.inl ⟨by rfl, ?_⟩; intro wq hSw; (try dsimp only at hSw); go_simp; (try rw [if_pos h0n]); (try rw [if_pos h1n]); (try rw [if_pos h0z]); (try rw [if_pos h1z]); (try with_reducible rfl))
          (try simp only [Act.put, List.setIfInBounds_toArray, List.set_cons_zero, List.set_cons_succ])
          refine wpAnyT_take (i := 7) (oi := ?oi708) (v := ?v708) ?hi708 (by kernel_rfl) (by kernel_rfl) (by kernel_rfl) (by kernel_rfl) (by kernel_rfl) ?hQ708 ?hy708 (by assumption) ?_
          case hi708 => (simp only [List.getElem?_toArray, List.getElem?_cons_succ, List.getElem?_cons_zero]; try rfl)
          case hQ708 => exact fun _ _ _ h => h
          case hy708 => (refine Or.inl ⟨by rfl, ?_⟩; intro wq hSw; (try dsimp only at hSw); go_simp; (try rw [if_pos h0n]); (try rw [if_pos h1n]); (try rw [if_pos h0z]); (try rw [if_pos h1z]); (try with_reducible rfl))
          (try simp only [Act.put, List.setIfInBounds_toArray, List.set_cons_zero, List.set_cons_succ])
          refine wpAnyT_ready (rs := [8]) (by kernel_rfl) (by simp) ?_
          refine AllReadyT.cons (o := ?oi709) ?hi709 ?ti709 AllReadyT.nil
          case hi709 => (simp only [List.getElem?_toArray, List.getElem?_cons_succ, List.getElem?_cons_zero]; try rfl)
          case ti709 =>
            intro KQ hKQ
            go_simp
            go_at_call 41
            refine Calls.mono (compared_any 7 v0 v1 _) ?_
            rintro e w1 ⟨⟨z, rfl, hzz⟩, hb1⟩
            obtain ⟨x5, rfl⟩ := hb1.get
            have HZZ := Lib.hid hzz
            clear hb1 hzz
            refine hKQ.out _ _ (by simp [go_sem, ↓IntWalk.iteOmega, *]) (fun hHeld2 => ?_)
            clear hHeld hKQ KQ; have hHeld := hHeld2; clear hHeld2
            (try simp only [Act.put, List.setIfInBounds_toArray, List.set_cons_zero, List.set_cons_succ])
            refine wpAnyT_ready (rs := [9]) (by kernel_rfl) (by simp) ?_
            refine AllReadyT.cons (o := ?oi710) ?hi710 ?ti710 AllReadyT.nil
            case hi710 => (simp only [List.getElem?_toArray, List.getElem?_cons_succ, List.getElem?_cons_zero]; try rfl)
            case ti710 =>
              intro KQ hKQ
              go_simp
              have hrz := ofT_size z
              have HO7 := Lib.hid fun W => rof7_any z W
              obtain ⟨rz, hrzz⟩ : ∃ rz, ofT z = rz := ⟨_, rfl⟩
              rw [hrzz] at HO7 hrz
              have HRZ := Lib.hid hrzz
              clear hrzz
              go_at_call 38
              refine Calls.mono (HO7.out _) ?_
              rintro e w1 ⟨rfl, hb1⟩
              obtain ⟨x6, rfl⟩ := hb1.get
              clear hb1
              refine hKQ.out _ _ (by simp [go_sem, ↓IntWalk.iteOmega, *]) (fun hHeld2 => ?_)
              clear hHeld hKQ KQ; have hHeld := hHeld2; clear hHeld2
              (try simp only [Act.put, List.setIfInBounds_toArray, List.set_cons_zero, List.set_cons_succ])
              refine wpAnyT_ready (rs := [10]) (by kernel_rfl) (by simp) ?_
              refine AllReadyT.last (o := ?oi711) ?hi711 ?ti711
              case hi711 => (simp only [List.getElem?_toArray, List.getElem?_cons_succ, List.getElem?_cons_zero]; try rfl)
              case ti711 =>
                intro KQ hKQ
                go_simp
                (repeat (simp only [go_sem, ↓IntWalk.iteOmega, ↓reduceIte, Bool.false_eq_true]; (try go_simp)))
                refine hKQ.out _ _ ?_
                clear hKQ KQ hHeld
                (try simp only [Act.put, List.setIfInBounds_toArray, List.set_cons_zero, List.set_cons_succ])
                refine wpAnyT_done (by kernel_rfl) ?_ _
                go_wp2
                refine bodyPost_ret (v := vag rz) ?_ rfl ⟨(by rw [← HRZ.out]; exact EvP.eq2 HFB.out HEA.out (by have := HKE.out; omega) HV0.out HV1.out (HZZ.out (by first | rfl | trivial))), by repeat (first | exact Ext.refl' _ | assumption | apply Ext.ex' | apply Ext.al | apply Ext.drN | apply Ext.dr)⟩
                simp [results, Tryz.results20, go_sem, ↓IntWalk.iteOmega]
        · have hfb : arLo 8 ≤ (k : Int) ∧ (k : Int) ≤ arHi 8 := hfa
          simp only [show arLo 8 = 2 by decide, show arHi 8 = 2 by decide] at hfb
          clear hfa
          obtain ⟨v0, b0, o0, hv0, hAe0, hb0, p0, p1, p2⟩ := HRl.out.val3 HLK.out (show 0 < k by omega)
          have hs0 : SmV v0 := HSM.out v0 (List.mem_of_getElem? hv0)
          have hbb := HBB.out b0 o0 hAe0
          have hbn : b0 < w.heap.size + 1 + 1 + x.n := by simpa using hb0
          obtain ⟨v1, b1, o1, hv1, hAe1, hb1, q0, q1, q2⟩ := HRl.out.val3 HLK.out (show 1 < k by omega)
          have hs1 : SmV v1 := HSM.out v1 (List.mem_of_getElem? hv1)
          simp only [hAe0, Option.some.injEq, Addr.mk.injEq, and_true] at hAe1
          obtain ⟨rfl, rfl⟩ := hAe1
          have HV0 := Lib.hid hv0
          have HV1 := Lib.hid hv1
          clear hv0 hv1
          subst hAe0
          simp only [Nat.zero_mul, Nat.add_zero, Nat.one_mul] at p0 p1 p2
          simp only [Nat.one_mul] at q0 q1 q2
          have p0 : World.cell? (extR ((w.alloc (.cells #[.int .i64 8, .int .i64 i, .int .i64 v.k, .int .i64 v.i, .string v.t, .string nm, .slice A args.length c] 31)).alloc (.cells #[.int .i64 0, .int .i64 0, .string ⟨#[]⟩] 29)) x) ⟨b0, o0, none⟩ = some (.int .i64 v0.k) := p0
          have p1 : World.cell? (extR ((w.alloc (.cells #[.int .i64 8, .int .i64 i, .int .i64 v.k, .int .i64 v.i, .string v.t, .string nm, .slice A args.length c] 31)).alloc (.cells #[.int .i64 0, .int .i64 0, .string ⟨#[]⟩] 29)) x) ⟨b0, o0 + 1, none⟩ = some (.int .i64 v0.i) := p1
          have p2 : World.cell? (extR ((w.alloc (.cells #[.int .i64 8, .int .i64 i, .int .i64 v.k, .int .i64 v.i, .string v.t, .string nm, .slice A args.length c] 31)).alloc (.cells #[.int .i64 0, .int .i64 0, .string ⟨#[]⟩] 29)) x) ⟨b0, o0 + 2, none⟩ = some (.string v0.t) := p2
          have q0 : World.cell? (extR ((w.alloc (.cells #[.int .i64 8, .int .i64 i, .int .i64 v.k, .int .i64 v.i, .string v.t, .string nm, .slice A args.length c] 31)).alloc (.cells #[.int .i64 0, .int .i64 0, .string ⟨#[]⟩] 29)) x) ⟨b0, o0 + 3, none⟩ = some (.int .i64 v1.k) := q0
          have q1 : World.cell? (extR ((w.alloc (.cells #[.int .i64 8, .int .i64 i, .int .i64 v.k, .int .i64 v.i, .string v.t, .string nm, .slice A args.length c] 31)).alloc (.cells #[.int .i64 0, .int .i64 0, .string ⟨#[]⟩] 29)) x) ⟨b0, o0 + 4, none⟩ = some (.int .i64 v1.i) := q1
          have q2 : World.cell? (extR ((w.alloc (.cells #[.int .i64 8, .int .i64 i, .int .i64 v.k, .int .i64 v.i, .string v.t, .string nm, .slice A args.length c] 31)).alloc (.cells #[.int .i64 0, .int .i64 0, .string ⟨#[]⟩] 29)) x) ⟨b0, o0 + 5, none⟩ = some (.string v1.t) := q2
          have h0n : 0 < k := by omega
          have h1n : 1 < k := by omega
          have h0z : (0 : Int) < (k : Int) := by omega
          have h1z : (1 : Int) < (k : Int) := by omega
          go_wp2_with fail
          refine wp_region_T 10 (S := (fun w' => w'.cell? ⟨w.heap.size, 0, none⟩ = some (.int .i64 8) ∧ w'.cell? ⟨b0, o0, none⟩ = some (.int .i64 v0.k) ∧ w'.cell? ⟨b0, o0 + 1, none⟩ = some (.int .i64 v0.i) ∧ w'.cell? ⟨b0, o0 + 2, none⟩ = some (.string v0.t) ∧ w'.cell? ⟨b0, o0 + 3, none⟩ = some (.int .i64 v1.k) ∧ w'.cell? ⟨b0, o0 + 4, none⟩ = some (.int .i64 v1.i) ∧ w'.cell? ⟨b0, o0 + 5, none⟩ = some (.string v1.t))) (by kernel_rfl) (by simp [go_sem, ↓IntWalk.iteOmega, *]) (fun hHeld => ?_)
          refine wpAnyT_take (i := 0) (oi := ?oi801) (v := ?v801) ?hi801 (by kernel_rfl) (by kernel_rfl) (by kernel_rfl) (by kernel_rfl) (by kernel_rfl) ?hQ801 ?hy801 (by assumption) ?_
          case hi801 => (simp only [List.getElem?_toArray, List.getElem?_cons_succ, List.getElem?_cons_zero]; try rfl)
          case hQ801 => exact fun _ _ _ h => h
          case hy801 => (refine Or.inl ⟨by rfl, ?_⟩; intro wq hSw; (try dsimp only at hSw); go_simp; (try rw [if_pos h0n]); (try rw [if_pos h1n]); (try rw [if_pos h0z]); (try rw [if_pos h1z]); (try with_reducible rfl))
          (try simp only [Act.put, List.setIfInBounds_toArray, List.set_cons_zero, List.set_cons_succ])
          refine wpAnyT_take (i := 1) (oi := ?oi802) (v := ?v802) ?hi802 (by kernel_rfl) (by kernel_rfl) (by kernel_rfl) (by kernel_rfl) (by kernel_rfl) ?hQ802 ?hy802 (by assumption) ?_
          case hi802 => (simp only [List.getElem?_toArray, List.getElem?_cons_succ, List.getElem?_cons_zero]; try rfl)
          case hQ802 => exact fun _ _ _ h => h
          case hy802 => (refine Or.inl ⟨by rfl, ?_⟩; intro wq hSw; (try dsimp only at hSw); go_simp; (try rw [if_pos h0n]); (try rw [if_pos h1n]); (try rw [if_pos h0z]); (try rw [if_pos h1z]); (try with_reducible rfl))
          (try simp only [Act.put, List.setIfInBounds_toArray, List.set_cons_zero, List.set_cons_succ])
          refine wpAnyT_take (i := 2) (oi := ?oi803) (v := ?v803) ?hi803 (by kernel_rfl) (by kernel_rfl) (by kernel_rfl) (by kernel_rfl) (by kernel_rfl) ?hQ803 ?hy803 (by assumption) ?_
          case hi803 => (simp only [List.getElem?_toArray, List.getElem?_cons_succ, List.getElem?_cons_zero]; try rfl)
          case hQ803 => exact fun _ _ _ h => h
          case hy803 => (refine Or.inl ⟨by rfl, ?_⟩; intro wq hSw; (try dsimp only at hSw); go_simp; (try rw [if_pos h0n]); (try rw [if_pos h1n]); (try rw [if_pos h0z]); (try rw [if_pos h1z]); (try with_reducible rfl))
          (try simp only [Act.put, List.setIfInBounds_toArray, List.set_cons_zero, List.set_cons_succ])
          refine wpAnyT_take (i := 3) (oi := ?oi804) (v := ?v804) ?hi804 (by kernel_rfl) (by kernel_rfl) (by kernel_rfl) (by kernel_rfl) (by kernel_rfl) ?hQ804 ?hy804 (by assumption) ?_
          case hi804 => (simp only [List.getElem?_toArray, List.getElem?_cons_succ, List.getElem?_cons_zero]; try rfl)
          case hQ804 => exact fun _ _ _ h => h
          case hy804 => (refine Or.inl ⟨by rfl, ?_⟩; intro wq hSw; (try dsimp only at hSw); go_simp; (try rw [if_pos h0n]); (try rw [if_pos h1n]); (try rw [if_pos h0z]); (try rw [if_pos h1z]); (try with_reducible rfl))
          (try simp only [Act.put, List.setIfInBounds_toArray, List.set_cons_zero, List.set_cons_succ])
          refine wpAnyT_take (i := 4) (oi := ?oi805) (v := ?v805) ?hi805 (by kernel_rfl) (by kernel_rfl) (by kernel_rfl) (by kernel_rfl) (by kernel_rfl) ?hQ805 ?hy805 (by assumption) ?_
          case hi805 => (simp only [List.getElem?_toArray, List.getElem?_cons_succ, List.getElem?_cons_zero]; try rfl)
          case hQ805 => exact fun _ _ _ h => h
          case hy805 => (refine Or.inl ⟨by rfl, ?_⟩; intro wq hSw; (try dsimp only at hSw); go_simp; (try rw [if_pos h0n]); (try rw [if_pos h1n]); (try rw [if_pos h0z]); (try rw [if_pos h1z]); (try with_reducible rfl))
          (try simp only [Act.put, List.setIfInBounds_toArray, List.set_cons_zero, List.set_cons_succ])
          refine wpAnyT_take (i := 5) (oi := ?oi806) (v := ?v806) ?hi806 (by kernel_rfl) (by kernel_rfl) (by kernel_rfl) (by kernel_rfl) (by kernel_rfl) ?hQ806 ?hy806 (by assumption) ?_
          case hi806 => (simp only [List.getElem?_toArray, List.getElem?_cons_succ, List.getElem?_cons_zero]; try rfl)
          case hQ806 => exact fun _ _ _ h => h
          case hy806 => (refine Or.inl ⟨by rfl, ?_⟩; intro wq hSw; (try dsimp only at hSw); go_simp; (try rw [if_pos h0n]); (try rw [if_pos h1n]); (try rw [if_pos h0z]); (try rw [if_pos h1z]); (try with_reducible rfl))
          (try simp only [Act.put, List.setIfInBounds_toArray, List.set_cons_zero, List.set_cons_succ])
          refine wpAnyT_take (i := 6) (oi := ?oi807) (v := ?v807) ?hi807 (by kernel_rfl) (by kernel_rfl) (by kernel_rfl) (by kernel_rfl) (by kernel_rfl) ?hQ807 ?hy807 (by assumption) ?_
          case hi807 => (simp only [List.getElem?_toArray, List.getElem?_cons_succ, List.getElem?_cons_zero]; try rfl)
          case hQ807 => exact fun _ _ _ h => h
          case hy807 => (refine Or.inl ⟨by rfl, ?_⟩; intro wq hSw; (try dsimp only at hSw); go_simp; (try rw [if_pos h0n]); (try rw [if_pos h1n]); (try rw [if_pos h0z]); (try rw [if_pos h1z]); (try with_reducible rfl))
          (try simp only [Act.put, List.setIfInBounds_toArray, List.set_cons_zero, List.set_cons_succ])
          refine wpAnyT_take (i := 7) (oi := ?oi808) (v := ?v808) ?hi808 (by kernel_rfl) (by kernel_rfl) (by kernel_rfl) (by kernel_rfl) (by kernel_rfl) ?hQ808 ?hy808 (by assumption) ?_
          case hi808 => (simp only [List.getElem?_toArray, List.getElem?_cons_succ, List.getElem?_cons_zero]; try rfl)
          case hQ808 => exact fun _ _ _ h => h
          case hy808 => (refine Or.inl ⟨by rfl, ?_⟩; intro wq hSw; (try dsimp only at hSw); go_simp; (try rw [if_pos h0n]); (try rw [if_pos h1n]); (try rw [if_pos h0z]); (try rw [if_pos h1z]); (try with_reducible rfl))
          (try simp only [Act.put, List.setIfInBounds_toArray, List.set_cons_zero, List.set_cons_succ])
          refine wpAnyT_ready (rs := [8]) (by kernel_rfl) (by simp) ?_
          refine AllReadyT.cons (o := ?oi809) ?hi809 ?ti809 AllReadyT.nil
          case hi809 => (simp only [List.getElem?_toArray, List.getElem?_cons_succ, List.getElem?_cons_zero]; try rfl)
          case ti809 =>
            intro KQ hKQ
            go_simp
            go_at_call 41
            refine Calls.mono (compared_any 8 v0 v1 _) ?_
            rintro e w1 ⟨⟨z, rfl, hzz⟩, hb1⟩
            obtain ⟨x5, rfl⟩ := hb1.get
            have HZZ := Lib.hid hzz
            clear hb1 hzz
            refine hKQ.out _ _ (by simp [go_sem, ↓IntWalk.iteOmega, *]) (fun hHeld2 => ?_)
            clear hHeld hKQ KQ; have hHeld := hHeld2; clear hHeld2
            (try simp only [Act.put, List.setIfInBounds_toArray, List.set_cons_zero, List.set_cons_succ])
            refine wpAnyT_ready (rs := [9]) (by kernel_rfl) (by simp) ?_
            refine AllReadyT.cons (o := ?oi810) ?hi810 ?ti810 AllReadyT.nil
            case hi810 => (simp only [List.getElem?_toArray, List.getElem?_cons_succ, List.getElem?_cons_zero]; try rfl)
            case ti810 =>
              intro KQ hKQ
              go_simp
              have hrz := ofT_size z
              have HO7 := Lib.hid fun W => rof7_any z W
              obtain ⟨rz, hrzz⟩ : ∃ rz, ofT z = rz := ⟨_, rfl⟩
              rw [hrzz] at HO7 hrz
              have HRZ := Lib.hid hrzz
              clear hrzz
              go_at_call 38
              refine Calls.mono (HO7.out _) ?_
              rintro e w1 ⟨rfl, hb1⟩
              obtain ⟨x6, rfl⟩ := hb1.get
              clear hb1
              refine hKQ.out _ _ (by simp [go_sem, ↓IntWalk.iteOmega, *]) (fun hHeld2 => ?_)
              clear hHeld hKQ KQ; have hHeld := hHeld2; clear hHeld2
              (try simp only [Act.put, List.setIfInBounds_toArray, List.set_cons_zero, List.set_cons_succ])
              refine wpAnyT_ready (rs := [10]) (by kernel_rfl) (by simp) ?_
              refine AllReadyT.last (o := ?oi811) ?hi811 ?ti811
              case hi811 => (simp only [List.getElem?_toArray, List.getElem?_cons_succ, List.getElem?_cons_zero]; try rfl)
              case ti811 =>
                intro KQ hKQ
                go_simp
                (repeat (simp only [go_sem, ↓IntWalk.iteOmega, ↓reduceIte, Bool.false_eq_true]; (try go_simp)))
                refine hKQ.out _ _ ?_
                clear hKQ KQ hHeld
                (try simp only [Act.put, List.setIfInBounds_toArray, List.set_cons_zero, List.set_cons_succ])
                refine wpAnyT_done (by kernel_rfl) ?_ _
                go_wp2
                refine bodyPost_ret (v := vag rz) ?_ rfl ⟨EvP.other HFB.out (by decide) (by decide) (by decide) (by decide) (hrz), by repeat (first | exact Ext.refl' _ | assumption | apply Ext.ex' | apply Ext.al | apply Ext.drN | apply Ext.dr)⟩
                simp [results, Tryz.results20, go_sem, ↓IntWalk.iteOmega]
        · have hfb : arLo 9 ≤ (k : Int) ∧ (k : Int) ≤ arHi 9 := hfa
          simp only [show arLo 9 = 2 by decide, show arHi 9 = 2 by decide] at hfb
          clear hfa
          obtain ⟨v0, b0, o0, hv0, hAe0, hb0, p0, p1, p2⟩ := HRl.out.val3 HLK.out (show 0 < k by omega)
          have hs0 : SmV v0 := HSM.out v0 (List.mem_of_getElem? hv0)
          have hbb := HBB.out b0 o0 hAe0
          have hbn : b0 < w.heap.size + 1 + 1 + x.n := by simpa using hb0
          obtain ⟨v1, b1, o1, hv1, hAe1, hb1, q0, q1, q2⟩ := HRl.out.val3 HLK.out (show 1 < k by omega)
          have hs1 : SmV v1 := HSM.out v1 (List.mem_of_getElem? hv1)
          simp only [hAe0, Option.some.injEq, Addr.mk.injEq, and_true] at hAe1
          obtain ⟨rfl, rfl⟩ := hAe1
          have HV0 := Lib.hid hv0
          have HV1 := Lib.hid hv1
          clear hv0 hv1
          subst hAe0
          simp only [Nat.zero_mul, Nat.add_zero, Nat.one_mul] at p0 p1 p2
          simp only [Nat.one_mul] at q0 q1 q2
          have p0 : World.cell? (extR ((w.alloc (.cells #[.int .i64 9, .int .i64 i, .int .i64 v.k, .int .i64 v.i, .string v.t, .string nm, .slice A args.length c] 31)).alloc (.cells #[.int .i64 0, .int .i64 0, .string ⟨#[]⟩] 29)) x) ⟨b0, o0, none⟩ = some (.int .i64 v0.k) := p0
          have p1 : World.cell? (extR ((w.alloc (.cells #[.int .i64 9, .int .i64 i, .int .i64 v.k, .int .i64 v.i, .string v.t, .string nm, .slice A args.length c] 31)).alloc (.cells #[.int .i64 0, .int .i64 0, .string ⟨#[]⟩] 29)) x) ⟨b0, o0 + 1, none⟩ = some (.int .i64 v0.i) := p1
          have p2 : World.cell? (extR ((w.alloc (.cells #[.int .i64 9, .int .i64 i, .int .i64 v.k, .int .i64 v.i, .string v.t, .string nm, .slice A args.length c] 31)).alloc (.cells #[.int .i64 0, .int .i64 0, .string ⟨#[]⟩] 29)) x) ⟨b0, o0 + 2, none⟩ = some (.string v0.t) := p2
          have q0 : World.cell? (extR ((w.alloc (.cells #[.int .i64 9, .int .i64 i, .int .i64 v.k, .int .i64 v.i, .string v.t, .string nm, .slice A args.length c] 31)).alloc (.cells #[.int .i64 0, .int .i64 0, .string ⟨#[]⟩] 29)) x) ⟨b0, o0 + 3, none⟩ = some (.int .i64 v1.k) := q0
          have q1 : World.cell? (extR ((w.alloc (.cells #[.int .i64 9, .int .i64 i, .int .i64 v.k, .int .i64 v.i, .string v.t, .string nm, .slice A args.length c] 31)).alloc (.cells #[.int .i64 0, .int .i64 0, .string ⟨#[]⟩] 29)) x) ⟨b0, o0 + 4, none⟩ = some (.int .i64 v1.i) := q1
          have q2 : World.cell? (extR ((w.alloc (.cells #[.int .i64 9, .int .i64 i, .int .i64 v.k, .int .i64 v.i, .string v.t, .string nm, .slice A args.length c] 31)).alloc (.cells #[.int .i64 0, .int .i64 0, .string ⟨#[]⟩] 29)) x) ⟨b0, o0 + 5, none⟩ = some (.string v1.t) := q2
          have h0n : 0 < k := by omega
          have h1n : 1 < k := by omega
          have h0z : (0 : Int) < (k : Int) := by omega
          have h1z : (1 : Int) < (k : Int) := by omega
          go_wp2_with fail
          refine wp_region_T 10 (S := (fun w' => w'.cell? ⟨w.heap.size, 0, none⟩ = some (.int .i64 9) ∧ w'.cell? ⟨b0, o0, none⟩ = some (.int .i64 v0.k) ∧ w'.cell? ⟨b0, o0 + 1, none⟩ = some (.int .i64 v0.i) ∧ w'.cell? ⟨b0, o0 + 2, none⟩ = some (.string v0.t) ∧ w'.cell? ⟨b0, o0 + 3, none⟩ = some (.int .i64 v1.k) ∧ w'.cell? ⟨b0, o0 + 4, none⟩ = some (.int .i64 v1.i) ∧ w'.cell? ⟨b0, o0 + 5, none⟩ = some (.string v1.t))) (by kernel_rfl) (by simp [go_sem, ↓IntWalk.iteOmega, *]) (fun hHeld => ?_)
          refine wpAnyT_take (i := 0) (oi := ?oi901) (v := ?v901) ?hi901 (by kernel_rfl) (by kernel_rfl) (by kernel_rfl) (by kernel_rfl) (by kernel_rfl) ?hQ901 ?hy901 (by assumption) ?_
          case hi901 => (simp only [List.getElem?_toArray, List.getElem?_cons_succ, List.getElem?_cons_zero]; try rfl)
          case hQ901 => exact fun _ _ _ h => h
          case hy901 => (refine Or.inl ⟨by rfl, ?_⟩; intro wq hSw; (try dsimp only at hSw); go_simp; (try rw [if_pos h0n]); (try rw [if_pos h1n]); (try rw [if_pos h0z]); (try rw [if_pos h1z]); (try with_reducible rfl))
          (try simp only [Act.put, List.setIfInBounds_toArray, List.set_cons_zero, List.set_cons_succ])
          refine wpAnyT_take (i := 1) (oi := ?oi902) (v := ?v902) ?hi902 (by kernel_rfl) (by kernel_rfl) (by kernel_rfl) (by kernel_rfl) (by kernel_rfl) ?hQ902 ?hy902 (by assumption) ?_
          case hi902 => (simp only [List.getElem?_toArray, List.getElem?_cons_succ, List.getElem?_cons_zero]; try rfl)
          case hQ902 => exact fun _ _ _ h => h
          case hy902 => (refine Or.inl ⟨by rfl, ?_⟩; intro wq hSw; (try dsimp only at hSw); go_simp; (try rw [if_pos h0n]); (try rw [if_pos h1n]); (try rw [if_pos h0z]); (try rw [if_pos h1z]); (try with_reducible rfl))
          (try simp only [Act.put, List.setIfInBounds_toArray, List.set_cons_zero, List.set_cons_succ])
          refine wpAnyT_take (i := 2) (oi := ?oi903) (v := ?v903) ?hi903 (by kernel_rfl) (by kernel_rfl) (by kernel_rfl) (by kernel_rfl) (by kernel_rfl) ?hQ903 ?hy903 (by assumption) ?_
          case hi903 => (simp only [List.getElem?_toArray, List.getElem?_cons_succ, List.getElem?_cons_zero]; try rfl)
          case hQ903 => exact fun _ _ _ h => h
          case hy903 => (refine Or.inl ⟨by rfl, ?_⟩; intro wq hSw; (try dsimp only at hSw); go_simp; (try rw [if_pos h0n]); (try rw [if_pos h1n]); (try rw [if_pos h0z]); (try rw [if_pos h1z]); (try with_reducible rfl))
          (try simp only [Act.put, List.setIfInBounds_toArray, List.set_cons_zero, List.set_cons_succ])
          refine wpAnyT_take (i := 3) (oi := ?oi904) (v := ?v904) ?hi904 (by kernel_rfl) (by kernel_rfl) (by kernel_rfl) (by kernel_rfl) (by kernel_rfl) ?hQ904 ?hy904 (by assumption) ?_
          case hi904 => (simp only [List.getElem?_toArray, List.getElem?_cons_succ, List.getElem?_cons_zero]; try rfl)
          case hQ904 => exact fun _ _ _ h => h
          case hy904 => (refine Or.inl ⟨by rfl, ?_⟩; intro wq hSw; (try dsimp only at hSw); go_simp; (try rw [if_pos h0n]); (try rw [if_pos h1n]); (try rw [if_pos h0z]); (try rw [if_pos h1z]); (try with_reducible rfl))
          (try simp only [Act.put, List.setIfInBounds_toArray, List.set_cons_zero, List.set_cons_succ])
          refine wpAnyT_take (i := 4) (oi := ?oi905) (v := ?v905) ?hi905 (by kernel_rfl) (by kernel_rfl) (by kernel_rfl) (by kernel_rfl) (by kernel_rfl) ?hQ905 ?hy905 (by assumption) ?_
          case hi905 => (simp only [List.getElem?_toArray, List.getElem?_cons_succ, List.getElem?_cons_zero]; try rfl)
          case hQ905 => exact fun _ _ _ h => h
          case hy905 => (refine Or.inl ⟨by rfl, ?_⟩; intro wq hSw; (try dsimp only at hSw); go_simp; (try rw [if_pos h0n]); (try rw [if_pos h1n]); (try rw [if_pos h0z]); (try rw [if_pos h1z]); (try with_reducible rfl))
          (try simp only [Act.put, List.setIfInBounds_toArray, List.set_cons_zero, List.set_cons_succ])
          refine wpAnyT_take (i := 5) (oi := ?oi906) (v := ?v906) ?hi906 (by kernel_rfl) (by kernel_rfl) (by kernel_rfl) (by kernel_rfl) (by kernel_rfl) ?hQ906 ?hy906 (by assumption) ?_
          case hi906 => (simp only [List.getElem?_toArray, List.getElem?_cons_succ, List.getElem?_cons_zero]; try rfl)
          case hQ906 => exact fun _ _ _ h => h
          case hy906 => (refine Or.inl ⟨by rfl, ?_⟩; intro wq hSw; (try dsimp only at hSw); go_simp; (try rw [if_pos h0n]); (try rw [if_pos h1n]); (try rw [if_pos h0z]); (try rw [if_pos h1z]); (try with_reducible rfl))
          (try simp only [Act.put, List.setIfInBounds_toArray, List.set_cons_zero, List.set_cons_succ])
          refine wpAnyT_take (i := 6) (oi := ?oi907) (v := ?v907) ?hi907 (by kernel_rfl) (by kernel_rfl) (by kernel_rfl) (by kernel_rfl) (by kernel_rfl) ?hQ907 ?hy907 (by assumption) ?_
          case hi907 => (simp only [List.getElem?_toArray, List.getElem?_cons_succ, List.getElem?_cons_zero]; try rfl)
          case hQ907 => exact fun _ _ _ h => h
          case hy907 => (refine Or.inl ⟨by rfl, ?_⟩; intro wq hSw; (try dsimp only at hSw); go_simp; (try rw [if_pos h0n]); (try rw [if_pos h1n]); (try rw [if_pos h0z]); (try rw [if_pos h1z]); (try with_reducible rfl))
          (try simp only [Act.put, List.setIfInBounds_toArray, List.set_cons_zero, List.set_cons_succ])
          refine wpAnyT_take (i := 7) (oi := ?oi908) (v := ?v908) ?hi908 (by kernel_rfl) (by kernel_rfl) (by kernel_rfl) (by kernel_rfl) (by kernel_rfl) ?hQ908 ?hy908 (by assumption) ?_
          case hi908 => (simp only [List.getElem?_toArray, List.getElem?_cons_succ, List.getElem?_cons_zero]; try rfl)
          case hQ908 => exact fun _ _ _ h => h
          case hy908 => (refine Or.inl ⟨by rfl, ?_⟩; intro wq hSw; (try dsimp only at hSw); go_simp; (try rw [if_pos h0n]); (try rw [if_pos h1n]); (try rw [if_pos h0z]); (try rw [if_pos h1z]); (try with_reducible rfl))
          (try simp only [Act.put, List.setIfInBounds_toArray, List.set_cons_zero, List.set_cons_succ])
          refine wpAnyT_ready (rs := [8]) (by kernel_rfl) (by simp) ?_
          refine AllReadyT.cons (o := ?oi909) ?hi909 ?ti909 AllReadyT.nil
          case hi909 => (simp only [List.getElem?_toArray, List.getElem?_cons_succ, List.getElem?_cons_zero]; try rfl)
          case ti909 =>
            intro KQ hKQ
            go_simp
            go_at_call 41
            refine Calls.mono (compared_any 9 v0 v1 _) ?_
            rintro e w1 ⟨⟨z, rfl, hzz⟩, hb1⟩
            obtain ⟨x5, rfl⟩ := hb1.get
            have HZZ := Lib.hid hzz
            clear hb1 hzz
            refine hKQ.out _ _ (by simp [go_sem, ↓IntWalk.iteOmega, *]) (fun hHeld2 => ?_)
            clear hHeld hKQ KQ; have hHeld := hHeld2; clear hHeld2
            (try simp only [Act.put, List.setIfInBounds_toArray, List.set_cons_zero, List.set_cons_succ])
            refine wpAnyT_ready (rs := [9]) (by kernel_rfl) (by simp) ?_
            refine AllReadyT.cons (o := ?oi910) ?hi910 ?ti910 AllReadyT.nil
            case hi910 => (simp only [List.getElem?_toArray, List.getElem?_cons_succ, List.getElem?_cons_zero]; try rfl)
            case ti910 =>
              intro KQ hKQ
              go_simp
              have hrz := ofT_size z
              have HO7 := Lib.hid fun W => rof7_any z W
              obtain ⟨rz, hrzz⟩ : ∃ rz, ofT z = rz := ⟨_, rfl⟩
              rw [hrzz] at HO7 hrz
              have HRZ := Lib.hid hrzz
              clear hrzz
              go_at_call 38
              refine Calls.mono (HO7.out _) ?_
              rintro e w1 ⟨rfl, hb1⟩
              obtain ⟨x6, rfl⟩ := hb1.get
              clear hb1
              refine hKQ.out _ _ (by simp [go_sem, ↓IntWalk.iteOmega, *]) (fun hHeld2 => ?_)
              clear hHeld hKQ KQ; have hHeld := hHeld2; clear hHeld2
              (try simp only [Act.put, List.setIfInBounds_toArray, List.set_cons_zero, List.set_cons_succ])
              refine wpAnyT_ready (rs := [10]) (by kernel_rfl) (by simp) ?_
              refine AllReadyT.last (o := ?oi911) ?hi911 ?ti911
              case hi911 => (simp only [List.getElem?_toArray, List.getElem?_cons_succ, List.getElem?_cons_zero]; try rfl)
              case ti911 =>
                intro KQ hKQ
                go_simp
                (repeat (simp only [go_sem, ↓IntWalk.iteOmega, ↓reduceIte, Bool.false_eq_true]; (try go_simp)))
                refine hKQ.out _ _ ?_
                clear hKQ KQ hHeld
                (try simp only [Act.put, List.setIfInBounds_toArray, List.set_cons_zero, List.set_cons_succ])
                refine wpAnyT_done (by kernel_rfl) ?_ _
                go_wp2
                refine bodyPost_ret (v := vag rz) ?_ rfl ⟨EvP.other HFB.out (by decide) (by decide) (by decide) (by decide) (hrz), by repeat (first | exact Ext.refl' _ | assumption | apply Ext.ex' | apply Ext.al | apply Ext.drN | apply Ext.dr)⟩
                simp [results, Tryz.results20, go_sem, ↓IntWalk.iteOmega]
        · have hfb : arLo 10 ≤ (k : Int) ∧ (k : Int) ≤ arHi 10 := hfa
          simp only [show arLo 10 = 2 by decide, show arHi 10 = 2 by decide] at hfb
          clear hfa
          obtain ⟨v0, b0, o0, hv0, hAe0, hb0, p0, p1, p2⟩ := HRl.out.val3 HLK.out (show 0 < k by omega)
          have hs0 : SmV v0 := HSM.out v0 (List.mem_of_getElem? hv0)
          have hbb := HBB.out b0 o0 hAe0
          have hbn : b0 < w.heap.size + 1 + 1 + x.n := by simpa using hb0
          obtain ⟨v1, b1, o1, hv1, hAe1, hb1, q0, q1, q2⟩ := HRl.out.val3 HLK.out (show 1 < k by omega)
          have hs1 : SmV v1 := HSM.out v1 (List.mem_of_getElem? hv1)
          simp only [hAe0, Option.some.injEq, Addr.mk.injEq, and_true] at hAe1
          obtain ⟨rfl, rfl⟩ := hAe1
          have HV0 := Lib.hid hv0
          have HV1 := Lib.hid hv1
          clear hv0 hv1
          subst hAe0
          simp only [Nat.zero_mul, Nat.add_zero, Nat.one_mul] at p0 p1 p2
          simp only [Nat.one_mul] at q0 q1 q2
          have p0 : World.cell? (extR ((w.alloc (.cells #[.int .i64 10, .int .i64 i, .int .i64 v.k, .int .i64 v.i, .string v.t, .string nm, .slice A args.length c] 31)).alloc (.cells #[.int .i64 0, .int .i64 0, .string ⟨#[]⟩] 29)) x) ⟨b0, o0, none⟩ = some (.int .i64 v0.k) := p0
          have p1 : World.cell? (extR ((w.alloc (.cells #[.int .i64 10, .int .i64 i, .int .i64 v.k, .int .i64 v.i, .string v.t, .string nm, .slice A args.length c] 31)).alloc (.cells #[.int .i64 0, .int .i64 0, .string ⟨#[]⟩] 29)) x) ⟨b0, o0 + 1, none⟩ = some (.int .i64 v0.i) := p1
          have p2 : World.cell? (extR ((w.alloc (.cells #[.int .i64 10, .int .i64 i, .int .i64 v.k, .int .i64 v.i, .string v.t, .string nm, .slice A args.length c] 31)).alloc (.cells #[.int .i64 0, .int .i64 0, .string ⟨#[]⟩] 29)) x) ⟨b0, o0 + 2, none⟩ = some (.string v0.t) := p2
          have q0 : World.cell? (extR ((w.alloc (.cells #[.int .i64 10, .int .i64 i, .int .i64 v.k, .int .i64 v.i, .string v.t, .string nm, .slice A args.length c] 31)).alloc (.cells #[.int .i64 0, .int .i64 0, .string ⟨#[]⟩] 29)) x) ⟨b0, o0 + 3, none⟩ = some (.int .i64 v1.k) := q0
          have q1 : World.cell? (extR ((w.alloc (.cells #[.int .i64 10, .int .i64 i, .int .i64 v.k, .int .i64 v.i, .string v.t, .string nm, .slice A args.length c] 31)).alloc (.cells #[.int .i64 0, .int .i64 0, .string ⟨#[]⟩] 29)) x) ⟨b0, o0 + 4, none⟩ = some (.int .i64 v1.i) := q1
          have q2 : World.cell? (extR ((w.alloc (.cells #[.int .i64 10, .int .i64 i, .int .i64 v.k, .int .i64 v.i, .string v.t, .string nm, .slice A args.length c] 31)).alloc (.cells #[.int .i64 0, .int .i64 0, .string ⟨#[]⟩] 29)) x) ⟨b0, o0 + 5, none⟩ = some (.string v1.t) := q2
          have h0n : 0 < k := by omega
          have h1n : 1 < k := by omega
          have h0z : (0 : Int) < (k : Int) := by omega
          have h1z : (1 : Int) < (k : Int) := by omega
          go_wp2_with fail
          refine wp_region_T 10 (S := (fun w' => w'.cell? ⟨w.heap.size, 0, none⟩ = some (.int .i64 10) ∧ w'.cell? ⟨b0, o0, none⟩ = some (.int .i64 v0.k) ∧ w'.cell? ⟨b0, o0 + 1, none⟩ = some (.int .i64 v0.i) ∧ w'.cell? ⟨b0, o0 + 2, none⟩ = some (.string v0.t) ∧ w'.cell? ⟨b0, o0 + 3, none⟩ = some (.int .i64 v1.k) ∧ w'.cell? ⟨b0, o0 + 4, none⟩ = some (.int .i64 v1.i) ∧ w'.cell? ⟨b0, o0 + 5, none⟩ = some (.string v1.t))) (by kernel_rfl) (by simp [go_sem, ↓IntWalk.iteOmega, *]) (fun hHeld => ?_)
          refine wpAnyT_take (i := 0) (oi := ?oi1001) (v := ?v1001) ?hi1001 (by kernel_rfl) (by kernel_rfl) (by kernel_rfl) (by kernel_rfl) (by kernel_rfl) ?hQ1001 ?hy1001 (by assumption) ?_
          case hi1001 => (simp only [List.getElem?_toArray, List.getElem?_cons_succ, List.getElem?_cons_zero]; try rfl)
          case hQ1001 => exact fun _ _ _ h => h
          case hy1001 => (refine Or.inl ⟨by rfl, ?_⟩; intro wq hSw; (try dsimp only at hSw); go_simp; (try rw [if_pos h0n]); (try rw [if_pos h1n]); (try rw [if_pos h0z]); (try rw [if_pos h1z]); (try with_reducible rfl))
          (try simp only [Act.put, List.setIfInBounds_toArray, List.set_cons_zero, List.set_cons_succ])
          refine wpAnyT_take (i := 1) (oi := ?oi1002) (v := ?v1002) ?hi1002 (by kernel_rfl) (by kernel_rfl) (by kernel_rfl) (by kernel_rfl) (by kernel_rfl) ?hQ1002 ?hy1002 (by assumption) ?_
          case hi1002 => (simp only [List.getElem?_toArray, List.getElem?_cons_succ, List.getElem?_cons_zero]; try rfl)
          case hQ1002 => exact fun _ _ _ h => h
          case hy1002 => (refine Or.inl ⟨by rfl, ?_⟩; intro wq hSw; (try dsimp only at hSw); go_simp; (try rw [if_pos h0n]); (try rw [if_pos h1n]); (try rw [if_pos h0z]); (try rw [if_pos h1z]); (try with_reducible rfl))
          (try simp only [Act.put, List.setIfInBounds_toArray, List.set_cons_zero, List.set_cons_succ])
          refine wpAnyT_take (i := 2) (oi := ?oi1003) (v := ?v1003) ?hi1003 (by kernel_rfl) (by kernel_rfl) (by kernel_rfl) (by kernel_rfl) (by kernel_rfl) ?hQ1003 ?hy1003 (by assumption) ?_
          case hi1003 => (simp only [List.getElem?_toArray, List.getElem?_cons_succ, List.getElem?_cons_zero]; try rfl)
          case hQ1003 => exact fun _ _ _ h => h
          case hy1003 => (refine Or.inl ⟨by rfl, ?_⟩; intro wq hSw; (try dsimp only at hSw); go_simp; (try rw [if_pos h0n]); (try rw [if_pos h1n]); (try rw [if_pos h0z]); (try rw [if_pos h1z]); (try with_reducible rfl))
          (try simp only [Act.put, List.setIfInBounds_toArray, List.set_cons_zero, List.set_cons_succ])
          refine wpAnyT_take (i := 3) (oi := ?oi1004) (v := ?v1004) ?hi1004 (by kernel_rfl) (by kernel_rfl) (by kernel_rfl) (by kernel_rfl) (by kernel_rfl) ?hQ1004 ?hy1004 (by assumption) ?_
          case hi1004 => (simp only [List.getElem?_toArray, List.getElem?_cons_succ, List.getElem?_cons_zero]; try rfl)
          case hQ1004 => exact fun _ _ _ h => h
          case hy1004 => (refine Or.inl ⟨by rfl, ?_⟩; intro wq hSw; (try dsimp only at hSw); go_simp; (try rw [if_pos h0n]); (try rw [if_pos h1n]); (try rw [if_pos h0z]); (try rw [if_pos h1z]); (try with_reducible rfl))
          (try simp only [Act.put, List.setIfInBounds_toArray, List.set_cons_zero, List.set_cons_succ])
          refine wpAnyT_take (i := 4) (oi := ?oi1005) (v := ?v1005) ?hi1005 (by kernel_rfl) (by kernel_rfl) (by kernel_rfl) (by kernel_rfl) (by kernel_rfl) ?hQ1005 ?hy1005 (by assumption) ?_
          case hi1005 => (simp only [List.getElem?_toArray, List.getElem?_cons_succ, List.getElem?_cons_zero]; try rfl)
          case hQ1005 => exact fun _ _ _ h => h
          case hy1005 => (refine Or.inl ⟨by rfl, ?_⟩; intro wq hSw; (try dsimp only at hSw); go_simp; (try rw [if_pos h0n]); (try rw [if_pos h1n]); (try rw [if_pos h0z]); (try rw [if_pos h1z]); (try with_reducible rfl))
          (try simp only [Act.put, List.setIfInBounds_toArray, List.set_cons_zero, List.set_cons_succ])
          refine wpAnyT_take (i := 5) (oi := ?oi1006) (v := ?v1006) ?hi1006 (by kernel_rfl) (by kernel_rfl) (by kernel_rfl) (by kernel_rfl) (by kernel_rfl) ?hQ1006 ?hy1006 (by assumption) ?_
          case hi1006 => (simp only [List.getElem?_toArray, List.getElem?_cons_succ, List.getElem?_cons_zero]; try rfl)
          case hQ1006 => exact fun _ _ _ h => h
          case hy1006 => (refine Or.inl ⟨by rfl, ?_⟩; intro wq hSw; (try dsimp only at hSw); go_simp; (try rw [if_pos h0n]); (try rw [if_pos h1n]); (try rw [if_pos h0z]); (try rw [if_pos h1z]); (try with_reducible rfl))
          (try simp only [Act.put, List.setIfInBounds_toArray, List.set_cons_zero, List.set_cons_succ])
          refine wpAnyT_take (i := 6) (oi := ?oi1007) (v := ?v1007) ?hi1007 (by kernel_rfl) (by kernel_rfl) (by kernel_rfl) (by kernel_rfl) (by kernel_rfl) ?hQ1007 ?hy1007 (by assumption) ?_
          case hi1007 => (simp only [List.getElem?_toArray, List.getElem?_cons_succ, List.getElem?_cons_zero]; try rfl)
          case hQ1007 => exact fun _ _ _ h => h
          case hy1007 => (refine Or.inl ⟨by rfl, ?_⟩; intro wq hSw; (try dsimp only at hSw); go_simp; (try rw [if_pos h0n]); (try rw [if_pos h1n]); (try rw [if_pos h0z]); (try rw [if_pos h1z]); (try with_reducible rfl))
          (try simp only [Act.put, List.setIfInBounds_toArray, List.set_cons_zero, List.set_cons_succ])
          refine wpAnyT_take (i := 7) (oi := ?oi1008) (v := ?v1008) ?hi1008 (by kernel_rfl) (by kernel_rfl) (by kernel_rfl) (by kernel_rfl) (by kernel_rfl) ?hQ1008 ?hy1008 (by assumption) ?_
          case hi1008 => (simp only [List.getElem?_toArray, List.getElem?_cons_succ, List.getElem?_cons_zero]; try rfl)
          case hQ1008 => exact fun _ _ _ h => h
          case hy1008 => (refine Or.inl ⟨by rfl, ?_⟩; intro wq hSw; (try dsimp only at hSw); go_simp; (try rw [if_pos h0n]); (try rw [if_pos h1n]); (try rw [if_pos h0z]); (try rw [if_pos h1z]); (try with_reducible rfl))
          (try simp only [Act.put, List.setIfInBounds_toArray, List.set_cons_zero, List.set_cons_succ])
          refine wpAnyT_ready (rs := [8]) (by kernel_rfl) (by simp) ?_
          refine AllReadyT.cons (o := ?oi1009) ?hi1009 ?ti1009 AllReadyT.nil
          case hi1009 => (simp only [List.getElem?_toArray, List.getElem?_cons_succ, List.getElem?_cons_zero]; try rfl)
          case ti1009 =>
            intro KQ hKQ
            go_simp
            go_at_call 41
            refine Calls.mono (compared_any 10 v0 v1 _) ?_
            rintro e w1 ⟨⟨z, rfl, hzz⟩, hb1⟩
            obtain ⟨x5, rfl⟩ := hb1.get
            have HZZ := Lib.hid hzz
            clear hb1 hzz
            refine hKQ.out _ _ (by simp [go_sem, ↓IntWalk.iteOmega, *]) (fun hHeld2 => ?_)
            clear hHeld hKQ KQ; have hHeld := hHeld2; clear hHeld2
            (try simp only [Act.put, List.setIfInBounds_toArray, List.set_cons_zero, List.set_cons_succ])
            refine wpAnyT_ready (rs := [9]) (by kernel_rfl) (by simp) ?_
            refine AllReadyT.cons (o := ?oi1010) ?hi1010 ?ti1010 AllReadyT.nil
            case hi1010 => (simp only [List.getElem?_toArray, List.getElem?_cons_succ, List.getElem?_cons_zero]; try rfl)
            case ti1010 =>
              intro KQ hKQ
              go_simp
              have hrz := ofT_size z
              have HO7 := Lib.hid fun W => rof7_any z W
              obtain ⟨rz, hrzz⟩ : ∃ rz, ofT z = rz := ⟨_, rfl⟩
              rw [hrzz] at HO7 hrz
              have HRZ := Lib.hid hrzz
              clear hrzz
              go_at_call 38
              refine Calls.mono (HO7.out _) ?_
              rintro e w1 ⟨rfl, hb1⟩
              obtain ⟨x6, rfl⟩ := hb1.get
              clear hb1
              refine hKQ.out _ _ (by simp [go_sem, ↓IntWalk.iteOmega, *]) (fun hHeld2 => ?_)
              clear hHeld hKQ KQ; have hHeld := hHeld2; clear hHeld2
              (try simp only [Act.put, List.setIfInBounds_toArray, List.set_cons_zero, List.set_cons_succ])
              refine wpAnyT_ready (rs := [10]) (by kernel_rfl) (by simp) ?_
              refine AllReadyT.last (o := ?oi1011) ?hi1011 ?ti1011
              case hi1011 => (simp only [List.getElem?_toArray, List.getElem?_cons_succ, List.getElem?_cons_zero]; try rfl)
              case ti1011 =>
                intro KQ hKQ
                go_simp
                (repeat (simp only [go_sem, ↓IntWalk.iteOmega, ↓reduceIte, Bool.false_eq_true]; (try go_simp)))
                refine hKQ.out _ _ ?_
                clear hKQ KQ hHeld
                (try simp only [Act.put, List.setIfInBounds_toArray, List.set_cons_zero, List.set_cons_succ])
                refine wpAnyT_done (by kernel_rfl) ?_ _
                go_wp2
                refine bodyPost_ret (v := vag rz) ?_ rfl ⟨EvP.other HFB.out (by decide) (by decide) (by decide) (by decide) (hrz), by repeat (first | exact Ext.refl' _ | assumption | apply Ext.ex' | apply Ext.al | apply Ext.drN | apply Ext.dr)⟩
                simp [results, Tryz.results20, go_sem, ↓IntWalk.iteOmega]
        · have hfb : arLo 11 ≤ (k : Int) ∧ (k : Int) ≤ arHi 11 := hfa
          simp only [show arLo 11 = 2 by decide, show arHi 11 = 2 by decide] at hfb
          clear hfa
          obtain ⟨v0, b0, o0, hv0, hAe0, hb0, p0, p1, p2⟩ := HRl.out.val3 HLK.out (show 0 < k by omega)
          have hs0 : SmV v0 := HSM.out v0 (List.mem_of_getElem? hv0)
          have hbb := HBB.out b0 o0 hAe0
          have hbn : b0 < w.heap.size + 1 + 1 + x.n := by simpa using hb0
          obtain ⟨v1, b1, o1, hv1, hAe1, hb1, q0, q1, q2⟩ := HRl.out.val3 HLK.out (show 1 < k by omega)
          have hs1 : SmV v1 := HSM.out v1 (List.mem_of_getElem? hv1)
          simp only [hAe0, Option.some.injEq, Addr.mk.injEq, and_true] at hAe1
          obtain ⟨rfl, rfl⟩ := hAe1
          have HV0 := Lib.hid hv0
          have HV1 := Lib.hid hv1
          clear hv0 hv1
          subst hAe0
          simp only [Nat.zero_mul, Nat.add_zero, Nat.one_mul] at p0 p1 p2
          simp only [Nat.one_mul] at q0 q1 q2
          have p0 : World.cell? (extR ((w.alloc (.cells #[.int .i64 11, .int .i64 i, .int .i64 v.k, .int .i64 v.i, .string v.t, .string nm, .slice A args.length c] 31)).alloc (.cells #[.int .i64 0, .int .i64 0, .string ⟨#[]⟩] 29)) x) ⟨b0, o0, none⟩ = some (.int .i64 v0.k) := p0
          have p1 : World.cell? (extR ((w.alloc (.cells #[.int .i64 11, .int .i64 i, .int .i64 v.k, .int .i64 v.i, .string v.t, .string nm, .slice A args.length c] 31)).alloc (.cells #[.int .i64 0, .int .i64 0, .string ⟨#[]⟩] 29)) x) ⟨b0, o0 + 1, none⟩ = some (.int .i64 v0.i) := p1
          have p2 : World.cell? (extR ((w.alloc (.cells #[.int .i64 11, .int .i64 i, .int .i64 v.k, .int .i64 v.i, .string v.t, .string nm, .slice A args.length c] 31)).alloc (.cells #[.int .i64 0, .int .i64 0, .string ⟨#[]⟩] 29)) x) ⟨b0, o0 + 2, none⟩ = some (.string v0.t) := p2
          have q0 : World.cell? (extR ((w.alloc (.cells #[.int .i64 11, .int .i64 i, .int .i64 v.k, .int .i64 v.i, .string v.t, .string nm, .slice A args.length c] 31)).alloc (.cells #[.int .i64 0, .int .i64 0, .string ⟨#[]⟩] 29)) x) ⟨b0, o0 + 3, none⟩ = some (.int .i64 v1.k) := q0
          have q1 : World.cell? (extR ((w.alloc (.cells #[.int .i64 11, .int .i64 i, .int .i64 v.k, .int .i64 v.i, .string v.t, .string nm, .slice A args.length c] 31)).alloc (.cells #[.int .i64 0, .int .i64 0, .string ⟨#[]⟩] 29)) x) ⟨b0, o0 + 4, none⟩ = some (.int .i64 v1.i) := q1
          have q2 : World.cell? (extR ((w.alloc (.cells #[.int .i64 11, .int .i64 i, .int .i64 v.k, .int .i64 v.i, .string v.t, .string nm, .slice A args.length c] 31)).alloc (.cells #[.int .i64 0, .int .i64 0, .string ⟨#[]⟩] 29)) x) ⟨b0, o0 + 5, none⟩ = some (.string v1.t) := q2
          have h0n : 0 < k := by omega
          have h1n : 1 < k := by omega
          have h0z : (0 : Int) < (k : Int) := by omega
          have h1z : (1 : Int) < (k : Int) := by omega
          go_wp2_with fail
          refine wp_region_T 10 (S := (fun w' => w'.cell? ⟨w.heap.size, 0, none⟩ = some (.int .i64 11) ∧ w'.cell? ⟨b0, o0, none⟩ = some (.int .i64 v0.k) ∧ w'.cell? ⟨b0, o0 + 1, none⟩ = some (.int .i64 v0.i) ∧ w'.cell? ⟨b0, o0 + 2, none⟩ = some (.string v0.t) ∧ w'.cell? ⟨b0, o0 + 3, none⟩ = some (.int .i64 v1.k) ∧ w'.cell? ⟨b0, o0 + 4, none⟩ = some (.int .i64 v1.i) ∧ w'.cell? ⟨b0, o0 + 5, none⟩ = some (.string v1.t))) (by kernel_rfl) (by simp [go_sem, ↓IntWalk.iteOmega, *]) (fun hHeld => ?_)
          refine wpAnyT_take (i := 0) (oi := ?oi1101) (v := ?v1101) ?hi1101 (by kernel_rfl) (by kernel_rfl) (by kernel_rfl) (by kernel_rfl) (by kernel_rfl) ?hQ1101 ?hy1101 (by assumption) ?_
          case hi1101 => (simp only [List.getElem?_toArray, List.getElem?_cons_succ, List.getElem?_cons_zero]; try rfl)
          case hQ1101 => exact fun _ _ _ h => h
          case hy1101 => (refine Or.inl ⟨by rfl, ?_⟩; intro wq hSw; (try dsimp only at hSw); go_simp; (try rw [if_pos h0n]); (try rw [if_pos h1n]); (try rw [if_pos h0z]); (try rw [if_pos h1z]); (try with_reducible rfl))
          (try simp only [Act.put, List.setIfInBounds_toArray, List.set_cons_zero, List.set_cons_succ])
          refine wpAnyT_take (i := 1) (oi := ?oi1102) (v := ?v1102) ?hi1102 (by kernel_rfl) (by kernel_rfl) (by kernel_rfl) (by kernel_rfl) (by kernel_rfl) ?hQ1102 ?hy1102 (by assumption) ?_
          case hi1102 => (simp only [List.getElem?_toArray, List.getElem?_cons_succ, List.getElem?_cons_zero]; try rfl)
          case hQ1102 => exact fun _ _ _ h => h
          case hy1102 => (refine Or.inl ⟨by rfl, ?_⟩; intro wq hSw; (try dsimp only at hSw); go_simp; (try rw [if_pos h0n]); (try rw [if_pos h1n]); (try rw [if_pos h0z]); (try rw [if_pos h1z]); (try with_reducible rfl))
          (try simp only [Act.put, List.setIfInBounds_toArray, List.set_cons_zero, List.set_cons_succ])
          refine wpAnyT_take (i := 2) (oi := ?oi1103) (v := ?v1103) ?hi1103 (by kernel_rfl) (by kernel_rfl) (by kernel_rfl) (by kernel_rfl) (by kernel_rfl) ?hQ1103 ?hy1103 (by assumption) ?_
          case hi1103 => (simp only [List.getElem?_toArray, List.getElem?_cons_succ, List.getElem?_cons_zero]; try rfl)
          case hQ1103 => exact fun _ _ _ h => h
          case hy1103 => (refine Or.inl ⟨by rfl, ?_⟩; intro wq hSw; (try dsimp only at hSw); go_simp; (try rw [if_pos h0n]); (try rw [if_pos h1n]); (try rw [if_pos h0z]); (try rw [if_pos h1z]); (try with_reducible rfl))
          (try simp only [Act.put, List.setIfInBounds_toArray, List.set_cons_zero, List.set_cons_succ])
          refine wpAnyT_take (i := 3) (oi := ?oi1104) (v := ?v1104) ?hi1104 (by kernel_rfl) (by kernel_rfl) (by kernel_rfl) (by kernel_rfl) (by kernel_rfl) ?hQ1104 ?hy1104 (by assumption) ?_
          case hi1104 => (simp only [List.getElem?_toArray, List.getElem?_cons_succ, List.getElem?_cons_zero]; try rfl)
          case hQ1104 => exact fun _ _ _ h => h
          case hy1104 => (refine Or.inl ⟨by rfl, ?_⟩; intro wq hSw; (try dsimp only at hSw); go_simp; (try rw [if_pos h0n]); (try rw [if_pos h1n]); (try rw [if_pos h0z]); (try rw [if_pos h1z]); (try with_reducible rfl))
          (try simp only [Act.put, List.setIfInBounds_toArray, List.set_cons_zero, List.set_cons_succ])
          refine wpAnyT_take (i := 4) (oi := ?oi1105) (v := ?v1105) ?hi1105 (by kernel_rfl) (by kernel_rfl) (by kernel_rfl) (by kernel_rfl) (by kernel_rfl) ?hQ1105 ?hy1105 (by assumption) ?_
          case hi1105 => (simp only [List.getElem?_toArray, List.getElem?_cons_succ, List.getElem?_cons_zero]; try rfl)
          case hQ1105 => exact fun _ _ _ h => h
          case hy1105 => (refine Or.inl ⟨by rfl, ?_⟩; intro wq hSw; (try dsimp only at hSw); go_simp; (try rw [if_pos h0n]); (try rw [if_pos h1n]); (try rw [if_pos h0z]); (try rw [if_pos h1z]); (try with_reducible rfl))
          (try simp only [Act.put, List.setIfInBounds_toArray, List.set_cons_zero, List.set_cons_succ])
          refine wpAnyT_take (i := 5) (oi := ?oi1106) (v := ?v1106) ?hi1106 (by kernel_rfl) (by kernel_rfl) (by kernel_rfl) (by kernel_rfl) (by kernel_rfl) ?hQ1106 ?hy1106 (by assumption) ?_
          case hi1106 => (simp only [List.getElem?_toArray, List.getElem?_cons_succ, List.getElem?_cons_zero]; try rfl)
          case hQ1106 => exact fun _ _ _ h => h
          case hy1106 => (refine Or.inl ⟨by rfl, ?_⟩; intro wq hSw; (try dsimp only at hSw); go_simp; (try rw [if_pos h0n]); (try rw [if_pos h1n]); (try rw [if_pos h0z]); (try rw [if_pos h1z]); (try with_reducible rfl))
          (try simp only [Act.put, List.setIfInBounds_toArray, List.set_cons_zero, List.set_cons_succ])
          refine wpAnyT_take (i := 6) (oi := ?oi1107) (v := ?v1107) ?hi1107 (by kernel_rfl) (by kernel_rfl) (by kernel_rfl) (by kernel_rfl) (by kernel_rfl) ?hQ1107 ?hy1107 (by assumption) ?_
          case hi1107 => (simp only [List.getElem?_toArray, List.getElem?_cons_succ, List.getElem?_cons_zero]; try rfl)
          case hQ1107 => exact fun _ _ _ h => h
          case hy1107 => (refine Or.inl ⟨by rfl, ?_⟩; intro wq hSw; (try dsimp only at hSw); go_simp; (try rw [if_pos h0n]); (try rw [if_pos h1n]); (try rw [if_pos h0z]); (try rw [if_pos h1z]); (try with_reducible rfl))
          (try simp only [Act.put, List.setIfInBounds_toArray, List.set_cons_zero, List.set_cons_succ])
          refine wpAnyT_take (i := 7) (oi := ?oi1108) (v := ?v1108) ?hi1108 (by kernel_rfl) (by kernel_rfl) (by kernel_rfl) (by kernel_rfl) (by kernel_rfl) ?hQ1108 ?hy1108 (by assumption) ?_
          case hi1108 => (simp only [List.getElem?_toArray, List.getElem?_cons_succ, List.getElem?_cons_zero]; try rfl)
          case hQ1108 => exact fun _ _ _ h => h
          case hy1108 => (refine Or.inl ⟨by rfl, ?_⟩; intro wq hSw; (try dsimp only at hSw); go_simp; (try rw [if_pos h0n]); (try rw [if_pos h1n]); (try rw [if_pos h0z]); (try rw [if_pos h1z]); (try with_reducible rfl))
          (try simp only [Act.put, List.setIfInBounds_toArray, List.set_cons_zero, List.set_cons_succ])
          refine wpAnyT_ready (rs := [8]) (by kernel_rfl) (by simp) ?_
          refine AllReadyT.cons (o := ?oi1109) ?hi1109 ?ti1109 AllReadyT.nil
          case hi1109 => (simp only [List.getElem?_toArray, List.getElem?_cons_succ, List.getElem?_cons_zero]; try rfl)
          case ti1109 =>
            intro KQ hKQ
            go_simp
            go_at_call 41
            refine Calls.mono (compared_any 11 v0 v1 _) ?_
            rintro e w1 ⟨⟨z, rfl, hzz⟩, hb1⟩
            obtain ⟨x5, rfl⟩ := hb1.get
            have HZZ := Lib.hid hzz
            clear hb1 hzz
            refine hKQ.out _ _ (by simp [go_sem, ↓IntWalk.iteOmega, *]) (fun hHeld2 => ?_)
            clear hHeld hKQ KQ; have hHeld := hHeld2; clear hHeld2
            (try simp only [Act.put, List.setIfInBounds_toArray, List.set_cons_zero, List.set_cons_succ])
            refine wpAnyT_ready (rs := [9]) (by kernel_rfl) (by simp) ?_
            refine AllReadyT.cons (o := ?oi1110) ?hi1110 ?ti1110 AllReadyT.nil
            case hi1110 => (simp only [List.getElem?_toArray, List.getElem?_cons_succ, List.getElem?_cons_zero]; try rfl)
            case ti1110 =>
              intro KQ hKQ
              go_simp
              have hrz := ofT_size z
              have HO7 := Lib.hid fun W => rof7_any z W
              obtain ⟨rz, hrzz⟩ : ∃ rz, ofT z = rz := ⟨_, rfl⟩
              rw [hrzz] at HO7 hrz
              have HRZ := Lib.hid hrzz
              clear hrzz
              go_at_call 38
              refine Calls.mono (HO7.out _) ?_
              rintro e w1 ⟨rfl, hb1⟩
              obtain ⟨x6, rfl⟩ := hb1.get
              clear hb1
              refine hKQ.out _ _ (by simp [go_sem, ↓IntWalk.iteOmega, *]) (fun hHeld2 => ?_)
              clear hHeld hKQ KQ; have hHeld := hHeld2; clear hHeld2
              (try simp only [Act.put, List.setIfInBounds_toArray, List.set_cons_zero, List.set_cons_succ])
              refine wpAnyT_ready (rs := [10]) (by kernel_rfl) (by simp) ?_
              refine AllReadyT.last (o := ?oi1111) ?hi1111 ?ti1111
              case hi1111 => (simp only [List.getElem?_toArray, List.getElem?_cons_succ, List.getElem?_cons_zero]; try rfl)
              case ti1111 =>
                intro KQ hKQ
                go_simp
                (repeat (simp only [go_sem, ↓IntWalk.iteOmega, ↓reduceIte, Bool.false_eq_true]; (try go_simp)))
                refine hKQ.out _ _ ?_
                clear hKQ KQ hHeld
                (try simp only [Act.put, List.setIfInBounds_toArray, List.set_cons_zero, List.set_cons_succ])
                refine wpAnyT_done (by kernel_rfl) ?_ _
                go_wp2
                refine bodyPost_ret (v := vag rz) ?_ rfl ⟨EvP.other HFB.out (by decide) (by decide) (by decide) (by decide) (hrz), by repeat (first | exact Ext.refl' _ | assumption | apply Ext.ex' | apply Ext.al | apply Ext.drN | apply Ext.dr)⟩
                simp [results, Tryz.results20, go_sem, ↓IntWalk.iteOmega]
        · have hfb : arLo 12 ≤ (k : Int) ∧ (k : Int) ≤ arHi 12 := hfa
          simp only [show arLo 12 = 2 by decide, show arHi 12 = 2 by decide] at hfb
          clear hfa
          obtain ⟨v0, b0, o0, hv0, hAe0, hb0, p0, p1, p2⟩ := HRl.out.val3 HLK.out (show 0 < k by omega)
          have hs0 : SmV v0 := HSM.out v0 (List.mem_of_getElem? hv0)
          have hbb := HBB.out b0 o0 hAe0
          have hbn : b0 < w.heap.size + 1 + 1 + x.n := by simpa using hb0
          obtain ⟨v1, b1, o1, hv1, hAe1, hb1, q0, q1, q2⟩ := HRl.out.val3 HLK.out (show 1 < k by omega)
          have hs1 : SmV v1 := HSM.out v1 (List.mem_of_getElem? hv1)
          simp only [hAe0, Option.some.injEq, Addr.mk.injEq, and_true] at hAe1
          obtain ⟨rfl, rfl⟩ := hAe1
          have HV0 := Lib.hid hv0
          have HV1 := Lib.hid hv1
          clear hv0 hv1
          subst hAe0
          simp only [Nat.zero_mul, Nat.add_zero, Nat.one_mul] at p0 p1 p2
          simp only [Nat.one_mul] at q0 q1 q2
          have p0 : World.cell? (extR ((w.alloc (.cells #[.int .i64 12, .int .i64 i, .int .i64 v.k, .int .i64 v.i, .string v.t, .string nm, .slice A args.length c] 31)).alloc (.cells #[.int .i64 0, .int .i64 0, .string ⟨#[]⟩] 29)) x) ⟨b0, o0, none⟩ = some (.int .i64 v0.k) := p0
          have p1 : World.cell? (extR ((w.alloc (.cells #[.int .i64 12, .int .i64 i, .int .i64 v.k, .int .i64 v.i, .string v.t, .string nm, .slice A args.length c] 31)).alloc (.cells #[.int .i64 0, .int .i64 0, .string ⟨#[]⟩] 29)) x) ⟨b0, o0 + 1, none⟩ = some (.int .i64 v0.i) := p1
          have p2 : World.cell? (extR ((w.alloc (.cells #[.int .i64 12, .int .i64 i, .int .i64 v.k, .int .i64 v.i, .string v.t, .string nm, .slice A args.length c] 31)).alloc (.cells #[.int .i64 0, .int .i64 0, .string ⟨#[]⟩] 29)) x) ⟨b0, o0 + 2, none⟩ = some (.string v0.t) := p2
          have q0 : World.cell? (extR ((w.alloc (.cells #[.int .i64 12, .int .i64 i, .int .i64 v.k, .int .i64 v.i, .string v.t, .string nm, .slice A args.length c] 31)).alloc (.cells #[.int .i64 0, .int .i64 0, .string ⟨#[]⟩] 29)) x) ⟨b0, o0 + 3, none⟩ = some (.int .i64 v1.k) := q0
          have q1 : World.cell? (extR ((w.alloc (.cells #[.int .i64 12, .int .i64 i, .int .i64 v.k, .int .i64 v.i, .string v.t, .string nm, .slice A args.length c] 31)).alloc (.cells #[.int .i64 0, .int .i64 0, .string ⟨#[]⟩] 29)) x) ⟨b0, o0 + 4, none⟩ = some (.int .i64 v1.i) := q1
          have q2 : World.cell? (extR ((w.alloc (.cells #[.int .i64 12, .int .i64 i, .int .i64 v.k, .int .i64 v.i, .string v.t, .string nm, .slice A args.length c] 31)).alloc (.cells #[.int .i64 0, .int .i64 0, .string ⟨#[]⟩] 29)) x) ⟨b0, o0 + 5, none⟩ = some (.string v1.t) := q2
          have h0n : 0 < k := by omega
          have h1n : 1 < k := by omega
          have h0z : (0 : Int) < (k : Int) := by omega
          have h1z : (1 : Int) < (k : Int) := by omega
          go_wp2_with fail
          refine wp_region_T 10 (S := (fun w' => w'.cell? ⟨w.heap.size, 0, none⟩ = some (.int .i64 12) ∧ w'.cell? ⟨b0, o0, none⟩ = some (.int .i64 v0.k) ∧ w'.cell? ⟨b0, o0 + 1, none⟩ = some (.int .i64 v0.i) ∧ w'.cell? ⟨b0, o0 + 2, none⟩ = some (.string v0.t) ∧ w'.cell? ⟨b0, o0 + 3, none⟩ = some (.int .i64 v1.k) ∧ w'.cell? ⟨b0, o0 + 4, none⟩ = some (.int .i64 v1.i) ∧ w'.cell? ⟨b0, o0 + 5, none⟩ = some (.string v1.t))) (by kernel_rfl) (by simp [go_sem, ↓IntWalk.iteOmega, *]) (fun hHeld => ?_)
          refine wpAnyT_take (i := 0) (oi := ?oi1201) (v := ?v1201) ?hi1201 (by kernel_rfl) (by kernel_rfl) (by kernel_rfl) (by kernel_rfl) (by kernel_rfl) ?hQ1201 ?hy1201 (by assumption) ?_
          case hi1201 => (simp only [List.getElem?_toArray, List.getElem?_cons_succ, List.getElem?_cons_zero]; try rfl)
          case hQ1201 => exact fun _ _ _ h => h
          case hy1201 => (refine Or.inl ⟨by rfl, ?_⟩; intro wq hSw; (try dsimp only at hSw); go_simp; (try rw [if_pos h0n]); (try rw [if_pos h1n]); (try rw [if_pos h0z]); (try rw [if_pos h1z]); (try with_reducible rfl))
          (try simp only [Act.put, List.setIfInBounds_toArray, List.set_cons_zero, List.set_cons_succ])
          refine wpAnyT_take (i := 1) (oi := ?oi1202) (v := ?v1202) ?hi1202 (by kernel_rfl) (by kernel_rfl) (by kernel_rfl) (by kernel_rfl) (by kernel_rfl) ?hQ1202 ?hy1202 (by assumption) ?_
          case hi1202 => (simp only [List.getElem?_toArray, List.getElem?_cons_succ, List.getElem?_cons_zero]; try rfl)
          case hQ1202 => exact fun _ _ _ h => h
          case hy1202 => (refine Or.inl ⟨by rfl, ?_⟩; intro wq hSw; (try dsimp only at hSw); go_simp; (try rw [if_pos h0n]); (try rw [if_pos h1n]); (try rw [if_pos h0z]); (try rw [if_pos h1z]); (try with_reducible rfl))
          (try simp only [Act.put, List.setIfInBounds_toArray, List.set_cons_zero, List.set_cons_succ])
          refine wpAnyT_take (i := 2) (oi := ?oi1203) (v := ?v1203) ?hi1203 (by kernel_rfl) (by kernel_rfl) (by kernel_rfl) (by kernel_rfl) (by kernel_rfl) ?hQ1203 ?hy1203 (by assumption) ?_
          case hi1203 => (simp only [List.getElem?_toArray, List.getElem?_cons_succ, List.getElem?_cons_zero]; try rfl)
          case hQ1203 => exact fun _ _ _ h => h
          case hy1203 => (refine Or.inl ⟨by rfl, ?_⟩; intro wq hSw; (try dsimp only at hSw); go_simp; (try rw [if_pos h0n]); (try rw [if_pos h1n]); (try rw [if_pos h0z]); (try rw [if_pos h1z]); (try with_reducible rfl))
          (try simp only [Act.put, List.setIfInBounds_toArray, List.set_cons_zero, List.set_cons_succ])
          refine wpAnyT_take (i := 3) (oi := ?oi1204) (v := ?v1204) ?hi1204 (by kernel_rfl) (by kernel_rfl) (by kernel_rfl) (by kernel_rfl) (by kernel_rfl) ?hQ1204 ?hy1204 (by assumption) ?_
          case hi1204 => (simp only [List.getElem?_toArray, List.getElem?_cons_succ, List.getElem?_cons_zero]; try rfl)
          case hQ1204 => exact fun _ _ _ h => h
          case hy1204 => (refine Or.inl ⟨by rfl, ?_⟩; intro wq hSw; (try dsimp only at hSw); go_simp; (try rw [if_pos h0n]); (try rw [if_pos h1n]); (try rw [if_pos h0z]); (try rw [if_pos h1z]); (try with_reducible rfl))
          (try simp only [Act.put, List.setIfInBounds_toArray, List.set_cons_zero, List.set_cons_succ])
          refine wpAnyT_take (i := 4) (oi := ?oi1205) (v := ?v1205) ?hi1205 (by kernel_rfl) (by kernel_rfl) (by kernel_rfl) (by kernel_rfl) (by kernel_rfl) ?hQ1205 ?hy1205 (by assumption) ?_
          case hi1205 => (simp only [List.getElem?_toArray, List.getElem?_cons_succ, List.getElem?_cons_zero]; try rfl)
          case hQ1205 => exact fun _ _ _ h => h
          case hy1205 => (refine Or.inl ⟨by rfl, ?_⟩; intro wq hSw; (try dsimp only at hSw); go_simp; (try rw [if_pos h0n]); (try rw [if_pos h1n]); (try rw [if_pos h0z]); (try rw [if_pos h1z]); (try with_reducible rfl))
          (try simp only [Act.put, List.setIfInBounds_toArray, List.set_cons_zero, List.set_cons_succ])
          refine wpAnyT_take (i := 5) (oi := ?oi1206) (v := ?v1206) ?hi1206 (by kernel_rfl) (by kernel_rfl) (by kernel_rfl) (by kernel_rfl) (by kernel_rfl) ?hQ1206 ?hy1206 (by assumption) ?_
          case hi1206 => (simp only [List.getElem?_toArray, List.getElem?_cons_succ, List.getElem?_cons_zero]; try rfl)
          case hQ1206 => exact fun _ _ _ h => h
          case hy1206 => (refine Or.inl ⟨by rfl, ?_⟩; intro wq hSw; (try dsimp only at hSw); go_simp; (try rw [if_pos h0n]); (try rw [if_pos h1n]); (try rw [if_pos h0z]); (try rw [if_pos h1z]); (try with_reducible rfl))
          (try simp only [Act.put, List.setIfInBounds_toArray, List.set_cons_zero, List.set_cons_succ])
          refine wpAnyT_take (i := 6) (oi := ?oi1207) (v := ?v1207) ?hi1207 (by kernel_rfl) (by kernel_rfl) (by kernel_rfl) (by kernel_rfl) (by kernel_rfl) ?hQ1207 ?hy1207 (by assumption) ?_
          case hi1207 => (simp only [List.getElem?_toArray, List.getElem?_cons_succ, List.getElem?_cons_zero]; try rfl)
          case hQ1207 => exact fun _ _ _ h => h
          case hy1207 => (refine Or.inl ⟨by rfl, ?_⟩; intro wq hSw; (try dsimp only at hSw); go_simp; (try rw [if_pos h0n]); (try rw [if_pos h1n]); (try rw [if_pos h0z]); (try rw [if_pos h1z]); (try with_reducible rfl))
          (try simp only [Act.put, List.setIfInBounds_toArray, List.set_cons_zero, List.set_cons_succ])
          refine wpAnyT_take (i := 7) (oi := ?oi1208) (v := ?v1208) ?hi1208 (by kernel_rfl) (by kernel_rfl) (by kernel_rfl) (by kernel_rfl) (by kernel_rfl) ?hQ1208 ?hy1208 (by assumption) ?_
          case hi1208 => (simp only [List.getElem?_toArray, List.getElem?_cons_succ, List.getElem?_cons_zero]; try rfl)
          case hQ1208 => exact fun _ _ _ h => h
          case hy1208 => (refine Or.inl ⟨by rfl, ?_⟩; intro wq hSw; (try dsimp only at hSw); go_simp; (try rw [if_pos h0n]); (try rw [if_pos h1n]); (try rw [if_pos h0z]); (try rw [if_pos h1z]); (try with_reducible rfl))
          (try simp only [Act.put, List.setIfInBounds_toArray, List.set_cons_zero, List.set_cons_succ])
          refine wpAnyT_ready (rs := [8]) (by kernel_rfl) (by simp) ?_
          refine AllReadyT.cons (o := ?oi1209) ?hi1209 ?ti1209 AllReadyT.nil
          case hi1209 => (simp only [List.getElem?_toArray, List.getElem?_cons_succ, List.getElem?_cons_zero]; try rfl)
          case ti1209 =>
            intro KQ hKQ
            go_simp
            go_at_call 41
            refine Calls.mono (compared_any 12 v0 v1 _) ?_
            rintro e w1 ⟨⟨z, rfl, hzz⟩, hb1⟩
            obtain ⟨x5, rfl⟩ := hb1.get
            have HZZ := Lib.hid hzz
            clear hb1 hzz
            refine hKQ.out _ _ (by simp [go_sem, ↓IntWalk.iteOmega, *]) (fun hHeld2 => ?_)
            clear hHeld hKQ KQ; have hHeld := hHeld2; clear hHeld2
            (try simp only [Act.put, List.setIfInBounds_toArray, List.set_cons_zero, List.set_cons_succ])
            refine wpAnyT_ready (rs := [9]) (by kernel_rfl) (by simp) ?_
            refine AllReadyT.cons (o := ?oi1210) ?hi1210 ?ti1210 AllReadyT.nil
            case hi1210 => (simp only [List.getElem?_toArray, List.getElem?_cons_succ, List.getElem?_cons_zero]; try rfl)
            case ti1210 =>
              intro KQ hKQ
              go_simp
              have hrz := ofT_size z
              have HO7 := Lib.hid fun W => rof7_any z W
              obtain ⟨rz, hrzz⟩ : ∃ rz, ofT z = rz := ⟨_, rfl⟩
              rw [hrzz] at HO7 hrz
              have HRZ := Lib.hid hrzz
              clear hrzz
              go_at_call 38
              refine Calls.mono (HO7.out _) ?_
              rintro e w1 ⟨rfl, hb1⟩
              obtain ⟨x6, rfl⟩ := hb1.get
              clear hb1
              refine hKQ.out _ _ (by simp [go_sem, ↓IntWalk.iteOmega, *]) (fun hHeld2 => ?_)
              clear hHeld hKQ KQ; have hHeld := hHeld2; clear hHeld2
              (try simp only [Act.put, List.setIfInBounds_toArray, List.set_cons_zero, List.set_cons_succ])
              refine wpAnyT_ready (rs := [10]) (by kernel_rfl) (by simp) ?_
              refine AllReadyT.last (o := ?oi1211) ?hi1211 ?ti1211
              case hi1211 => (simp only [List.getElem?_toArray, List.getElem?_cons_succ, List.getElem?_cons_zero]; try rfl)
              case ti1211 =>
                intro KQ hKQ
                go_simp
                (repeat (simp only [go_sem, ↓IntWalk.iteOmega, ↓reduceIte, Bool.false_eq_true]; (try go_simp)))
                refine hKQ.out _ _ ?_
                clear hKQ KQ hHeld
                (try simp only [Act.put, List.setIfInBounds_toArray, List.set_cons_zero, List.set_cons_succ])
                refine wpAnyT_done (by kernel_rfl) ?_ _
                go_wp2
                refine bodyPost_ret (v := vag rz) ?_ rfl ⟨EvP.other HFB.out (by decide) (by decide) (by decide) (by decide) (hrz), by repeat (first | exact Ext.refl' _ | assumption | apply Ext.ex' | apply Ext.al | apply Ext.drN | apply Ext.dr)⟩
                simp [results, Tryz.results20, go_sem, ↓IntWalk.iteOmega]
        · have hfb : arLo 13 ≤ (k : Int) ∧ (k : Int) ≤ arHi 13 := hfa
          simp only [show arLo 13 = 2 by decide, show arHi 13 = 2 by decide] at hfb
          clear hfa
          obtain ⟨v0, b0, o0, hv0, hAe0, hb0, p0, p1, p2⟩ := HRl.out.val3 HLK.out (show 0 < k by omega)
          have hs0 : SmV v0 := HSM.out v0 (List.mem_of_getElem? hv0)
          have hbb := HBB.out b0 o0 hAe0
          have hbn : b0 < w.heap.size + 1 + 1 + x.n := by simpa using hb0
          obtain ⟨v1, b1, o1, hv1, hAe1, hb1, q0, q1, q2⟩ := HRl.out.val3 HLK.out (show 1 < k by omega)
          have hs1 : SmV v1 := HSM.out v1 (List.mem_of_getElem? hv1)
          simp only [hAe0, Option.some.injEq, Addr.mk.injEq, and_true] at hAe1
          obtain ⟨rfl, rfl⟩ := hAe1
          clear hv0 hv1
          subst hAe0
          simp only [Nat.zero_mul, Nat.add_zero, Nat.one_mul] at p0 p1 p2
          simp only [Nat.one_mul] at q0 q1 q2
          have p0 : World.cell? (extR ((w.alloc (.cells #[.int .i64 13, .int .i64 i, .int .i64 v.k, .int .i64 v.i, .string v.t, .string nm, .slice A args.length c] 31)).alloc (.cells #[.int .i64 0, .int .i64 0, .string ⟨#[]⟩] 29)) x) ⟨b0, o0, none⟩ = some (.int .i64 v0.k) := p0
          have p1 : World.cell? (extR ((w.alloc (.cells #[.int .i64 13, .int .i64 i, .int .i64 v.k, .int .i64 v.i, .string v.t, .string nm, .slice A args.length c] 31)).alloc (.cells #[.int .i64 0, .int .i64 0, .string ⟨#[]⟩] 29)) x) ⟨b0, o0 + 1, none⟩ = some (.int .i64 v0.i) := p1
          have p2 : World.cell? (extR ((w.alloc (.cells #[.int .i64 13, .int .i64 i, .int .i64 v.k, .int .i64 v.i, .string v.t, .string nm, .slice A args.length c] 31)).alloc (.cells #[.int .i64 0, .int .i64 0, .string ⟨#[]⟩] 29)) x) ⟨b0, o0 + 2, none⟩ = some (.string v0.t) := p2
          have q0 : World.cell? (extR ((w.alloc (.cells #[.int .i64 13, .int .i64 i, .int .i64 v.k, .int .i64 v.i, .string v.t, .string nm, .slice A args.length c] 31)).alloc (.cells #[.int .i64 0, .int .i64 0, .string ⟨#[]⟩] 29)) x) ⟨b0, o0 + 3, none⟩ = some (.int .i64 v1.k) := q0
          have q1 : World.cell? (extR ((w.alloc (.cells #[.int .i64 13, .int .i64 i, .int .i64 v.k, .int .i64 v.i, .string v.t, .string nm, .slice A args.length c] 31)).alloc (.cells #[.int .i64 0, .int .i64 0, .string ⟨#[]⟩] 29)) x) ⟨b0, o0 + 4, none⟩ = some (.int .i64 v1.i) := q1
          have q2 : World.cell? (extR ((w.alloc (.cells #[.int .i64 13, .int .i64 i, .int .i64 v.k, .int .i64 v.i, .string v.t, .string nm, .slice A args.length c] 31)).alloc (.cells #[.int .i64 0, .int .i64 0, .string ⟨#[]⟩] 29)) x) ⟨b0, o0 + 5, none⟩ = some (.string v1.t) := q2
          have h0n : 0 < k := by omega
          have h1n : 1 < k := by omega
          have h0z : (0 : Int) < (k : Int) := by omega
          have h1z : (1 : Int) < (k : Int) := by omega
          go_wp2_with fail
          refine (are_any _ k lc lk 1 _ HLK.out (HRl.out.ext (by repeat (first | exact Ext.refl' _ | assumption | apply Ext.ex' | apply Ext.al | apply Ext.drN | apply Ext.dr))) hk20).mono ?_
          rintro e w1 ⟨⟨ba, rfl⟩, hb1⟩
          obtain ⟨x2, rfl⟩ := hb1.get
          clear hb1
          cases ba
          · go_wp2_with fail
            refine (rnull7 _).mono ?_
            rintro e w1 ⟨rfl, hb1⟩
            obtain ⟨x3, rfl⟩ := hb1.get
            clear hb1
            go_wp2
            refine bodyPost_ret (v := vag nullV) ?_ rfl ⟨EvP.other HFB.out (by decide) (by decide) (by decide) (by decide) ((by decide)), by repeat (first | exact Ext.refl' _ | assumption | apply Ext.ex' | apply Ext.al | apply Ext.drN | apply Ext.dr)⟩
            simp [results, Tryz.results20, go_sem, ↓IntWalk.iteOmega, nullV]
          go_wp2_with fail
          refine wp_region_T 11 (S := (fun w' => w'.cell? ⟨w.heap.size, 0, none⟩ = some (.int .i64 13) ∧ w'.cell? ⟨b0, o0, none⟩ = some (.int .i64 v0.k) ∧ w'.cell? ⟨b0, o0 + 1, none⟩ = some (.int .i64 v0.i) ∧ w'.cell? ⟨b0, o0 + 2, none⟩ = some (.string v0.t) ∧ w'.cell? ⟨b0, o0 + 3, none⟩ = some (.int .i64 v1.k) ∧ w'.cell? ⟨b0, o0 + 4, none⟩ = some (.int .i64 v1.i) ∧ w'.cell? ⟨b0, o0 + 5, none⟩ = some (.string v1.t))) (by kernel_rfl) (by simp [go_sem, ↓IntWalk.iteOmega, *]) (fun hHeld => ?_)
          refine wpAnyT_take (i := 0) (oi := ?oi1301) (v := ?v1301) ?hi1301 (by kernel_rfl) (by kernel_rfl) (by kernel_rfl) (by kernel_rfl) (by kernel_rfl) ?hQ1301 ?hy1301 (by assumption) ?_
          case hi1301 => (simp only [List.getElem?_toArray, List.getElem?_cons_succ, List.getElem?_cons_zero]; try rfl)
          case hQ1301 => exact fun _ _ _ h => h
          case hy1301 => (refine Or.inl ⟨by rfl, ?_⟩; intro wq hSw; (try dsimp only at hSw); go_simp; (try rw [if_pos h0n]); (try rw [if_pos h1n]); (try rw [if_pos h0z]); (try rw [if_pos h1z]); (try with_reducible rfl))
          (try simp only [Act.put, List.setIfInBounds_toArray, List.set_cons_zero, List.set_cons_succ])
          refine wpAnyT_take (i := 1) (oi := ?oi1302) (v := ?v1302) ?hi1302 (by kernel_rfl) (by kernel_rfl) (by kernel_rfl) (by kernel_rfl) (by kernel_rfl) ?hQ1302 ?hy1302 (by assumption) ?_
          case hi1302 => (simp only [List.getElem?_toArray, List.getElem?_cons_succ, List.getElem?_cons_zero]; try rfl)
          case hQ1302 => exact fun _ _ _ h => h
          case hy1302 => (refine Or.inl ⟨by rfl, ?_⟩; intro wq hSw; (try dsimp only at hSw); go_simp; (try rw [if_pos h0n]); (try rw [if_pos h1n]); (try rw [if_pos h0z]); (try rw [if_pos h1z]); (try with_reducible rfl))
          (try simp only [Act.put, List.setIfInBounds_toArray, List.set_cons_zero, List.set_cons_succ])
          refine wpAnyT_take (i := 2) (oi := ?oi1303) (v := ?v1303) ?hi1303 (by kernel_rfl) (by kernel_rfl) (by kernel_rfl) (by kernel_rfl) (by kernel_rfl) ?hQ1303 ?hy1303 (by assumption) ?_
          case hi1303 => (simp only [List.getElem?_toArray, List.getElem?_cons_succ, List.getElem?_cons_zero]; try rfl)
          case hQ1303 => exact fun _ _ _ h => h
          case hy1303 => (refine Or.inl ⟨by rfl, ?_⟩; intro wq hSw; (try dsimp only at hSw); go_simp; (try rw [if_pos h0n]); (try rw [if_pos h1n]); (try rw [if_pos h0z]); (try rw [if_pos h1z]); (try with_reducible rfl))
          (try simp only [Act.put, List.setIfInBounds_toArray, List.set_cons_zero, List.set_cons_succ])
          refine wpAnyT_take (i := 3) (oi := ?oi1304) (v := ?v1304) ?hi1304 (by kernel_rfl) (by kernel_rfl) (by kernel_rfl) (by kernel_rfl) (by kernel_rfl) ?hQ1304 ?hy1304 (by assumption) ?_
          case hi1304 => (simp only [List.getElem?_toArray, List.getElem?_cons_succ, List.getElem?_cons_zero]; try rfl)
          case hQ1304 => exact fun _ _ _ h => h
          case hy1304 => (refine Or.inl ⟨by rfl, ?_⟩; intro wq hSw; (try dsimp only at hSw); go_simp; (try rw [if_pos h0n]); (try rw [if_pos h1n]); (try rw [if_pos h0z]); (try rw [if_pos h1z]); (try with_reducible rfl))
          (try simp only [Act.put, List.setIfInBounds_toArray, List.set_cons_zero, List.set_cons_succ])
          refine wpAnyT_take (i := 4) (oi := ?oi1305) (v := ?v1305) ?hi1305 (by kernel_rfl) (by kernel_rfl) (by kernel_rfl) (by kernel_rfl) (by kernel_rfl) ?hQ1305 ?hy1305 (by assumption) ?_
          case hi1305 => (simp only [List.getElem?_toArray, List.getElem?_cons_succ, List.getElem?_cons_zero]; try rfl)
          case hQ1305 => exact fun _ _ _ h => h
          case hy1305 => (refine Or.inl ⟨by rfl, ?_⟩; intro wq hSw; (try dsimp only at hSw); go_simp; (try rw [if_pos h0n]); (try rw [if_pos h1n]); (try rw [if_pos h0z]); (try rw [if_pos h1z]); (try with_reducible rfl))
          (try simp only [Act.put, List.setIfInBounds_toArray, List.set_cons_zero, List.set_cons_succ])
          refine wpAnyT_take (i := 5) (oi := ?oi1306) (v := ?v1306) ?hi1306 (by kernel_rfl) (by kernel_rfl) (by kernel_rfl) (by kernel_rfl) (by kernel_rfl) ?hQ1306 ?hy1306 (by assumption) ?_
          case hi1306 => (simp only [List.getElem?_toArray, List.getElem?_cons_succ, List.getElem?_cons_zero]; try rfl)
          case hQ1306 => exact fun _ _ _ h => h
          case hy1306 => (refine Or.inl ⟨by rfl, ?_⟩; intro wq hSw; (try dsimp only at hSw); go_simp; (try rw [if_pos h0n]); (try rw [if_pos h1n]); (try rw [if_pos h0z]); (try rw [if_pos h1z]); (try with_reducible rfl))
          (try simp only [Act.put, List.setIfInBounds_toArray, List.set_cons_zero, List.set_cons_succ])
          refine wpAnyT_take (i := 6) (oi := ?oi1307) (v := ?v1307) ?hi1307 (by kernel_rfl) (by kernel_rfl) (by kernel_rfl) (by kernel_rfl) (by kernel_rfl) ?hQ1307 ?hy1307 (by assumption) ?_
          case hi1307 => (simp only [List.getElem?_toArray, List.getElem?_cons_succ, List.getElem?_cons_zero]; try rfl)
          case hQ1307 => exact fun _ _ _ h => h
          case hy1307 => (refine Or.inl ⟨by rfl, ?_⟩; intro wq hSw; (try dsimp only at hSw); go_simp; (try rw [if_pos h0n]); (try rw [if_pos h1n]); (try rw [if_pos h0z]); (try rw [if_pos h1z]); (try with_reducible rfl))
          (try simp only [Act.put, List.setIfInBounds_toArray, List.set_cons_zero, List.set_cons_succ])
          refine wpAnyT_take (i := 7) (oi := ?oi1308) (v := ?v1308) ?hi1308 (by kernel_rfl) (by kernel_rfl) (by kernel_rfl) (by kernel_rfl) (by kernel_rfl) ?hQ1308 ?hy1308 (by assumption) ?_
          case hi1308 => (simp only [List.getElem?_toArray, List.getElem?_cons_succ, List.getElem?_cons_zero]; try rfl)
          case hQ1308 => exact fun _ _ _ h => h
          case hy1308 => (refine Or.inl ⟨by rfl, ?_⟩; intro wq hSw; (try dsimp only at hSw); go_simp; (try rw [if_pos h0n]); (try rw [if_pos h1n]); (try rw [if_pos h0z]); (try rw [if_pos h1z]); (try with_reducible rfl))
          (try simp only [Act.put, List.setIfInBounds_toArray, List.set_cons_zero, List.set_cons_succ])
          refine wpAnyT_take (i := 8) (oi := ?oi1309) (v := ?v1309) ?hi1309 (by kernel_rfl) (by kernel_rfl) (by kernel_rfl) (by kernel_rfl) (by kernel_rfl) ?hQ1309 ?hy1309 (by assumption) ?_
          case hi1309 => (simp only [List.getElem?_toArray, List.getElem?_cons_succ, List.getElem?_cons_zero]; try rfl)
          case hQ1309 => exact fun _ _ _ h => h
          case hy1309 => (refine Or.inl ⟨by rfl, ?_⟩; intro wq hSw; (try dsimp only at hSw); go_simp; (try rw [if_pos h0n]); (try rw [if_pos h1n]); (try rw [if_pos h0z]); (try rw [if_pos h1z]); (try with_reducible rfl))
          (try simp only [Act.put, List.setIfInBounds_toArray, List.set_cons_zero, List.set_cons_succ])
          refine wpAnyT_take (i := 9) (oi := ?oi1310) (v := ?v1310) ?hi1310 (by kernel_rfl) (by kernel_rfl) (by kernel_rfl) (by kernel_rfl) (by kernel_rfl) ?hQ1310 ?hy1310 (by assumption) ?_
          case hi1310 => (simp only [List.getElem?_toArray, List.getElem?_cons_succ, List.getElem?_cons_zero]; try rfl)
          case hQ1310 => exact fun _ _ _ h => h
          case hy1310 => (refine Or.inl ⟨by rfl, ?_⟩; intro wq hSw; (try dsimp only at hSw); go_simp; (try rw [if_pos h0n]); (try rw [if_pos h1n]); (try rw [if_pos h0z]); (try rw [if_pos h1z]); (try with_reducible rfl))
          (try simp only [Act.put, List.setIfInBounds_toArray, List.set_cons_zero, List.set_cons_succ])
          refine wpAnyT_ready (rs := [10]) (by kernel_rfl) (by simp) ?_
          refine AllReadyT.cons (o := ?oi1311) ?hi1311 ?ti1311 AllReadyT.nil
          case hi1311 => (simp only [List.getElem?_toArray, List.getElem?_cons_succ, List.getElem?_cons_zero]; try rfl)
          case ti1311 =>
            intro KQ hKQ
            go_simp
            go_at_call 47
            refine Calls.mono (computed_any 13 v0.i v1.i _ (by omega) (by omega) (by omega) (by omega)) ?_
            rintro e w1 ⟨⟨r, rfl, hr⟩, hb1⟩
            obtain ⟨x5, rfl⟩ := hb1.get
            clear hb1
            refine hKQ.out _ _ (by simp [go_sem, ↓IntWalk.iteOmega, *]) (fun hHeld2 => ?_)
            clear hHeld hKQ KQ; have hHeld := hHeld2; clear hHeld2
            (try simp only [Act.put, List.setIfInBounds_toArray, List.set_cons_zero, List.set_cons_succ])
            refine wpAnyT_ready (rs := [11]) (by kernel_rfl) (by simp) ?_
            refine AllReadyT.last (o := ?oi1312) ?hi1312 ?ti1312
            case hi1312 => (simp only [List.getElem?_toArray, List.getElem?_cons_succ, List.getElem?_cons_zero]; try rfl)
            case ti1312 =>
              intro KQ hKQ
              go_simp
              (repeat (simp only [go_sem, ↓IntWalk.iteOmega, ↓reduceIte, Bool.false_eq_true]; (try go_simp)))
              refine hKQ.out _ _ ?_
              clear hKQ KQ hHeld
              (try simp only [Act.put, List.setIfInBounds_toArray, List.set_cons_zero, List.set_cons_succ])
              refine wpAnyT_done (by kernel_rfl) ?_ _
              go_wp2
              refine bodyPost_ret (v := vag r) ?_ rfl ⟨EvP.other HFB.out (by decide) (by decide) (by decide) (by decide) (hr), by repeat (first | exact Ext.refl' _ | assumption | apply Ext.ex' | apply Ext.al | apply Ext.drN | apply Ext.dr)⟩
              simp [results, Tryz.results20, go_sem, ↓IntWalk.iteOmega]
        · have hfb : arLo 14 ≤ (k : Int) ∧ (k : Int) ≤ arHi 14 := hfa
          simp only [show arLo 14 = 2 by decide, show arHi 14 = 2 by decide] at hfb
          clear hfa
          obtain ⟨v0, b0, o0, hv0, hAe0, hb0, p0, p1, p2⟩ := HRl.out.val3 HLK.out (show 0 < k by omega)
          have hs0 : SmV v0 := HSM.out v0 (List.mem_of_getElem? hv0)
          have hbb := HBB.out b0 o0 hAe0
          have hbn : b0 < w.heap.size + 1 + 1 + x.n := by simpa using hb0
          obtain ⟨v1, b1, o1, hv1, hAe1, hb1, q0, q1, q2⟩ := HRl.out.val3 HLK.out (show 1 < k by omega)
          have hs1 : SmV v1 := HSM.out v1 (List.mem_of_getElem? hv1)
          simp only [hAe0, Option.some.injEq, Addr.mk.injEq, and_true] at hAe1
          obtain ⟨rfl, rfl⟩ := hAe1
          clear hv0 hv1
          subst hAe0
          simp only [Nat.zero_mul, Nat.add_zero, Nat.one_mul] at p0 p1 p2
          simp only [Nat.one_mul] at q0 q1 q2
          have p0 : World.cell? (extR ((w.alloc (.cells #[.int .i64 14, .int .i64 i, .int .i64 v.k, .int .i64 v.i, .string v.t, .string nm, .slice A args.length c] 31)).alloc (.cells #[.int .i64 0, .int .i64 0, .string ⟨#[]⟩] 29)) x) ⟨b0, o0, none⟩ = some (.int .i64 v0.k) := p0
          have p1 : World.cell? (extR ((w.alloc (.cells #[.int .i64 14, .int .i64 i, .int .i64 v.k, .int .i64 v.i, .string v.t, .string nm, .slice A args.length c] 31)).alloc (.cells #[.int .i64 0, .int .i64 0, .string ⟨#[]⟩] 29)) x) ⟨b0, o0 + 1, none⟩ = some (.int .i64 v0.i) := p1
          have p2 : World.cell? (extR ((w.alloc (.cells #[.int .i64 14, .int .i64 i, .int .i64 v.k, .int .i64 v.i, .string v.t, .string nm, .slice A args.length c] 31)).alloc (.cells #[.int .i64 0, .int .i64 0, .string ⟨#[]⟩] 29)) x) ⟨b0, o0 + 2, none⟩ = some (.string v0.t) := p2
          have q0 : World.cell? (extR ((w.alloc (.cells #[.int .i64 14, .int .i64 i, .int .i64 v.k, .int .i64 v.i, .string v.t, .string nm, .slice A args.length c] 31)).alloc (.cells #[.int .i64 0, .int .i64 0, .string ⟨#[]⟩] 29)) x) ⟨b0, o0 + 3, none⟩ = some (.int .i64 v1.k) := q0
          have q1 : World.cell? (extR ((w.alloc (.cells #[.int .i64 14, .int .i64 i, .int .i64 v.k, .int .i64 v.i, .string v.t, .string nm, .slice A args.length c] 31)).alloc (.cells #[.int .i64 0, .int .i64 0, .string ⟨#[]⟩] 29)) x) ⟨b0, o0 + 4, none⟩ = some (.int .i64 v1.i) := q1
          have q2 : World.cell? (extR ((w.alloc (.cells #[.int .i64 14, .int .i64 i, .int .i64 v.k, .int .i64 v.i, .string v.t, .string nm, .slice A args.length c] 31)).alloc (.cells #[.int .i64 0, .int .i64 0, .string ⟨#[]⟩] 29)) x) ⟨b0, o0 + 5, none⟩ = some (.string v1.t) := q2
          have h0n : 0 < k := by omega
          have h1n : 1 < k := by omega
          have h0z : (0 : Int) < (k : Int) := by omega
          have h1z : (1 : Int) < (k : Int) := by omega
          go_wp2_with fail
          refine (are_any _ k lc lk 1 _ HLK.out (HRl.out.ext (by repeat (first | exact Ext.refl' _ | assumption | apply Ext.ex' | apply Ext.al | apply Ext.drN | apply Ext.dr))) hk20).mono ?_
          rintro e w1 ⟨⟨ba, rfl⟩, hb1⟩
          obtain ⟨x2, rfl⟩ := hb1.get
          clear hb1
          cases ba
          · go_wp2_with fail
            refine (rnull7 _).mono ?_
            rintro e w1 ⟨rfl, hb1⟩
            obtain ⟨x3, rfl⟩ := hb1.get
            clear hb1
            go_wp2
            refine bodyPost_ret (v := vag nullV) ?_ rfl ⟨EvP.other HFB.out (by decide) (by decide) (by decide) (by decide) ((by decide)), by repeat (first | exact Ext.refl' _ | assumption | apply Ext.ex' | apply Ext.al | apply Ext.drN | apply Ext.dr)⟩
            simp [results, Tryz.results20, go_sem, ↓IntWalk.iteOmega, nullV]
          go_wp2_with fail
          refine wp_region_T 11 (S := (fun w' => w'.cell? ⟨w.heap.size, 0, none⟩ = some (.int .i64 14) ∧ w'.cell? ⟨b0, o0, none⟩ = some (.int .i64 v0.k) ∧ w'.cell? ⟨b0, o0 + 1, none⟩ = some (.int .i64 v0.i) ∧ w'.cell? ⟨b0, o0 + 2, none⟩ = some (.string v0.t) ∧ w'.cell? ⟨b0, o0 + 3, none⟩ = some (.int .i64 v1.k) ∧ w'.cell? ⟨b0, o0 + 4, none⟩ = some (.int .i64 v1.i) ∧ w'.cell? ⟨b0, o0 + 5, none⟩ = some (.string v1.t))) (by kernel_rfl) (by simp [go_sem, ↓IntWalk.iteOmega, *]) (fun hHeld => ?_)
          refine wpAnyT_take (i := 0) (oi := ?oi1401) (v := ?v1401) ?hi1401 (by kernel_rfl) (by kernel_rfl) (by kernel_rfl) (by kernel_rfl) (by kernel_rfl) ?hQ1401 ?hy1401 (by assumption) ?_
          case hi1401 => (simp only [List.getElem?_toArray, List.getElem?_cons_succ, List.getElem?_cons_zero]; try rfl)
          case hQ1401 => exact fun _ _ _ h => h
          case hy1401 => (refine Or.inl ⟨by rfl, ?_⟩; intro wq hSw; (try dsimp only at hSw); go_simp; (try rw [if_pos h0n]); (try rw [if_pos h1n]); (try rw [if_pos h0z]); (try rw [if_pos h1z]); (try with_reducible rfl))
          (try simp only [Act.put, List.setIfInBounds_toArray, List.set_cons_zero, List.set_cons_succ])
          refine wpAnyT_take (i := 1) (oi := ?oi1402) (v := ?v1402) ?hi1402 (by kernel_rfl) (by kernel_rfl) (by kernel_rfl) (by kernel_rfl) (by kernel_rfl) ?hQ1402 ?hy1402 (by assumption) ?_
          case hi1402 => (simp only [List.getElem?_toArray, List.getElem?_cons_succ, List.getElem?_cons_zero]; try rfl)
          case hQ1402 => exact fun _ _ _ h => h
          case hy1402 => (refine Or.inl ⟨by rfl, ?_⟩; intro wq hSw; (try dsimp only at hSw); go_simp; (try rw [if_pos h0n]); (try rw [if_pos h1n]); (try rw [if_pos h0z]); (try rw [if_pos h1z]); (try with_reducible rfl))
          (try simp only [Act.put, List.setIfInBounds_toArray, List.set_cons_zero, List.set_cons_succ])
          refine wpAnyT_take (i := 2) (oi := ?oi1403) (v := ?v1403) ?hi1403 (by kernel_rfl) (by kernel_rfl) (by kernel_rfl) (by kernel_rfl) (by kernel_rfl) ?hQ1403 ?hy1403 (by assumption) ?_
          case hi1403 => (simp only [List.getElem?_toArray, List.getElem?_cons_succ, List.getElem?_cons_zero]; try rfl)
          case hQ1403 => exact fun _ _ _ h => h
          case hy1403 => (refine Or.inl ⟨by rfl, ?_⟩; intro wq hSw; (try dsimp only at hSw); go_simp; (try rw [if_pos h0n]); (try rw [if_pos h1n]); (try rw [if_pos h0z]); (try rw [if_pos h1z]); (try with_reducible rfl))
          (try simp only [Act.put, List.setIfInBounds_toArray, List.set_cons_zero, List.set_cons_succ])
          refine wpAnyT_take (i := 3) (oi := ?oi1404) (v := ?v1404) ?hi1404 (by kernel_rfl) (by kernel_rfl) (by kernel_rfl) (by kernel_rfl) (by kernel_rfl) ?hQ1404 ?hy1404 (by assumption) ?_
          case hi1404 => (simp only [List.getElem?_toArray, List.getElem?_cons_succ, List.getElem?_cons_zero]; try rfl)
          case hQ1404 => exact fun _ _ _ h => h
          case hy1404 => (refine Or.inl ⟨by rfl, ?_⟩; intro wq hSw; (try dsimp only at hSw); go_simp; (try rw [if_pos h0n]); (try rw [if_pos h1n]); (try rw [if_pos h0z]); (try rw [if_pos h1z]); (try with_reducible rfl))
          (try simp only [Act.put, List.setIfInBounds_toArray, List.set_cons_zero, List.set_cons_succ])
          refine wpAnyT_take (i := 4) (oi := ?oi1405) (v := ?v1405) ?hi1405 (by kernel_rfl) (by kernel_rfl) (by kernel_rfl) (by kernel_rfl) (by kernel_rfl) ?hQ1405 ?hy1405 (by assumption) ?_
          case hi1405 => (simp only [List.getElem?_toArray, List.getElem?_cons_succ, List.getElem?_cons_zero]; try rfl)
          case hQ1405 => exact fun _ _ _ h => h
          case hy1405 => (refine Or.inl ⟨by rfl, ?_⟩; intro wq hSw; (try dsimp only at hSw); go_simp; (try rw [if_pos h0n]); (try rw [if_pos h1n]); (try rw [if_pos h0z]); (try rw [if_pos h1z]); (try with_reducible rfl))
          (try simp only [Act.put, List.setIfInBounds_toArray, List.set_cons_zero, List.set_cons_succ])
          refine wpAnyT_take (i := 5) (oi := ?oi1406) (v := ?v1406) ?hi1406 (by kernel_rfl) (by kernel_rfl) (by kernel_rfl) (by kernel_rfl) (by kernel_rfl) ?hQ1406 ?hy1406 (by assumption) ?_
          case hi1406 => (simp only [List.getElem?_toArray, List.getElem?_cons_succ, List.getElem?_cons_zero]; try rfl)
          case hQ1406 => exact fun _ _ _ h => h
          case hy1406 => (refine Or.inl ⟨by rfl, ?_⟩; intro wq hSw; (try dsimp only at hSw); go_simp; (try rw [if_pos h0n]); (try rw [if_pos h1n]); (try rw [if_pos h0z]); (try rw [if_pos h1z]); (try with_reducible rfl))
          (try simp only [Act.put, List.setIfInBounds_toArray, List.set_cons_zero, List.set_cons_succ])
          refine wpAnyT_take (i := 6) (oi := ?oi1407) (v := ?v1407) ?hi1407 (by kernel_rfl) (by kernel_rfl) (by kernel_rfl) (by kernel_rfl) (by kernel_rfl) ?hQ1407 ?hy1407 (by assumption) ?_
          case hi1407 => (simp only [List.getElem?_toArray, List.getElem?_cons_succ, List.getElem?_cons_zero]; try rfl)
          case hQ1407 => exact fun _ _ _ h => h
          case hy1407 => (refine Or.inl ⟨by rfl, ?_⟩; intro wq hSw; (try dsimp only at hSw); go_simp; (try rw [if_pos h0n]); (try rw [if_pos h1n]); (try rw [if_pos h0z]); (try rw [if_pos h1z]); (try with_reducible rfl))
          (try simp only [Act.put, List.setIfInBounds_toArray, List.set_cons_zero, List.set_cons_succ])
          refine wpAnyT_take (i := 7) (oi := ?oi1408) (v := ?v1408) ?hi1408 (by kernel_rfl) (by kernel_rfl) (by kernel_rfl) (by kernel_rfl) (by kernel_rfl) ?hQ1408 ?hy1408 (by assumption) ?_
          case hi1408 => (simp only [List.getElem?_toArray, List.getElem?_cons_succ, List.getElem?_cons_zero]; try rfl)
          case hQ1408 => exact fun _ _ _ h => h
          case hy1408 => (refine Or.inl ⟨by rfl, ?_⟩; intro wq hSw; (try dsimp only at hSw); go_simp; (try rw [if_pos h0n]); (try rw [if_pos h1n]); (try rw [if_pos h0z]); (try rw [if_pos h1z]); (try with_reducible rfl))
          (try simp only [Act.put, List.setIfInBounds_toArray, List.set_cons_zero, List.set_cons_succ])
          refine wpAnyT_take (i := 8) (oi := ?oi1409) (v := ?v1409) ?hi1409 (by kernel_rfl) (by kernel_rfl) (by kernel_rfl) (by kernel_rfl) (by kernel_rfl) ?hQ1409 ?hy1409 (by assumption) ?_
          case hi1409 => (simp only [List.getElem?_toArray, List.getElem?_cons_succ, List.getElem?_cons_zero]; try rfl)
          case hQ1409 => exact fun _ _ _ h => h
          case hy1409 => (refine Or.inl ⟨by rfl, ?_⟩; intro wq hSw; (try dsimp only at hSw); go_simp; (try rw [if_pos h0n]); (try rw [if_pos h1n]); (try rw [if_pos h0z]); (try rw [if_pos h1z]); (try with_reducible rfl))
          (try simp only [Act.put, List.setIfInBounds_toArray, List.set_cons_zero, List.set_cons_succ])
          refine wpAnyT_take (i := 9) (oi := ?oi1410) (v := ?v1410) ?hi1410 (by kernel_rfl) (by kernel_rfl) (by kernel_rfl) (by kernel_rfl) (by kernel_rfl) ?hQ1410 ?hy1410 (by assumption) ?_
          case hi1410 => (simp only [List.getElem?_toArray, List.getElem?_cons_succ, List.getElem?_cons_zero]; try rfl)
          case hQ1410 => exact fun _ _ _ h => h
          case hy1410 => (refine Or.inl ⟨by rfl, ?_⟩; intro wq hSw; (try dsimp only at hSw); go_simp; (try rw [if_pos h0n]); (try rw [if_pos h1n]); (try rw [if_pos h0z]); (try rw [if_pos h1z]); (try with_reducible rfl))
          (try simp only [Act.put, List.setIfInBounds_toArray, List.set_cons_zero, List.set_cons_succ])
          refine wpAnyT_ready (rs := [10]) (by kernel_rfl) (by simp) ?_
          refine AllReadyT.cons (o := ?oi1411) ?hi1411 ?ti1411 AllReadyT.nil
          case hi1411 => (simp only [List.getElem?_toArray, List.getElem?_cons_succ, List.getElem?_cons_zero]; try rfl)
          case ti1411 =>
            intro KQ hKQ
            go_simp
            go_at_call 47
            refine Calls.mono (computed_any 14 v0.i v1.i _ (by omega) (by omega) (by omega) (by omega)) ?_
            rintro e w1 ⟨⟨r, rfl, hr⟩, hb1⟩
            obtain ⟨x5, rfl⟩ := hb1.get
            clear hb1
            refine hKQ.out _ _ (by simp [go_sem, ↓IntWalk.iteOmega, *]) (fun hHeld2 => ?_)
            clear hHeld hKQ KQ; have hHeld := hHeld2; clear hHeld2
            (try simp only [Act.put, List.setIfInBounds_toArray, List.set_cons_zero, List.set_cons_succ])
            refine wpAnyT_ready (rs := [11]) (by kernel_rfl) (by simp) ?_
            refine AllReadyT.last (o := ?oi1412) ?hi1412 ?ti1412
            case hi1412 => (simp only [List.getElem?_toArray, List.getElem?_cons_succ, List.getElem?_cons_zero]; try rfl)
            case ti1412 =>
              intro KQ hKQ
              go_simp
              (repeat (simp only [go_sem, ↓IntWalk.iteOmega, ↓reduceIte, Bool.false_eq_true]; (try go_simp)))
              refine hKQ.out _ _ ?_
              clear hKQ KQ hHeld
              (try simp only [Act.put, List.setIfInBounds_toArray, List.set_cons_zero, List.set_cons_succ])
              refine wpAnyT_done (by kernel_rfl) ?_ _
              go_wp2
              refine bodyPost_ret (v := vag r) ?_ rfl ⟨EvP.other HFB.out (by decide) (by decide) (by decide) (by decide) (hr), by repeat (first | exact Ext.refl' _ | assumption | apply Ext.ex' | apply Ext.al | apply Ext.drN | apply Ext.dr)⟩
              simp [results, Tryz.results20, go_sem, ↓IntWalk.iteOmega]
        · have hfb : arLo 15 ≤ (k : Int) ∧ (k : Int) ≤ arHi 15 := hfa
          simp only [show arLo 15 = 2 by decide, show arHi 15 = 2 by decide] at hfb
          clear hfa
          obtain ⟨v0, b0, o0, hv0, hAe0, hb0, p0, p1, p2⟩ := HRl.out.val3 HLK.out (show 0 < k by omega)
          have hs0 : SmV v0 := HSM.out v0 (List.mem_of_getElem? hv0)
          have hbb := HBB.out b0 o0 hAe0
          have hbn : b0 < w.heap.size + 1 + 1 + x.n := by simpa using hb0
          obtain ⟨v1, b1, o1, hv1, hAe1, hb1, q0, q1, q2⟩ := HRl.out.val3 HLK.out (show 1 < k by omega)
          have hs1 : SmV v1 := HSM.out v1 (List.mem_of_getElem? hv1)
          simp only [hAe0, Option.some.injEq, Addr.mk.injEq, and_true] at hAe1
          obtain ⟨rfl, rfl⟩ := hAe1
          clear hv0 hv1
          subst hAe0
          simp only [Nat.zero_mul, Nat.add_zero, Nat.one_mul] at p0 p1 p2
          simp only [Nat.one_mul] at q0 q1 q2
          have p0 : World.cell? (extR ((w.alloc (.cells #[.int .i64 15, .int .i64 i, .int .i64 v.k, .int .i64 v.i, .string v.t, .string nm, .slice A args.length c] 31)).alloc (.cells #[.int .i64 0, .int .i64 0, .string ⟨#[]⟩] 29)) x) ⟨b0, o0, none⟩ = some (.int .i64 v0.k) := p0
          have p1 : World.cell? (extR ((w.alloc (.cells #[.int .i64 15, .int .i64 i, .int .i64 v.k, .int .i64 v.i, .string v.t, .string nm, .slice A args.length c] 31)).alloc (.cells #[.int .i64 0, .int .i64 0, .string ⟨#[]⟩] 29)) x) ⟨b0, o0 + 1, none⟩ = some (.int .i64 v0.i) := p1
          have p2 : World.cell? (extR ((w.alloc (.cells #[.int .i64 15, .int .i64 i, .int .i64 v.k, .int .i64 v.i, .string v.t, .string nm, .slice A args.length c] 31)).alloc (.cells #[.int .i64 0, .int .i64 0, .string ⟨#[]⟩] 29)) x) ⟨b0, o0 + 2, none⟩ = some (.string v0.t) := p2
          have q0 : World.cell? (extR ((w.alloc (.cells #[.int .i64 15, .int .i64 i, .int .i64 v.k, .int .i64 v.i, .string v.t, .string nm, .slice A args.length c] 31)).alloc (.cells #[.int .i64 0, .int .i64 0, .string ⟨#[]⟩] 29)) x) ⟨b0, o0 + 3, none⟩ = some (.int .i64 v1.k) := q0
          have q1 : World.cell? (extR ((w.alloc (.cells #[.int .i64 15, .int .i64 i, .int .i64 v.k, .int .i64 v.i, .string v.t, .string nm, .slice A args.length c] 31)).alloc (.cells #[.int .i64 0, .int .i64 0, .string ⟨#[]⟩] 29)) x) ⟨b0, o0 + 4, none⟩ = some (.int .i64 v1.i) := q1
          have q2 : World.cell? (extR ((w.alloc (.cells #[.int .i64 15, .int .i64 i, .int .i64 v.k, .int .i64 v.i, .string v.t, .string nm, .slice A args.length c] 31)).alloc (.cells #[.int .i64 0, .int .i64 0, .string ⟨#[]⟩] 29)) x) ⟨b0, o0 + 5, none⟩ = some (.string v1.t) := q2
          have h0n : 0 < k := by omega
          have h1n : 1 < k := by omega
          have h0z : (0 : Int) < (k : Int) := by omega
          have h1z : (1 : Int) < (k : Int) := by omega
          go_wp2_with fail
          refine (are_any _ k lc lk 1 _ HLK.out (HRl.out.ext (by repeat (first | exact Ext.refl' _ | assumption | apply Ext.ex' | apply Ext.al | apply Ext.drN | apply Ext.dr))) hk20).mono ?_
          rintro e w1 ⟨⟨ba, rfl⟩, hb1⟩
          obtain ⟨x2, rfl⟩ := hb1.get
          clear hb1
          cases ba
          · go_wp2_with fail
            refine (rnull7 _).mono ?_
            rintro e w1 ⟨rfl, hb1⟩
            obtain ⟨x3, rfl⟩ := hb1.get
            clear hb1
            go_wp2
            refine bodyPost_ret (v := vag nullV) ?_ rfl ⟨EvP.other HFB.out (by decide) (by decide) (by decide) (by decide) ((by decide)), by repeat (first | exact Ext.refl' _ | assumption | apply Ext.ex' | apply Ext.al | apply Ext.drN | apply Ext.dr)⟩
            simp [results, Tryz.results20, go_sem, ↓IntWalk.iteOmega, nullV]
          go_wp2_with fail
          refine wp_region_T 11 (S := (fun w' => w'.cell? ⟨w.heap.size, 0, none⟩ = some (.int .i64 15) ∧ w'.cell? ⟨b0, o0, none⟩ = some (.int .i64 v0.k) ∧ w'.cell? ⟨b0, o0 + 1, none⟩ = some (.int .i64 v0.i) ∧ w'.cell? ⟨b0, o0 + 2, none⟩ = some (.string v0.t) ∧ w'.cell? ⟨b0, o0 + 3, none⟩ = some (.int .i64 v1.k) ∧ w'.cell? ⟨b0, o0 + 4, none⟩ = some (.int .i64 v1.i) ∧ w'.cell? ⟨b0, o0 + 5, none⟩ = some (.string v1.t))) (by kernel_rfl) (by simp [go_sem, ↓IntWalk.iteOmega, *]) (fun hHeld => ?_)
          refine wpAnyT_take (i := 0) (oi := ?oi1501) (v := ?v1501) ?hi1501 (by kernel_rfl) (by kernel_rfl) (by kernel_rfl) (by kernel_rfl) (by kernel_rfl) ?hQ1501 ?hy1501 (by assumption) ?_
          case hi1501 => (simp only [List.getElem?_toArray, List.getElem?_cons_succ, List.getElem?_cons_zero]; try rfl)
          case hQ1501 => exact fun _ _ _ h => h
          case hy1501 => (refine Or.inl ⟨by rfl, ?_⟩; intro wq hSw; (try dsimp only at hSw); go_simp; (try rw [if_pos h0n]); (try rw [if_pos h1n]); (try rw [if_pos h0z]); (try rw [if_pos h1z]); (try with_reducible rfl))
          (try simp only [Act.put, List.setIfInBounds_toArray, List.set_cons_zero, List.set_cons_succ])
          refine wpAnyT_take (i := 1) (oi := ?oi1502) (v := ?v1502) ?hi1502 (by kernel_rfl) (by kernel_rfl) (by kernel_rfl) (by kernel_rfl) (by kernel_rfl) ?hQ1502 ?hy1502 (by assumption) ?_
          case hi1502 => (simp only [List.getElem?_toArray, List.getElem?_cons_succ, List.getElem?_cons_zero]; try rfl)
          case hQ1502 => exact fun _ _ _ h => h
          case hy1502 => (refine Or.inl ⟨by rfl, ?_⟩; intro wq hSw; (try dsimp only at hSw); go_simp; (try rw [if_pos h0n]); (try rw [if_pos h1n]); (try rw [if_pos h0z]); (try rw [if_pos h1z]); (try with_reducible rfl))
          (try simp only [Act.put, List.setIfInBounds_toArray, List.set_cons_zero, List.set_cons_succ])
          refine wpAnyT_take (i := 2) (oi := ?oi1503) (v := ?v1503) ?hi1503 (by kernel_rfl) (by kernel_rfl) (by kernel_rfl) (by kernel_rfl) (by kernel_rfl) ?hQ1503 ?hy1503 (by assumption) ?_
          case hi1503 => (simp only [List.getElem?_toArray, List.getElem?_cons_succ, List.getElem?_cons_zero]; try rfl)
          case hQ1503 => exact fun _ _ _ h => h
          case hy1503 => (refine Or.inl ⟨by rfl, ?_⟩; intro wq hSw; (try dsimp only at hSw); go_simp; (try rw [if_pos h0n]); (try rw [if_pos h1n]); (try rw [if_pos h0z]); (try rw [if_pos h1z]); (try with_reducible rfl))
          (try simp only [Act.put, List.setIfInBounds_toArray, List.set_cons_zero, List.set_cons_succ])
          refine wpAnyT_take (i := 3) (oi := ?oi1504) (v := ?v1504) ?hi1504 (by kernel_rfl) (by kernel_rfl) (by kernel_rfl) (by kernel_rfl) (by kernel_rfl) ?hQ1504 ?hy1504 (by assumption) ?_
          case hi1504 => (simp only [List.getElem?_toArray, List.getElem?_cons_succ, List.getElem?_cons_zero]; try rfl)
          case hQ1504 => exact fun _ _ _ h => h
          case hy1504 => (refine Or.inl ⟨by rfl, ?_⟩; intro wq hSw; (try dsimp only at hSw); go_simp; (try rw [if_pos h0n]); (try rw [if_pos h1n]); (try rw [if_pos h0z]); (try rw [if_pos h1z]); (try with_reducible rfl))
          (try simp only [Act.put, List.setIfInBounds_toArray, List.set_cons_zero, List.set_cons_succ])
          refine wpAnyT_take (i := 4) (oi := ?oi1505) (v := ?v1505) ?hi1505 (by kernel_rfl) (by kernel_rfl) (by kernel_rfl) (by kernel_rfl) (by kernel_rfl) ?hQ1505 ?hy1505 (by assumption) ?_
          case hi1505 => (simp only [List.getElem?_toArray, List.getElem?_cons_succ, List.getElem?_cons_zero]; try rfl)
          case hQ1505 => exact fun _ _ _ h => h
          case hy1505 => (refine Or.inl ⟨by rfl, ?_⟩; intro wq hSw; (try dsimp only at hSw); go_simp; (try rw [if_pos h0n]); (try rw [if_pos h1n]); (try rw [if_pos h0z]); (try rw [if_pos h1z]); (try with_reducible rfl))
          (try simp only [Act.put, List.setIfInBounds_toArray, List.set_cons_zero, List.set_cons_succ])
          refine wpAnyT_take (i := 5) (oi := ?oi1506) (v := ?v1506) ?hi1506 (by kernel_rfl) (by kernel_rfl) (by kernel_rfl) (by kernel_rfl) (by kernel_rfl) ?hQ1506 ?hy1506 (by assumption) ?_
          case hi1506 => (simp only [List.getElem?_toArray, List.getElem?_cons_succ, List.getElem?_cons_zero]; try rfl)
          case hQ1506 => exact fun _ _ _ h => h
          case hy1506 => (refine Or.inl ⟨by rfl, ?_⟩; intro wq hSw; (try dsimp only at hSw); go_simp; (try rw [if_pos h0n]); (try rw [if_pos h1n]); (try rw [if_pos h0z]); (try rw [if_pos h1z]); (try with_reducible rfl))
          (try simp only [Act.put, List.setIfInBounds_toArray, List.set_cons_zero, List.set_cons_succ])
          refine wpAnyT_take (i := 6) (oi := ?oi1507) (v := ?v1507) ?hi1507 (by kernel_rfl) (by kernel_rfl) (by kernel_rfl) (by kernel_rfl) (by kernel_rfl) ?hQ1507 ?hy1507 (by assumption) ?_
          case hi1507 => (simp only [List.getElem?_toArray, List.getElem?_cons_succ, List.getElem?_cons_zero]; try rfl)
          case hQ1507 => exact fun _ _ _ h => h
          case hy1507 => (refine Or.inl ⟨by rfl, ?_⟩; intro wq hSw; (try dsimp only at hSw); go_simp; (try rw [if_pos h0n]); (try rw [if_pos h1n]); (try rw [if_pos h0z]); (try rw [if_pos h1z]); (try with_reducible rfl))
          (try simp only [Act.put, List.setIfInBounds_toArray, List.set_cons_zero, List.set_cons_succ])
          refine wpAnyT_take (i := 7) (oi := ?oi1508) (v := ?v1508) ?hi1508 (by kernel_rfl) (by kernel_rfl) (by kernel_rfl) (by kernel_rfl) (by kernel_rfl) ?hQ1508 ?hy1508 (by assumption) ?_
          case hi1508 => (simp only [List.getElem?_toArray, List.getElem?_cons_succ, List.getElem?_cons_zero]; try rfl)
          case hQ1508 => exact fun _ _ _ h => h
          case hy1508 => (refine Or.inl ⟨by rfl, ?_⟩; intro wq hSw; (try dsimp only at hSw); go_simp; (try rw [if_pos h0n]); (try rw [if_pos h1n]); (try rw [if_pos h0z]); (try rw [if_pos h1z]); (try with_reducible rfl))
          (try simp only [Act.put, List.setIfInBounds_toArray, List.set_cons_zero, List.set_cons_succ])
          refine wpAnyT_take (i := 8) (oi := ?oi1509) (v := ?v1509) ?hi1509 (by kernel_rfl) (by kernel_rfl) (by kernel_rfl) (by kernel_rfl) (by kernel_rfl) ?hQ1509 ?hy1509 (by assumption) ?_
          case hi1509 => (simp only [List.getElem?_toArray, List.getElem?_cons_succ, List.getElem?_cons_zero]; try rfl)
          case hQ1509 => exact fun _ _ _ h => h
          case hy1509 => (refine Or.inl ⟨by rfl, ?_⟩; intro wq hSw; (try dsimp only at hSw); go_simp; (try rw [if_pos h0n]); (try rw [if_pos h1n]); (try rw [if_pos h0z]); (try rw [if_pos h1z]); (try with_reducible rfl))
          (try simp only [Act.put, List.setIfInBounds_toArray, List.set_cons_zero, List.set_cons_succ])
          refine wpAnyT_take (i := 9) (oi := ?oi1510) (v := ?v1510) ?hi1510 (by kernel_rfl) (by kernel_rfl) (by kernel_rfl) (by kernel_rfl) (by kernel_rfl) ?hQ1510 ?hy1510 (by assumption) ?_
          case hi1510 => (simp only [List.getElem?_toArray, List.getElem?_cons_succ, List.getElem?_cons_zero]; try rfl)
          case hQ1510 => exact fun _ _ _ h => h
          case hy1510 => (refine Or.inl ⟨by rfl, ?_⟩; intro wq hSw; (try dsimp only at hSw); go_simp; (try rw [if_pos h0n]); (try rw [if_pos h1n]); (try rw [if_pos h0z]); (try rw [if_pos h1z]); (try with_reducible rfl))
          (try simp only [Act.put, List.setIfInBounds_toArray, List.set_cons_zero, List.set_cons_succ])
          refine wpAnyT_ready (rs := [10]) (by kernel_rfl) (by simp) ?_
          refine AllReadyT.cons (o := ?oi1511) ?hi1511 ?ti1511 AllReadyT.nil
          case hi1511 => (simp only [List.getElem?_toArray, List.getElem?_cons_succ, List.getElem?_cons_zero]; try rfl)
          case ti1511 =>
            intro KQ hKQ
            go_simp
            go_at_call 47
            refine Calls.mono (computed_any 15 v0.i v1.i _ (by omega) (by omega) (by omega) (by omega)) ?_
            rintro e w1 ⟨⟨r, rfl, hr⟩, hb1⟩
            obtain ⟨x5, rfl⟩ := hb1.get
            clear hb1
            refine hKQ.out _ _ (by simp [go_sem, ↓IntWalk.iteOmega, *]) (fun hHeld2 => ?_)
            clear hHeld hKQ KQ; have hHeld := hHeld2; clear hHeld2
            (try simp only [Act.put, List.setIfInBounds_toArray, List.set_cons_zero, List.set_cons_succ])
            refine wpAnyT_ready (rs := [11]) (by kernel_rfl) (by simp) ?_
            refine AllReadyT.last (o := ?oi1512) ?hi1512 ?ti1512
            case hi1512 => (simp only [List.getElem?_toArray, List.getElem?_cons_succ, List.getElem?_cons_zero]; try rfl)
            case ti1512 =>
              intro KQ hKQ
              go_simp
              (repeat (simp only [go_sem, ↓IntWalk.iteOmega, ↓reduceIte, Bool.false_eq_true]; (try go_simp)))
              refine hKQ.out _ _ ?_
              clear hKQ KQ hHeld
              (try simp only [Act.put, List.setIfInBounds_toArray, List.set_cons_zero, List.set_cons_succ])
              refine wpAnyT_done (by kernel_rfl) ?_ _
              go_wp2
              refine bodyPost_ret (v := vag r) ?_ rfl ⟨EvP.other HFB.out (by decide) (by decide) (by decide) (by decide) (hr), by repeat (first | exact Ext.refl' _ | assumption | apply Ext.ex' | apply Ext.al | apply Ext.drN | apply Ext.dr)⟩
              simp [results, Tryz.results20, go_sem, ↓IntWalk.iteOmega]
        · have hfb : arLo 16 ≤ (k : Int) ∧ (k : Int) ≤ arHi 16 := hfa
          simp only [show arLo 16 = 2 by decide, show arHi 16 = 2 by decide] at hfb
          clear hfa
          obtain ⟨v0, b0, o0, hv0, hAe0, hb0, p0, p1, p2⟩ := HRl.out.val3 HLK.out (show 0 < k by omega)
          have hs0 : SmV v0 := HSM.out v0 (List.mem_of_getElem? hv0)
          have hbb := HBB.out b0 o0 hAe0
          have hbn : b0 < w.heap.size + 1 + 1 + x.n := by simpa using hb0
          obtain ⟨v1, b1, o1, hv1, hAe1, hb1, q0, q1, q2⟩ := HRl.out.val3 HLK.out (show 1 < k by omega)
          have hs1 : SmV v1 := HSM.out v1 (List.mem_of_getElem? hv1)
          simp only [hAe0, Option.some.injEq, Addr.mk.injEq, and_true] at hAe1
          obtain ⟨rfl, rfl⟩ := hAe1
          clear hv0 hv1
          subst hAe0
          simp only [Nat.zero_mul, Nat.add_zero, Nat.one_mul] at p0 p1 p2
          simp only [Nat.one_mul] at q0 q1 q2
          have p0 : World.cell? (extR ((w.alloc (.cells #[.int .i64 16, .int .i64 i, .int .i64 v.k, .int .i64 v.i, .string v.t, .string nm, .slice A args.length c] 31)).alloc (.cells #[.int .i64 0, .int .i64 0, .string ⟨#[]⟩] 29)) x) ⟨b0, o0, none⟩ = some (.int .i64 v0.k) := p0
          have p1 : World.cell? (extR ((w.alloc (.cells #[.int .i64 16, .int .i64 i, .int .i64 v.k, .int .i64 v.i, .string v.t, .string nm, .slice A args.length c] 31)).alloc (.cells #[.int .i64 0, .int .i64 0, .string ⟨#[]⟩] 29)) x) ⟨b0, o0 + 1, none⟩ = some (.int .i64 v0.i) := p1
          have p2 : World.cell? (extR ((w.alloc (.cells #[.int .i64 16, .int .i64 i, .int .i64 v.k, .int .i64 v.i, .string v.t, .string nm, .slice A args.length c] 31)).alloc (.cells #[.int .i64 0, .int .i64 0, .string ⟨#[]⟩] 29)) x) ⟨b0, o0 + 2, none⟩ = some (.string v0.t) := p2
          have q0 : World.cell? (extR ((w.alloc (.cells #[.int .i64 16, .int .i64 i, .int .i64 v.k, .int .i64 v.i, .string v.t, .string nm, .slice A args.length c] 31)).alloc (.cells #[.int .i64 0, .int .i64 0, .string ⟨#[]⟩] 29)) x) ⟨b0, o0 + 3, none⟩ = some (.int .i64 v1.k) := q0
          have q1 : World.cell? (extR ((w.alloc (.cells #[.int .i64 16, .int .i64 i, .int .i64 v.k, .int .i64 v.i, .string v.t, .string nm, .slice A args.length c] 31)).alloc (.cells #[.int .i64 0, .int .i64 0, .string ⟨#[]⟩] 29)) x) ⟨b0, o0 + 4, none⟩ = some (.int .i64 v1.i) := q1
          have q2 : World.cell? (extR ((w.alloc (.cells #[.int .i64 16, .int .i64 i, .int .i64 v.k, .int .i64 v.i, .string v.t, .string nm, .slice A args.length c] 31)).alloc (.cells #[.int .i64 0, .int .i64 0, .string ⟨#[]⟩] 29)) x) ⟨b0, o0 + 5, none⟩ = some (.string v1.t) := q2
          have h0n : 0 < k := by omega
          have h1n : 1 < k := by omega
          have h0z : (0 : Int) < (k : Int) := by omega
          have h1z : (1 : Int) < (k : Int) := by omega
          go_wp2_with fail
          refine (are_any _ k lc lk 1 _ HLK.out (HRl.out.ext (by repeat (first | exact Ext.refl' _ | assumption | apply Ext.ex' | apply Ext.al | apply Ext.drN | apply Ext.dr))) hk20).mono ?_
          rintro e w1 ⟨⟨ba, rfl⟩, hb1⟩
          obtain ⟨x2, rfl⟩ := hb1.get
          clear hb1
          cases ba
          · go_wp2_with fail
            refine (rnull7 _).mono ?_
            rintro e w1 ⟨rfl, hb1⟩
            obtain ⟨x3, rfl⟩ := hb1.get
            clear hb1
            go_wp2
            refine bodyPost_ret (v := vag nullV) ?_ rfl ⟨EvP.other HFB.out (by decide) (by decide) (by decide) (by decide) ((by decide)), by repeat (first | exact Ext.refl' _ | assumption | apply Ext.ex' | apply Ext.al | apply Ext.drN | apply Ext.dr)⟩
            simp [results, Tryz.results20, go_sem, ↓IntWalk.iteOmega, nullV]
          go_wp2_with fail
          refine wp_region_T 11 (S := (fun w' => w'.cell? ⟨w.heap.size, 0, none⟩ = some (.int .i64 16) ∧ w'.cell? ⟨b0, o0, none⟩ = some (.int .i64 v0.k) ∧ w'.cell? ⟨b0, o0 + 1, none⟩ = some (.int .i64 v0.i) ∧ w'.cell? ⟨b0, o0 + 2, none⟩ = some (.string v0.t) ∧ w'.cell? ⟨b0, o0 + 3, none⟩ = some (.int .i64 v1.k) ∧ w'.cell? ⟨b0, o0 + 4, none⟩ = some (.int .i64 v1.i) ∧ w'.cell? ⟨b0, o0 + 5, none⟩ = some (.string v1.t))) (by kernel_rfl) (by simp [go_sem, ↓IntWalk.iteOmega, *]) (fun hHeld => ?_)
          refine wpAnyT_take (i := 0) (oi := ?oi1601) (v := ?v1601) ?hi1601 (by kernel_rfl) (by kernel_rfl) (by kernel_rfl) (by kernel_rfl) (by kernel_rfl) ?hQ1601 ?hy1601 (by assumption) ?_
          case hi1601 => (simp only [List.getElem?_toArray, List.getElem?_cons_succ, List.getElem?_cons_zero]; try rfl)
          case hQ1601 => exact fun _ _ _ h => h
          case hy1601 => (refine Or.inl ⟨by rfl, ?_⟩; intro wq hSw; (try dsimp only at hSw); go_simp; (try rw [if_pos h0n]); (try rw [if_pos h1n]); (try rw [if_pos h0z]); (try rw [if_pos h1z]); (try with_reducible rfl))
          (try simp only [Act.put, List.setIfInBounds_toArray, List.set_cons_zero, List.set_cons_succ])
          refine wpAnyT_take (i := 1) (oi := ?oi1602) (v := ?v1602) ?hi1602 (by kernel_rfl) (by kernel_rfl) (by kernel_rfl) (by kernel_rfl) (by kernel_rfl) ?hQ1602 ?hy1602 (by assumption) ?_
          case hi1602 => (simp only [List.getElem?_toArray, List.getElem?_cons_succ, List.getElem?_cons_zero]; try rfl)
          case hQ1602 => exact fun _ _ _ h => h
          case hy1602 => (refine Or.inl ⟨by rfl, ?_⟩; intro wq hSw; (try dsimp only at hSw); go_simp; (try rw [if_pos h0n]); (try rw [if_pos h1n]); (try rw [if_pos h0z]); (try rw [if_pos h1z]); (try with_reducible rfl))
          (try simp only [Act.put, List.setIfInBounds_toArray, List.set_cons_zero, List.set_cons_succ])
          refine wpAnyT_take (i := 2) (oi := ?oi1603) (v := ?v1603) ?hi1603 (by kernel_rfl) (by kernel_rfl) (by kernel_rfl) (by kernel_rfl) (by kernel_rfl) ?hQ1603 ?hy1603 (by assumption) ?_
          case hi1603 => (simp only [List.getElem?_toArray, List.getElem?_cons_succ, List.getElem?_cons_zero]; try rfl)
          case hQ1603 => exact fun _ _ _ h => h
          case hy1603 => (refine Or.inl ⟨by rfl, ?_⟩; intro wq hSw; (try dsimp only at hSw); go_simp; (try rw [if_pos h0n]); (try rw [if_pos h1n]); (try rw [if_pos h0z]); (try rw [if_pos h1z]); (try with_reducible rfl))
          (try simp only [Act.put, List.setIfInBounds_toArray, List.set_cons_zero, List.set_cons_succ])
          refine wpAnyT_take (i := 3) (oi := ?oi1604) (v := ?v1604) ?hi1604 (by kernel_rfl) (by kernel_rfl) (by kernel_rfl) (by kernel_rfl) (by kernel_rfl) ?hQ1604 ?hy1604 (by assumption) ?_
          case hi1604 => (simp only [List.getElem?_toArray, List.getElem?_cons_succ, List.getElem?_cons_zero]; try rfl)
          case hQ1604 => exact fun _ _ _ h => h
          case hy1604 => (refine Or.inl ⟨by rfl, ?_⟩; intro wq hSw; (try dsimp only at hSw); go_simp; (try rw [if_pos h0n]); (try rw [if_pos h1n]); (try rw [if_pos h0z]); (try rw [if_pos h1z]); (try with_reducible rfl))
          (try simp only [Act.put, List.setIfInBounds_toArray, List.set_cons_zero, List.set_cons_succ])
          refine wpAnyT_take (i := 4) (oi := ?oi1605) (v := ?v1605) ?hi1605 (by kernel_rfl) (by kernel_rfl) (by kernel_rfl) (by kernel_rfl) (by kernel_rfl) ?hQ1605 ?hy1605 (by assumption) ?_
          case hi1605 => (simp only [List.getElem?_toArray, List.getElem?_cons_succ, List.getElem?_cons_zero]; try rfl)
          case hQ1605 => exact fun _ _ _ h => h
          case hy1605 => (refine Or.inl ⟨by rfl, ?_⟩; intro wq hSw; (try dsimp only at hSw); go_simp; (try rw [if_pos h0n]); (try rw [if_pos h1n]); (try rw [if_pos h0z]); (try rw [if_pos h1z]); (try with_reducible rfl))
          (try simp only [Act.put, List.setIfInBounds_toArray, List.set_cons_zero, List.set_cons_succ])
          refine wpAnyT_take (i := 5) (oi := ?oi1606) (v := ?v1606) ?hi1606 (by kernel_rfl) (by kernel_rfl) (by kernel_rfl) (by kernel_rfl) (by kernel_rfl) ?hQ1606 ?hy1606 (by assumption) ?_
          case hi1606 => (simp only [List.getElem?_toArray, List.getElem?_cons_succ, List.getElem?_cons_zero]; try rfl)
          case hQ1606 => exact fun _ _ _ h => h
          case hy1606 => (refine Or.inl ⟨by rfl, ?_⟩; intro wq hSw; (try dsimp only at hSw); go_simp; (try rw [if_pos h0n]); (try rw [if_pos h1n]); (try rw [if_pos h0z]); (try rw [if_pos h1z]); (try with_reducible rfl))
          (try simp only [Act.put, List.setIfInBounds_toArray, List.set_cons_zero, List.set_cons_succ])
          refine wpAnyT_take (i := 6) (oi := ?oi1607) (v := ?v1607) ?hi1607 (by kernel_rfl) (by kernel_rfl) (by kernel_rfl) (by kernel_rfl) (by kernel_rfl) ?hQ1607 ?hy1607 (by assumption) ?_
          case hi1607 => (simp only [List.getElem?_toArray, List.getElem?_cons_succ, List.getElem?_cons_zero]; try rfl)
          case hQ1607 => exact fun _ _ _ h => h
          case hy1607 => (refine Or.inl ⟨by rfl, ?_⟩; intro wq hSw; (try dsimp only at hSw); go_simp; (try rw [if_pos h0n]); (try rw [if_pos h1n]); (try rw [if_pos h0z]); (try rw [if_pos h1z]); (try with_reducible rfl))
          (try simp only [Act.put, List.setIfInBounds_toArray, List.set_cons_zero, List.set_cons_succ])
          refine wpAnyT_take (i := 7) (oi := ?oi1608) (v := ?v1608) ?hi1608 (by kernel_rfl) (by kernel_rfl) (by kernel_rfl) (by kernel_rfl) (by kernel_rfl) ?hQ1608 ?hy1608 (by assumption) ?_
          case hi1608 => (simp only [List.getElem?_toArray, List.getElem?_cons_succ, List.getElem?_cons_zero]; try rfl)
          case hQ1608 => exact fun _ _ _ h => h
          case hy1608 => (refine Or.inl ⟨by rfl, ?_⟩; intro wq hSw; (try dsimp only at hSw); go_simp; (try rw [if_pos h0n]); (try rw [if_pos h1n]); (try rw [if_pos h0z]); (try rw [if_pos h1z]); (try with_reducible rfl))
          (try simp only [Act.put, List.setIfInBounds_toArray, List.set_cons_zero, List.set_cons_succ])
          refine wpAnyT_take (i := 8) (oi := ?oi1609) (v := ?v1609) ?hi1609 (by kernel_rfl) (by kernel_rfl) (by kernel_rfl) (by kernel_rfl) (by kernel_rfl) ?hQ1609 ?hy1609 (by assumption) ?_
          case hi1609 => (simp only [List.getElem?_toArray, List.getElem?_cons_succ, List.getElem?_cons_zero]; try rfl)
          case hQ1609 => exact fun _ _ _ h => h
          case hy1609 => (refine Or.inl ⟨by rfl, ?_⟩; intro wq hSw; (try dsimp only at hSw); go_simp; (try rw [if_pos h0n]); (try rw [if_pos h1n]); (try rw [if_pos h0z]); (try rw [if_pos h1z]); (try with_reducible rfl))
          (try simp only [Act.put, List.setIfInBounds_toArray, List.set_cons_zero, List.set_cons_succ])
          refine wpAnyT_take (i := 9) (oi := ?oi1610) (v := ?v1610) ?hi1610 (by kernel_rfl) (by kernel_rfl) (by kernel_rfl) (by kernel_rfl) (by kernel_rfl) ?hQ1610 ?hy1610 (by assumption) ?_
          case hi1610 => (simp only [List.getElem?_toArray, List.getElem?_cons_succ, List.getElem?_cons_zero]; try rfl)
          case hQ1610 => exact fun _ _ _ h => h
          case hy1610 => (refine Or.inl ⟨by rfl, ?_⟩; intro wq hSw; (try dsimp only at hSw); go_simp; (try rw [if_pos h0n]); (try rw [if_pos h1n]); (try rw [if_pos h0z]); (try rw [if_pos h1z]); (try with_reducible rfl))
          (try simp only [Act.put, List.setIfInBounds_toArray, List.set_cons_zero, List.set_cons_succ])
          refine wpAnyT_ready (rs := [10]) (by kernel_rfl) (by simp) ?_
          refine AllReadyT.cons (o := ?oi1611) ?hi1611 ?ti1611 AllReadyT.nil
          case hi1611 => (simp only [List.getElem?_toArray, List.getElem?_cons_succ, List.getElem?_cons_zero]; try rfl)
          case ti1611 =>
            intro KQ hKQ
            go_simp
            go_at_call 47
            refine Calls.mono (computed_any 16 v0.i v1.i _ (by omega) (by omega) (by omega) (by omega)) ?_
            rintro e w1 ⟨⟨r, rfl, hr⟩, hb1⟩
            obtain ⟨x5, rfl⟩ := hb1.get
            clear hb1
            refine hKQ.out _ _ (by simp [go_sem, ↓IntWalk.iteOmega, *]) (fun hHeld2 => ?_)
            clear hHeld hKQ KQ; have hHeld := hHeld2; clear hHeld2
            (try simp only [Act.put, List.setIfInBounds_toArray, List.set_cons_zero, List.set_cons_succ])
            refine wpAnyT_ready (rs := [11]) (by kernel_rfl) (by simp) ?_
            refine AllReadyT.last (o := ?oi1612) ?hi1612 ?ti1612
            case hi1612 => (simp only [List.getElem?_toArray, List.getElem?_cons_succ, List.getElem?_cons_zero]; try rfl)
            case ti1612 =>
              intro KQ hKQ
              go_simp
              (repeat (simp only [go_sem, ↓IntWalk.iteOmega, ↓reduceIte, Bool.false_eq_true]; (try go_simp)))
              refine hKQ.out _ _ ?_
              clear hKQ KQ hHeld
              (try simp only [Act.put, List.setIfInBounds_toArray, List.set_cons_zero, List.set_cons_succ])
              refine wpAnyT_done (by kernel_rfl) ?_ _
              go_wp2
              refine bodyPost_ret (v := vag r) ?_ rfl ⟨EvP.other HFB.out (by decide) (by decide) (by decide) (by decide) (hr), by repeat (first | exact Ext.refl' _ | assumption | apply Ext.ex' | apply Ext.al | apply Ext.drN | apply Ext.dr)⟩
              simp [results, Tryz.results20, go_sem, ↓IntWalk.iteOmega]
        · have hfb : arLo 17 ≤ (k : Int) ∧ (k : Int) ≤ arHi 17 := hfa
          simp only [show arLo 17 = 2 by decide, show arHi 17 = 2 by decide] at hfb
          clear hfa
          obtain ⟨v0, b0, o0, hv0, hAe0, hb0, p0, p1, p2⟩ := HRl.out.val3 HLK.out (show 0 < k by omega)
          have hs0 : SmV v0 := HSM.out v0 (List.mem_of_getElem? hv0)
          have hbb := HBB.out b0 o0 hAe0
          have hbn : b0 < w.heap.size + 1 + 1 + x.n := by simpa using hb0
          obtain ⟨v1, b1, o1, hv1, hAe1, hb1, q0, q1, q2⟩ := HRl.out.val3 HLK.out (show 1 < k by omega)
          have hs1 : SmV v1 := HSM.out v1 (List.mem_of_getElem? hv1)
          simp only [hAe0, Option.some.injEq, Addr.mk.injEq, and_true] at hAe1
          obtain ⟨rfl, rfl⟩ := hAe1
          clear hv0 hv1
          subst hAe0
          simp only [Nat.zero_mul, Nat.add_zero, Nat.one_mul] at p0 p1 p2
          simp only [Nat.one_mul] at q0 q1 q2
          have p0 : World.cell? (extR ((w.alloc (.cells #[.int .i64 17, .int .i64 i, .int .i64 v.k, .int .i64 v.i, .string v.t, .string nm, .slice A args.length c] 31)).alloc (.cells #[.int .i64 0, .int .i64 0, .string ⟨#[]⟩] 29)) x) ⟨b0, o0, none⟩ = some (.int .i64 v0.k) := p0
          have p1 : World.cell? (extR ((w.alloc (.cells #[.int .i64 17, .int .i64 i, .int .i64 v.k, .int .i64 v.i, .string v.t, .string nm, .slice A args.length c] 31)).alloc (.cells #[.int .i64 0, .int .i64 0, .string ⟨#[]⟩] 29)) x) ⟨b0, o0 + 1, none⟩ = some (.int .i64 v0.i) := p1
          have p2 : World.cell? (extR ((w.alloc (.cells #[.int .i64 17, .int .i64 i, .int .i64 v.k, .int .i64 v.i, .string v.t, .string nm, .slice A args.length c] 31)).alloc (.cells #[.int .i64 0, .int .i64 0, .string ⟨#[]⟩] 29)) x) ⟨b0, o0 + 2, none⟩ = some (.string v0.t) := p2
          have q0 : World.cell? (extR ((w.alloc (.cells #[.int .i64 17, .int .i64 i, .int .i64 v.k, .int .i64 v.i, .string v.t, .string nm, .slice A args.length c] 31)).alloc (.cells #[.int .i64 0, .int .i64 0, .string ⟨#[]⟩] 29)) x) ⟨b0, o0 + 3, none⟩ = some (.int .i64 v1.k) := q0
          have q1 : World.cell? (extR ((w.alloc (.cells #[.int .i64 17, .int .i64 i, .int .i64 v.k, .int .i64 v.i, .string v.t, .string nm, .slice A args.length c] 31)).alloc (.cells #[.int .i64 0, .int .i64 0, .string ⟨#[]⟩] 29)) x) ⟨b0, o0 + 4, none⟩ = some (.int .i64 v1.i) := q1
          have q2 : World.cell? (extR ((w.alloc (.cells #[.int .i64 17, .int .i64 i, .int .i64 v.k, .int .i64 v.i, .string v.t, .string nm, .slice A args.length c] 31)).alloc (.cells #[.int .i64 0, .int .i64 0, .string ⟨#[]⟩] 29)) x) ⟨b0, o0 + 5, none⟩ = some (.string v1.t) := q2
          have h0n : 0 < k := by omega
          have h1n : 1 < k := by omega
          have h0z : (0 : Int) < (k : Int) := by omega
          have h1z : (1 : Int) < (k : Int) := by omega
          go_wp2_with fail
          refine (are_any _ k lc lk 1 _ HLK.out (HRl.out.ext (by repeat (first | exact Ext.refl' _ | assumption | apply Ext.ex' | apply Ext.al | apply Ext.drN | apply Ext.dr))) hk20).mono ?_
          rintro e w1 ⟨⟨ba, rfl⟩, hb1⟩
          obtain ⟨x2, rfl⟩ := hb1.get
          clear hb1
          cases ba
          · go_wp2_with fail
            refine (rnull7 _).mono ?_
            rintro e w1 ⟨rfl, hb1⟩
            obtain ⟨x3, rfl⟩ := hb1.get
            clear hb1
            go_wp2
            refine bodyPost_ret (v := vag nullV) ?_ rfl ⟨EvP.other HFB.out (by decide) (by decide) (by decide) (by decide) ((by decide)), by repeat (first | exact Ext.refl' _ | assumption | apply Ext.ex' | apply Ext.al | apply Ext.drN | apply Ext.dr)⟩
            simp [results, Tryz.results20, go_sem, ↓IntWalk.iteOmega, nullV]
          go_wp2_with fail
          refine wp_region_T 11 (S := (fun w' => w'.cell? ⟨w.heap.size, 0, none⟩ = some (.int .i64 17) ∧ w'.cell? ⟨b0, o0, none⟩ = some (.int .i64 v0.k) ∧ w'.cell? ⟨b0, o0 + 1, none⟩ = some (.int .i64 v0.i) ∧ w'.cell? ⟨b0, o0 + 2, none⟩ = some (.string v0.t) ∧ w'.cell? ⟨b0, o0 + 3, none⟩ = some (.int .i64 v1.k) ∧ w'.cell? ⟨b0, o0 + 4, none⟩ = some (.int .i64 v1.i) ∧ w'.cell? ⟨b0, o0 + 5, none⟩ = some (.string v1.t))) (by kernel_rfl) (by simp [go_sem, ↓IntWalk.iteOmega, *]) (fun hHeld => ?_)
          refine wpAnyT_take (i := 0) (oi := ?oi1701) (v := ?v1701) ?hi1701 (by kernel_rfl) (by kernel_rfl) (by kernel_rfl) (by kernel_rfl) (by kernel_rfl) ?hQ1701 ?hy1701 (by assumption) ?_
          case hi1701 => (simp only [List.getElem?_toArray, List.getElem?_cons_succ, List.getElem?_cons_zero]; try rfl)
          case hQ1701 => exact fun _ _ _ h => h
          case hy1701 => (refine Or.inl ⟨by rfl, ?_⟩; intro wq hSw; (try dsimp only at hSw); go_simp; (try rw [if_pos h0n]); (try rw [if_pos h1n]); (try rw [if_pos h0z]); (try rw [if_pos h1z]); (try with_reducible rfl))
          (try simp only [Act.put, List.setIfInBounds_toArray, List.set_cons_zero, List.set_cons_succ])
          refine wpAnyT_take (i := 1) (oi := ?oi1702) (v := ?v1702) ?hi1702 (by kernel_rfl) (by kernel_rfl) (by kernel_rfl) (by kernel_rfl) (by kernel_rfl) ?hQ1702 ?hy1702 (by assumption) ?_
          case hi1702 => (simp only [List.getElem?_toArray, List.getElem?_cons_succ, List.getElem?_cons_zero]; try rfl)
          case hQ1702 => exact fun _ _ _ h => h
          case hy1702 => (refine Or.inl ⟨by rfl, ?_⟩; intro wq hSw; (try dsimp only at hSw); go_simp; (try rw [if_pos h0n]); (try rw [if_pos h1n]); (try rw [if_pos h0z]); (try rw [if_pos h1z]); (try with_reducible rfl))
          (try simp only [Act.put, List.setIfInBounds_toArray, List.set_cons_zero, List.set_cons_succ])
          refine wpAnyT_take (i := 2) (oi := ?oi1703) (v := ?v1703) ?hi1703 (by kernel_rfl) (by kernel_rfl) (by kernel_rfl) (by kernel_rfl) (by kernel_rfl) ?hQ1703 ?hy1703 (by assumption) ?_
          case hi1703 => (simp only [List.getElem?_toArray, List.getElem?_cons_succ, List.getElem?_cons_zero]; try rfl)
          case hQ1703 => exact fun _ _ _ h => h
          case hy1703 => (refine Or.inl ⟨by rfl, ?_⟩; intro wq hSw; (try dsimp only at hSw); go_simp; (try rw [if_pos h0n]); (try rw [if_pos h1n]); (try rw [if_pos h0z]); (try rw [if_pos h1z]); (try with_reducible rfl))
          (try simp only [Act.put, List.setIfInBounds_toArray, List.set_cons_zero, List.set_cons_succ])
          refine wpAnyT_take (i := 3) (oi := ?oi1704) (v := ?v1704) ?hi1704 (by kernel_rfl) (by kernel_rfl) (by kernel_rfl) (by kernel_rfl) (by kernel_rfl) ?hQ1704 ?hy1704 (by assumption) ?_
          case hi1704 => (simp only [List.getElem?_toArray, List.getElem?_cons_succ, List.getElem?_cons_zero]; try rfl)
          case hQ1704 => exact fun _ _ _ h => h
          case hy1704 => (refine Or.inl ⟨by rfl, ?_⟩; intro wq hSw; (try dsimp only at hSw); go_simp; (try rw [if_pos h0n]); (try rw [if_pos h1n]); (try rw [if_pos h0z]); (try rw [if_pos h1z]); (try with_reducible rfl))
          (try simp only [Act.put, List.setIfInBounds_toArray, List.set_cons_zero, List.set_cons_succ])
          refine wpAnyT_take (i := 4) (oi := ?oi1705) (v := ?v1705) ?hi1705 (by kernel_rfl) (by kernel_rfl) (by kernel_rfl) (by kernel_rfl) (by kernel_rfl) ?hQ1705 ?hy1705 (by assumption) ?_
          case hi1705 => (simp only [List.getElem?_toArray, List.getElem?_cons_succ, List.getElem?_cons_zero]; try rfl)
          case hQ1705 => exact fun _ _ _ h => h
          case hy1705 => (refine Or.inl ⟨by rfl, ?_⟩; intro wq hSw; (try dsimp only at hSw); go_simp; (try rw [if_pos h0n]); (try rw [if_pos h1n]); (try rw [if_pos h0z]); (try rw [if_pos h1z]); (try with_reducible rfl))
          (try simp only [Act.put, List.setIfInBounds_toArray, List.set_cons_zero, List.set_cons_succ])
          refine wpAnyT_take (i := 5) (oi := ?oi1706) (v := ?v1706) ?hi1706 (by kernel_rfl) (by kernel_rfl) (by kernel_rfl) (by kernel_rfl) (by kernel_rfl) ?hQ1706 ?hy1706 (by assumption) ?_
          case hi1706 => (simp only [List.getElem?_toArray, List.getElem?_cons_succ, List.getElem?_cons_zero]; try rfl)
          case hQ1706 => exact fun _ _ _ h => h
          case hy1706 => (refine Or.inl ⟨by rfl, ?_⟩; intro wq hSw; (try dsimp only at hSw); go_simp; (try rw [if_pos h0n]); (try rw [if_pos h1n]); (try rw [if_pos h0z]); (try rw [if_pos h1z]); (try with_reducible rfl))
          (try simp only [Act.put, List.setIfInBounds_toArray, List.set_cons_zero, List.set_cons_succ])
          refine wpAnyT_take (i := 6) (oi := ?oi1707) (v := ?v1707) ?hi1707 (by kernel_rfl) (by kernel_rfl) (by kernel_rfl) (by kernel_rfl) (by kernel_rfl) ?hQ1707 ?hy1707 (by assumption) ?_
          case hi1707 => (simp only [List.getElem?_toArray, List.getElem?_cons_succ, List.getElem?_cons_zero]; try rfl)
          case hQ1707 => exact fun _ _ _ h => h
          case hy1707 => (refine Or.inl ⟨by rfl, ?_⟩; intro wq hSw; (try dsimp only at hSw); go_simp; (try rw [if_pos h0n]); (try rw [if_pos h1n]); (try rw [if_pos h0z]); (try rw [if_pos h1z]); (try with_reducible rfl))
          (try simp only [Act.put, List.setIfInBounds_toArray, List.set_cons_zero, List.set_cons_succ])
          refine wpAnyT_take (i := 7) (oi := ?oi1708) (v := ?v1708) ?hi1708 (by kernel_rfl) (by kernel_rfl) (by kernel_rfl) (by kernel_rfl) (by kernel_rfl) ?hQ1708 ?hy1708 (by assumption) ?_
          case hi1708 => (simp only [List.getElem?_toArray, List.getElem?_cons_succ, List.getElem?_cons_zero]; try rfl)
          case hQ1708 => exact fun _ _ _ h => h
          case hy1708 => (refine Or.inl ⟨by rfl, ?_⟩; intro wq hSw; (try dsimp only at hSw); go_simp; (try rw [if_pos h0n]); (try rw [if_pos h1n]); (try rw [if_pos h0z]); (try rw [if_pos h1z]); (try with_reducible rfl))
          (try simp only [Act.put, List.setIfInBounds_toArray, List.set_cons_zero, List.set_cons_succ])
          refine wpAnyT_take (i := 8) (oi := ?oi1709) (v := ?v1709) ?hi1709 (by kernel_rfl) (by kernel_rfl) (by kernel_rfl) (by kernel_rfl) (by kernel_rfl) ?hQ1709 ?hy1709 (by assumption) ?_
          case hi1709 => (simp only [List.getElem?_toArray, List.getElem?_cons_succ, List.getElem?_cons_zero]; try rfl)
          case hQ1709 => exact fun _ _ _ h => h
          case hy1709 => (refine Or.inl ⟨by rfl, ?_⟩; intro wq hSw; (try dsimp only at hSw); go_simp; (try rw [if_pos h0n]); (try rw [if_pos h1n]); (try rw [if_pos h0z]); (try rw [if_pos h1z]); (try with_reducible rfl))
          (try simp only [Act.put, List.setIfInBounds_toArray, List.set_cons_zero, List.set_cons_succ])
          refine wpAnyT_take (i := 9) (oi := ?oi1710) (v := ?v1710) ?hi1710 (by kernel_rfl) (by kernel_rfl) (by kernel_rfl) (by kernel_rfl) (by kernel_rfl) ?hQ1710 ?hy1710 (by assumption) ?_
          case hi1710 => (simp only [List.getElem?_toArray, List.getElem?_cons_succ, List.getElem?_cons_zero]; try rfl)
          case hQ1710 => exact fun _ _ _ h => h
          case hy1710 => (refine Or.inl ⟨by rfl, ?_⟩; intro wq hSw; (try dsimp only at hSw); go_simp; (try rw [if_pos h0n]); (try rw [if_pos h1n]); (try rw [if_pos h0z]); (try rw [if_pos h1z]); (try with_reducible rfl))
          (try simp only [Act.put, List.setIfInBounds_toArray, List.set_cons_zero, List.set_cons_succ])
          refine wpAnyT_ready (rs := [10]) (by kernel_rfl) (by simp) ?_
          refine AllReadyT.cons (o := ?oi1711) ?hi1711 ?ti1711 AllReadyT.nil
          case hi1711 => (simp only [List.getElem?_toArray, List.getElem?_cons_succ, List.getElem?_cons_zero]; try rfl)
          case ti1711 =>
            intro KQ hKQ
            go_simp
            go_at_call 47
            refine Calls.mono (computed_any 17 v0.i v1.i _ (by omega) (by omega) (by omega) (by omega)) ?_
            rintro e w1 ⟨⟨r, rfl, hr⟩, hb1⟩
            obtain ⟨x5, rfl⟩ := hb1.get
            clear hb1
            refine hKQ.out _ _ (by simp [go_sem, ↓IntWalk.iteOmega, *]) (fun hHeld2 => ?_)
            clear hHeld hKQ KQ; have hHeld := hHeld2; clear hHeld2
            (try simp only [Act.put, List.setIfInBounds_toArray, List.set_cons_zero, List.set_cons_succ])
            refine wpAnyT_ready (rs := [11]) (by kernel_rfl) (by simp) ?_
            refine AllReadyT.last (o := ?oi1712) ?hi1712 ?ti1712
            case hi1712 => (simp only [List.getElem?_toArray, List.getElem?_cons_succ, List.getElem?_cons_zero]; try rfl)
            case ti1712 =>
              intro KQ hKQ
              go_simp
              (repeat (simp only [go_sem, ↓IntWalk.iteOmega, ↓reduceIte, Bool.false_eq_true]; (try go_simp)))
              refine hKQ.out _ _ ?_
              clear hKQ KQ hHeld
              (try simp only [Act.put, List.setIfInBounds_toArray, List.set_cons_zero, List.set_cons_succ])
              refine wpAnyT_done (by kernel_rfl) ?_ _
              go_wp2
              refine bodyPost_ret (v := vag r) ?_ rfl ⟨EvP.other HFB.out (by decide) (by decide) (by decide) (by decide) (hr), by repeat (first | exact Ext.refl' _ | assumption | apply Ext.ex' | apply Ext.al | apply Ext.drN | apply Ext.dr)⟩
              simp [results, Tryz.results20, go_sem, ↓IntWalk.iteOmega]
        · have hfb : arLo 18 ≤ (k : Int) ∧ (k : Int) ≤ arHi 18 := hfa
          simp only [show arLo 18 = 1 by decide, show arHi 18 = 1 by decide] at hfb
          clear hfa
          obtain ⟨v0, b0, o0, hv0, hAe0, hb0, p0, p1, p2⟩ := HRl.out.val3 HLK.out (show 0 < k by omega)
          have hs0 : SmV v0 := HSM.out v0 (List.mem_of_getElem? hv0)
          subst hAe0
          simp only [Nat.zero_mul, Nat.add_zero, Nat.one_mul] at p0 p1 p2
          go_wp2_with fail
          refine (are_any _ k lc lk 1 _ HLK.out (HRl.out.ext (by repeat (first | exact Ext.refl' _ | assumption | apply Ext.ex' | apply Ext.al | apply Ext.drN | apply Ext.dr))) hk20).mono ?_
          rintro e w1 ⟨⟨ba, rfl⟩, hb1⟩
          obtain ⟨x2, rfl⟩ := hb1.get
          clear hb1
          cases ba
          · go_wp2_with fail
            refine (rnull7 _).mono ?_
            rintro e w1 ⟨rfl, hb1⟩
            obtain ⟨x3, rfl⟩ := hb1.get
            clear hb1
            go_wp2
            refine bodyPost_ret (v := vag nullV) ?_ rfl ⟨EvP.other HFB.out (by decide) (by decide) (by decide) (by decide) ((by decide)), by repeat (first | exact Ext.refl' _ | assumption | apply Ext.ex' | apply Ext.al | apply Ext.drN | apply Ext.dr)⟩
            simp [results, Tryz.results20, go_sem, ↓IntWalk.iteOmega, nullV]
          go_wp2_with fail
          refine (rint7_any _ _).mono ?_
          rintro e w1 ⟨⟨r, rfl, hr⟩, hb1⟩
          obtain ⟨x3, rfl⟩ := hb1.get
          clear hb1
          go_wp2
          refine bodyPost_ret (v := vag r) ?_ rfl ⟨EvP.other HFB.out (by decide) (by decide) (by decide) (by decide) (hr), by repeat (first | exact Ext.refl' _ | assumption | apply Ext.ex' | apply Ext.al | apply Ext.drN | apply Ext.dr)⟩
          simp [results, Tryz.results20, go_sem, ↓IntWalk.iteOmega]
        · have hfb : arLo 19 ≤ (k : Int) ∧ (k : Int) ≤ arHi 19 := hfa
          simp only [show arLo 19 = 2 by decide, show arHi 19 = 2 by decide] at hfb
          clear hfa
          go_wp2_with fail
          refine (texts_any 19 lA k lc lk _ HLK.out (HRl.out.ext (by repeat (first | exact Ext.refl' _ | assumption | apply Ext.ex' | apply Ext.al | apply Ext.drN | apply Ext.dr))) hk20 HSM.out (by omega) (by omega)).mono ?_
          rintro e w1 ⟨⟨r, rfl, hr⟩, hb1⟩
          obtain ⟨x2, rfl⟩ := hb1.get
          clear hb1
          go_wp2
          refine bodyPost_ret (v := vag r) ?_ rfl ⟨EvP.other HFB.out (by decide) (by decide) (by decide) (by decide) (hr), by repeat (first | exact Ext.refl' _ | assumption | apply Ext.ex' | apply Ext.al | apply Ext.drN | apply Ext.dr)⟩
          simp [results, Tryz.results20, go_sem, ↓IntWalk.iteOmega]
        · have hfb : arLo 20 ≤ (k : Int) ∧ (k : Int) ≤ arHi 20 := hfa
          simp only [show arLo 20 = 1 by decide, show arHi 20 = 1 by decide] at hfb
          clear hfa
          go_wp2_with fail
          refine (texts_any 20 lA k lc lk _ HLK.out (HRl.out.ext (by repeat (first | exact Ext.refl' _ | assumption | apply Ext.ex' | apply Ext.al | apply Ext.drN | apply Ext.dr))) hk20 HSM.out (by omega) (by omega)).mono ?_
          rintro e w1 ⟨⟨r, rfl, hr⟩, hb1⟩
          obtain ⟨x2, rfl⟩ := hb1.get
          clear hb1
          go_wp2
          refine bodyPost_ret (v := vag r) ?_ rfl ⟨EvP.other HFB.out (by decide) (by decide) (by decide) (by decide) (hr), by repeat (first | exact Ext.refl' _ | assumption | apply Ext.ex' | apply Ext.al | apply Ext.drN | apply Ext.dr)⟩
          simp [results, Tryz.results20, go_sem, ↓IntWalk.iteOmega]
        · have hfb : arLo 21 ≤ (k : Int) ∧ (k : Int) ≤ arHi 21 := hfa
          simp only [show arLo 21 = 1 by decide, show arHi 21 = 1 by decide] at hfb
          clear hfa
          obtain ⟨v0, b0, o0, hv0, hAe0, hb0, p0, p1, p2⟩ := HRl.out.val3 HLK.out (show 0 < k by omega)
          have hs0 : SmV v0 := HSM.out v0 (List.mem_of_getElem? hv0)
          subst hAe0
          simp only [Nat.zero_mul, Nat.add_zero, Nat.one_mul] at p0 p1 p2
          rcases hk0 : (v0.k == 0) with _ | _
          · go_wp2_with fail
            refine (rbool_f _).mono ?_
            rintro e w1 ⟨rfl, hb1⟩
            obtain ⟨x2, rfl⟩ := hb1.get
            clear hb1
            go_wp2
            refine bodyPost_ret (v := .agg #[.int .i64 3, .int .i64 0, .string ⟨#[]⟩]) ?_ rfl ⟨EvP.other (r := ⟨3, 0, ⟨#[]⟩⟩) HFB.out (by decide) (by decide) (by decide) (by decide) (by decide), by repeat (first | exact Ext.refl' _ | assumption | apply Ext.ex' | apply Ext.al | apply Ext.drN | apply Ext.dr)⟩
            simp [results, Tryz.results20, go_sem, ↓IntWalk.iteOmega]
          · go_wp2_with fail
            refine (rbool_t _).mono ?_
            rintro e w1 ⟨rfl, hb1⟩
            obtain ⟨x2, rfl⟩ := hb1.get
            clear hb1
            go_wp2
            refine bodyPost_ret (v := .agg #[.int .i64 3, .int .i64 1, .string ⟨#[]⟩]) ?_ rfl ⟨EvP.other (r := ⟨3, 1, ⟨#[]⟩⟩) HFB.out (by decide) (by decide) (by decide) (by decide) (by decide), by repeat (first | exact Ext.refl' _ | assumption | apply Ext.ex' | apply Ext.al | apply Ext.drN | apply Ext.dr)⟩
            simp [results, Tryz.results20, go_sem, ↓IntWalk.iteOmega]
        · have hfb : arLo 22 ≤ (k : Int) ∧ (k : Int) ≤ arHi 22 := hfa
          simp only [show arLo 22 = 3 by decide, show arHi 22 = 3 by decide] at hfb
          clear hfa
          go_wp2_with fail
          refine (chosen11_any 22 lA k lc lk _ HLK.out (HRl.out.ext (by repeat (first | exact Ext.refl' _ | assumption | apply Ext.ex' | apply Ext.al | apply Ext.drN | apply Ext.dr))) hk20 HSM.out (by omega)).mono ?_
          rintro e w1 ⟨⟨r, rfl, hr⟩, hb1⟩
          obtain ⟨x2, rfl⟩ := hb1.get
          clear hb1
          go_wp2
          refine bodyPost_ret (v := vag r) ?_ rfl ⟨EvP.other HFB.out (by decide) (by decide) (by decide) (by decide) (hr), by repeat (first | exact Ext.refl' _ | assumption | apply Ext.ex' | apply Ext.al | apply Ext.drN | apply Ext.dr)⟩
          simp [results, Tryz.results20, go_sem, ↓IntWalk.iteOmega]
        · have hfb : arLo 23 ≤ (k : Int) ∧ (k : Int) ≤ arHi 23 := hfa
          simp only [show arLo 23 = 1 by decide, show arHi 23 = 1099511627776 by decide] at hfb
          clear hfa
          go_wp2_with fail
          refine (chosen11_any 23 lA k lc lk _ HLK.out (HRl.out.ext (by repeat (first | exact Ext.refl' _ | assumption | apply Ext.ex' | apply Ext.al | apply Ext.drN | apply Ext.dr))) hk20 HSM.out (by omega)).mono ?_
          rintro e w1 ⟨⟨r, rfl, hr⟩, hb1⟩
          obtain ⟨x2, rfl⟩ := hb1.get
          clear hb1
          go_wp2
          refine bodyPost_ret (v := vag r) ?_ rfl ⟨EvP.other HFB.out (by decide) (by decide) (by decide) (by decide) (hr), by repeat (first | exact Ext.refl' _ | assumption | apply Ext.ex' | apply Ext.al | apply Ext.drN | apply Ext.dr)⟩
          simp [results, Tryz.results20, go_sem, ↓IntWalk.iteOmega]
        · have hfb : arLo 24 ≤ (k : Int) ∧ (k : Int) ≤ arHi 24 := hfa
          simp only [show arLo 24 = 4 by decide, show arHi 24 = 4 by decide] at hfb
          clear hfa
          go_wp2_with fail
          refine (related_any i lA k lc lk _ HLK.out (HRl.out.ext (by repeat (first | exact Ext.refl' _ | assumption | apply Ext.ex' | apply Ext.al | apply Ext.drN | apply Ext.dr))) hk20 HSM.out (by omega)).mono ?_
          rintro e w1 ⟨⟨r, rfl, hr⟩, hb1⟩
          obtain ⟨x2, rfl⟩ := hb1.get
          clear hb1
          go_wp2
          refine bodyPost_ret (v := vag r) ?_ rfl ⟨EvP.other HFB.out (by decide) (by decide) (by decide) (by decide) (hr), by repeat (first | exact Ext.refl' _ | assumption | apply Ext.ex' | apply Ext.al | apply Ext.drN | apply Ext.dr)⟩
          simp [results, Tryz.results20, go_sem, ↓IntWalk.iteOmega]

end Go.Proofs.YtflhikpihbenaaaGreat
