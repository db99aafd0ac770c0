/- Changed of the reference. -/
import Derived.Test.YtpifjhoelnacgaaGreatCfHo
import Derived.Test.YtpifjhoelnacgaaGreatCfY
import Derived.Test.YtpifjhoelnacgaaGreatCfR
import Derived.Deep.RegionHeld3
set_option linter.unusedSimpArgs false
set_option linter.unusedVariables false
namespace Go.Proofs.YtpifjhoelnacgaaGreat
open Go.RowKit Go.Maps


def ptV (l : List VR) : List Int := l.flatMap fun p => if pvB p.1.v then [p.1.v.1, p.1.v.2] else []
/-- the points of the reference -/
def ptsL (l : List VR) : List Int := 0 :: 1099511627776 :: ptV l
def difD (l : List VR) (since : Int) (f : Int) : Bool := difB (atF (befF l since) f) (atF (nowF l) f)
theorem ptV_drop {l : List VR} {k : Nat} (h : k < l.length) : ptV (l.drop k) = (if pvB l[k].1.v then [l[k].1.v.1, l[k].1.v.2] else []) ++ ptV (l.drop (k + 1)) := by
  unfold ptV; rw [List.drop_eq_getElem_cons h, List.flatMap_cons]
theorem ptsL_rng (l : List VR) : ∀ z ∈ ptsL l, 0 ≤ z ∧ z ≤ 1099511627776 := by
  intro z hz
  rcases List.mem_cons.1 hz with rfl | hz
  · decide
  · rcases List.mem_cons.1 hz with rfl | hz
    · decide
    · obtain ⟨p, hp, hz⟩ := List.mem_flatMap.1 hz
      split at hz
      · rename_i hv
        rw [pvB_iff] at hv
        simp at hz
        omega
      · cases hz
/-- as Outs, of the first k points -/
structure OutsK (t : ByteArray) (ps : List Int) (k : Nat) (D : Int → Bool) (out : List Acc) : Prop where
  of : ∀ a ∈ out, ∃ f ∈ ps.take k, f ≠ 1099511627776 ∧ D f = true ∧ a = (t, (f, toR ps f))
  all : ∀ f ∈ ps.take k, f ≠ 1099511627776 → D f = true → ((t, (f, toR ps f)) : Acc) ∈ out
theorem OutsK.nil (t : ByteArray) (ps : List Int) (D : Int → Bool) : OutsK t ps 0 D [] := ⟨fun a h => (by cases h), fun f h => (by simp at h)⟩
theorem OutsK.skip {t : ByteArray} {ps : List Int} {k : Nat} {D : Int → Bool} {out : List Acc} (h : OutsK t ps k D out) {f : Int} (hT : ps.take (k + 1) = ps.take k ++ [f]) (hs : f ∈ ps.take k ∨ f = 1099511627776 ∨ D f = false) : OutsK t ps (k + 1) D out := by
  refine ⟨fun a ha => ?_, fun g hg hF hD => ?_⟩
  · obtain ⟨g, hg, h1⟩ := h.of a ha
    exact ⟨g, by rw [hT]; exact List.mem_append_left _ hg, h1⟩
  · rw [hT] at hg
    rcases List.mem_append.1 hg with hg | hg
    · exact h.all g hg hF hD
    · have hgf : g = f := by simpa using hg
      subst hgf
      rcases hs with h1 | h1 | h1
      · exact h.all g h1 hF hD
      · exact absurd h1 hF
      · rw [h1] at hD; cases hD
theorem OutsK.add {t : ByteArray} {ps : List Int} {k : Nat} {D : Int → Bool} {out : List Acc} (h : OutsK t ps k D out) {f : Int} (hT : ps.take (k + 1) = ps.take k ++ [f]) (hF : f ≠ 1099511627776) (hD : D f = true) : OutsK t ps (k + 1) D (out ++ [(t, (f, toR ps f))]) := by
  refine ⟨fun a ha => ?_, fun g hg hF hD => ?_⟩
  · rw [hT]
    rcases List.mem_append.1 ha with ha | ha
    · obtain ⟨g, hg, h1⟩ := h.of a ha
      exact ⟨g, List.mem_append_left _ hg, h1⟩
    · exact ⟨f, by simp, hF, hD, by simpa using ha⟩
  · rw [hT] at hg
    rcases List.mem_append.1 hg with hg | hg
    · exact List.mem_append_left _ (h.all g hg hF hD)
    · have hgf : g = f := by simpa using hg
      subst hgf
      simp
theorem bndV_bndA (l : List VR) (since : Int) : bndV l since = bndA (fun p : VR => p.1.v) (fun p => vldB p && inP p.1.s since) (fun p => vldB p && (p.1.s.2 == 1099511627776)) l := by
  unfold bndV bndA
  congr 2
  funext p
  show (vldB p && (inP p.1.s since != (p.1.s.2 == 1099511627776))) = ((vldB p && inP p.1.s since) != (vldB p && (p.1.s.2 == 1099511627776)))
  rcases vldB p <;> rcases inP p.1.s since <;> rcases (p.1.s.2 == 1099511627776) <;> rfl
theorem difD_dif (l : List VR) (since : Int) : Dif (fun p : VR => p.1.v) kyR (fun p => vldB p && inP p.1.s since) (fun p => vldB p && (p.1.s.2 == 1099511627776)) l (difD l since) := by
  intro x
  unfold difD
  rw [difB_iff]
  exact perm_bal (fun p : VR => p.1.v) kyR _ _ l x
theorem chg_stands {t : ByteArray} {l : List VR} {since : Int} {out r : List Acc} (ho : OutsK t (ptsL l) (ptsL l).length (difD l since) out) (hc : CanT r) (hi : ∀ s x, inT r s x = inT out s x) : Stands (chgL t l since) r := by
  have ho' : Outs t (ptsL l) (difD l since) out := ⟨fun a ha => by have := ho.of a ha; rwa [List.take_length] at this, fun f hf => by have := ho.all f; rw [List.take_length] at this; exact this hf⟩
  refine ⟨hc, fun s x => ?_⟩
  rw [hi, outs_in (difD_dif l since) ho' (by simp [ptsL]) (ptsL_rng l) ?_ s x]
  · unfold chgL
    rw [bndV_bndA]
    exact (slices_in t (difD_dif l since) s x).symm
  · intro p hp hv
    obtain ⟨q, hq, rfl⟩ := List.mem_map.1 hp
    have hq' := (List.mem_filter.1 hq).1
    have hm : ∀ z, z ∈ [q.1.v.1, q.1.v.2] → z ∈ ptsL l := fun z hz => by
      refine List.mem_cons_of_mem _ (List.mem_cons_of_mem _ (List.mem_flatMap.2 ⟨q, hq', ?_⟩))
      rw [if_pos hv]; exact hz
    exact ⟨hm _ (by simp), hm _ (by simp)⟩
theorem own_lit2 (w : World) (x y : Int) : (w.alloc (.cells #[.int .i64 x, .int .i64 y] 3)).ownsRow w.heap.size 3 1 (.slice (some ⟨w.heap.size, 0, none⟩) 2 2) 2 (ic [x, y]) :=
  ⟨rfl, .inr ⟨w.heap.size, 2, #[.int .i64 x, .int .i64 y], rfl, Nat.le_refl _, heap_alloc_new _ _, Nat.le_refl _, by decide, rfl, rfl⟩⟩
theorem keyI : Keyed Tryz.prog 3 := int_keyed Tryz.underlying3
theorem own_ne_map {w : World} {base e size n b k : Nat} {v : Value} {xs : List Value} {kt : TypeId} {D : DataW Value} (h : w.ownsRow base e size v n xs) (hm : w.ownsMap Tryz.prog kt heldR b k D) : v.ownBlock = none ∨ v.ownBlock ≠ some b := by
  cases hv : v.ownBlock with
  | none => exact .inl rfl
  | some g =>
    refine .inr fun e => ?_
    obtain rfl := Option.some.inj e
    obtain ⟨_, _, c, fz, h1⟩ := row_block h hv
    obtain ⟨o, h2, h3⟩ := map_cells hm g rfl
    rw [h1] at h2
    cases h2
    cases h3
def toK (ps : List Int) (j : Nat) (f : Int) : Int := (ps.take j).foldl (fun t x => if f < x then min t x else t) 1099511627776
theorem toK_succ {ps : List Int} {j : Nat} (h : j < ps.length) (f : Int) : toK ps (j + 1) f = if f < ps[j] then min (toK ps j f) ps[j] else toK ps j f := by
  unfold toK; rw [List.take_succ_eq_append_getElem h, List.foldl_append]; rfl
theorem toK_all (ps : List Int) (f : Int) : toK ps ps.length f = toR ps f := by unfold toK toR; rw [List.take_length]


def ChgR (W1 : World) (tn : ByteArray) (pts : List Int) (n : Nat) (D : Int → Bool) (v i : Value) (wr : World) : Prop :=
  ∃ (k : Nat) (acc : List Acc) (nc : Nat) (Dm : DataW Value), i = .int .i64 k ∧ k ≤ pts.length ∧ acc.length ≤ k ∧ nc ≤ k ∧ wr.ownsMap Tryz.prog 3 heldR W1.heap.size nc Dm ∧ IsMap Dm ∧ Hid (∀ id : Int, 0 ≤ id → id ≤ 1099511627776 → Dm.atKey (.int .i64 id) (.held (.bool false)) = .held (.bool (decide (id ∈ pts.take k)))) ∧ wr.ownsRow W1.heap.size 32 3 v acc.length (acl acc) ∧ Ext W1 wr ∧ Hid (OutsK tn pts k D acc)
theorem ChgR.mk {W1 : World} {tn : ByteArray} {pts : List Int} {n : Nat} {D : Int → Bool} {v i : Value} {wr : World} (h : ∃ (k : Nat) (acc : List Acc) (nc : Nat) (Dm : DataW Value), i = .int .i64 k ∧ k ≤ pts.length ∧ acc.length ≤ k ∧ nc ≤ k ∧ wr.ownsMap Tryz.prog 3 heldR W1.heap.size nc Dm ∧ IsMap Dm ∧ Hid (∀ id : Int, 0 ≤ id → id ≤ 1099511627776 → Dm.atKey (.int .i64 id) (.held (.bool false)) = .held (.bool (decide (id ∈ pts.take k)))) ∧ wr.ownsRow W1.heap.size 32 3 v acc.length (acl acc) ∧ Ext W1 wr ∧ Hid (OutsK tn pts k D acc)) : ChgR W1 tn pts n D v i wr := h
set_option maxRecDepth 100000 in
set_option maxHeartbeats 8000000 in
theorem rchanged_any (tn : ByteArray) (A : Option Addr) (n c : Nat) (l : List VR) (since : Int) (w : World) (hn : n = l.length) (hA : Rd w 9 A n (vev l)) (hok : ∀ p ∈ l, VROk w p) (hl : l.length ≤ 65536) :
    Calls Tryz.prog 10 #[.string tn, .slice A n c, .int .i64 since] w fun e w' => ∃ A' c' r, e = .returned (.slice A' r.length c') ∧ Ext w w' ∧ Rd w' 3 A' r.length (acl r) ∧ Stands (chgL tn l since) r := by
  subst hn
  have HOK := Lib.hid hok
  clear hok
  have hmm := @run_makeMap Tryz.prog
  go_enter Tryz.func10, Tryz.ntmps10
  go_wp2
  go_loopw [7, 21] (fun v i wr => ∃ (k : Nat) (pts : List Int), i = .int .i64 k ∧ k ≤ l.length ∧ pts.length ≤ 2 + 2 * k ∧ Hid (ptsL l = pts ++ ptV (l.drop k)) ∧ wr.ownsRow w.heap.size 3 1 v pts.length (ic pts) ∧ Ext w wr) (fun _ i _ => l.length - (intOf i).toNat)
  case atStart => exact ⟨0, [0, 1099511627776], rfl, Nat.zero_le _, Nat.le_refl _, Lib.hid rfl, own_lit2 w 0 1099511627776, by repeat (first | exact Ext.refl' _ | assumption | apply Ext.ex' | apply Ext.al | apply Ext.drN | apply Ext.dr)⟩
  case round =>
    obtain ⟨k, pts, rfl, hk, hpl, HP, hrow, hE⟩ := hrel
    obtain ⟨A4, kc, rfl, hkc, hkm⟩ := row_formH hrow
    by_cases hlt : k < l.length
    · obtain ⟨b, o, rfl, hbw, hc⟩ := ((show Rd w 9 A l.length (evl (l.map (·.1))) from hA).ext hE).ve (by simp) (k := k) (by simpa using hlt)
      simp only [List.getElem_map] at hc
      have HD := Lib.hid (ptV_drop hlt)
      generalize l[k] = p at hc HD
      obtain ⟨V, r⟩ := p
      simp only at hc HD
      have c0 := hc 0 _ rfl
      have c1 := hc 1 _ rfl
      have c2 := hc 2 _ rfl
      have c3 := hc 3 _ rfl
      have c4 := hc 4 _ rfl
      have c5 := hc 5 _ rfl
      have c6 := hc 6 _ rfl
      have c7 := hc 7 _ rfl
      have c8 := hc 8 _ rfl
      simp only [Nat.add_zero] at c0
      clear hc
      have HV := Lib.hid (fun w => cperiod_any V.v w)
      rcases hv : pvB V.v with _ | _
      · rw [hv] at HV
        have HP2 : Hid (ptsL l = pts ++ ptV (l.drop (k + 1))) := Lib.hid (by rw [HP.out, HD.out, hv]; rfl)
        clear hv
        go_wp2_with (go_at_call 26; (with_reducible refine Calls.mono (HV.out _) ?_); rintro e w1 ⟨rfl, hb1⟩; obtain ⟨y1, rfl⟩ := hb1.get; clear hb1)
        go_roundw
        case rel => exact ⟨k + 1, pts, by go_num, by omega, by omega, HP2, ownsRow_ext hrow (by repeat (first | exact Ext.refl' _ | assumption | apply Ext.ex' | apply Ext.al | apply Ext.drN | apply Ext.dr)), hE.tr (by repeat (first | exact Ext.refl' _ | assumption | apply Ext.ex' | apply Ext.al | apply Ext.drN | apply Ext.dr))⟩
        case measure => simp [intOf]; omega
      · rw [hv] at HV
        have HP2 : Hid (ptsL l = (pts ++ [V.v.1, V.v.2]) ++ ptV (l.drop (k + 1))) := Lib.hid (by rw [HP.out, HD.out, hv]; simp)
        clear hv
        go_wp2_with (first | (go_at_call 26; (with_reducible refine Calls.mono (HV.out _) ?_); rintro e w1 ⟨rfl, hb1⟩; obtain ⟨y1, rfl⟩ := hb1.get; clear hb1) | (at_builtin; refine wpList_app _ rfl (.tmp 28) (.tmp 35) rfl elInt w (hE.tr (by repeat (first | exact Ext.refl' _ | assumption | apply Ext.ex' | apply Ext.al | apply Ext.drN | apply Ext.dr))) (.slice A4 pts.length kc) pts.length (ic pts) rfl (World.ownsRow.alloc (by exact ownsRow_ext hrow (by repeat (first | exact Ext.refl' _ | assumption | apply Ext.ex' | apply Ext.al | apply Ext.drN | apply Ext.dr))) _) _ 2 2 (ic [V.v.1, V.v.2]) rfl (Rd.lit _ #[.int .i64 V.v.1, .int .i64 V.v.2] _ 2 1 rfl (by simp [size_ext])) (oneCell_ic _) (by unfold maxLen; omega) (by omega) ?_; intro v' x' hown' _))
        go_roundw
        case rel => exact ⟨k + 1, pts ++ [V.v.1, V.v.2], by go_num, by omega, by simp; omega, HP2, by rw [List.length_append, show ic (pts ++ [V.v.1, V.v.2]) = ic pts ++ ic [V.v.1, V.v.2] by simp [ic]]; exact hown', Ext.ex _ _⟩
        case measure => simp [intOf]; omega
    · have HPT : Hid (ptsL l = pts) := Lib.hid (by rw [HP.out, List.drop_eq_nil_of_le (Nat.le_of_not_lt hlt)]; simp [ptV])
      have hRP := Rd.of_own hrow
      clear HP hrow
      obtain ⟨W1, hW1⟩ : ∃ W1, W1 = wr := ⟨_, rfl⟩
      subst hW1
      have HRG : Hid (∀ z ∈ pts, 0 ≤ z ∧ z ≤ 1099511627776) := Lib.hid (by rw [← HPT.out]; exact ptsL_rng l)
      go_wp2
      go_loopw [10, 41] (fun v i wr => ChgR W1 tn pts l.length (difD l since) v i wr) (fun _ i _ => pts.length - (intOf i).toNat)
      case atStart => exact ChgR.mk ⟨0, [], 0, .map [], rfl, Nat.zero_le _, Nat.le_refl _, Nat.le_refl _, World.ownsMap_made W1 _ _ _, isMap_empty, Lib.hid (fun id _ _ => by simp; rfl), World.ownsRow_nil _ _ _ _, by repeat (first | exact Ext.refl' _ | assumption | apply Ext.ex' | apply Ext.al | apply Ext.drN | apply Ext.dr), Lib.hid (OutsK.nil _ _ _)⟩
      case round =>
        unfold ChgR at hrel
        obtain ⟨k, acc, nc, Dm, rfl, hk, hal, hnc, hown, hD, HAT, hrow, hE2, HO⟩ := hrel
        obtain ⟨A8, k8, rfl, hk8, hk8m⟩ := row_formH hrow
        have hws := hown.lt
        by_cases hlt2 : k < pts.length
        · obtain ⟨bp, op, rfl, hbp, e0⟩ := (hRP.ext hE2).int hlt2
          have HT := Lib.hid (List.take_succ_eq_append_getElem hlt2)
          have hfr := HRG.out pts[k] (List.getElem_mem hlt2)
          generalize pts[k] = f at e0 HT hfr
          have hid : (Lit.int .i64 f).wf = true := by
            have h1 : IntKind.i64.min ≤ f := Int.le_trans (by decide) hfr.1
            have h2 : f ≤ IntKind.i64.max := Int.le_trans hfr.2 (by decide)
            simp only [Lit.wf, Bool.and_eq_true, decide_eq_true_eq]
            exact ⟨h1, h2⟩
          have hkey := keyOf_int_mk (P := Tryz.prog) Tryz.underlying3 hid
          clear hid
          have HAK := Lib.hid (HAT.out f hfr.1 hfr.2)
          rcases hm : decide (f ∈ pts.take k) with _ | _
          · have hlk : (Instr.lookup 51 (.map (some W1.heap.size)) (.int .i64 f) false).run Tryz.prog wr = .ok (.bool false) wr := look_held hown keyI Tryz.underlying51 (Tryz.zeroValue4 _) hkey (by rw [HAK.out, hm])
            have hne := own_ne_map hrow hown
            have hnm8 : some W1.heap.size ≠ (Value.slice A8 acc.length k8).ownBlock := fun e => by
              rcases hne with h | h
              · rw [h] at e; cases e
              · exact h e.symm
            clear HAK hm
            go_wp2_with (at_mapUpdate; refine wpList_mapUpdate_own _ rfl _ _ _ 51 rfl 3 4 keyI Tryz.underlying51 _ W1.heap.size nc Dm rfl hown (by unfold maxLen; omega) _ _ (.int .i64 f) rfl rfl hkey (.held (.bool true)) [] rfl ?_; intro w2 hown3 hg3)
            have hrow2 := hrow.kept hg3 hne
            have hE3 : Ext W1 w2 := Below.grown hE2 hg3 hE2.size (fun j hj => by cases hj; exact Nat.le_refl _)
            have hD3 := IsMap.put hD (.int .i64 f) (.held (.bool true))
            have HAT3 : Hid (∀ id : Int, 0 ≤ id → id ≤ 1099511627776 → (Dm.put (.int .i64 f) (.held (.bool true))).atKey (.int .i64 id) (.held (.bool false)) = .held (.bool (decide (id ∈ pts.take (k + 1))))) := Lib.hid (fun id h0 h1 => by
              rw [HT.out]
              by_cases hzi : id = f
              · subst hzi
                rw [atKey_put_same hD (by trivial)]
                simp
              · rw [atKey_put_other (by simp; exact hzi), HAT.out id h0 h1]
                simp [hzi])
            clear hrow hlk hown hD HAT hg3 hne hE2 hws hbp
            have hE2 := hE3
            have hE2w := hE.tr hE3
            clear hE3
            go_loopw [14, 52] (fun v i wr2 => ∃ (j : Nat) (tq : Int), i = .int .i64 j ∧ j ≤ pts.length ∧ v = .int .i64 tq ∧ Hid (tq = toK pts j f) ∧ wr2 = w2) (fun _ i _ => pts.length - (intOf i).toNat)
            case atStart => exact ⟨0, 1099511627776, rfl, Nat.zero_le _, rfl, Lib.hid rfl, rfl⟩
            case round =>
              obtain ⟨j, tq, rfl, hj, rfl, HTQ, rfl⟩ := hrel
              by_cases hlt3 : j < pts.length
              · obtain ⟨bq, oq, hbq, hbqs, e1⟩ := (hRP.ext hE2).int hlt3
                injection hbq with hbq
                injection hbq with hbq1 hbq2
                subst hbq1 hbq2
                have HS := Lib.hid (toK_succ hlt3 f)
                generalize pts[j] = z at e1 HS
                by_cases hz : f < z
                · have HN : Hid (min tq z = toK pts (j + 1) f) := Lib.hid (by rw [HS.out, if_pos hz, HTQ.out])
                  go_wp2
                  go_roundw
                  case rel => exact ⟨j + 1, min tq z, by go_num, by omega, rfl, HN, trivial⟩
                  case measure => simp [intOf]; omega
                · have HN : Hid (tq = toK pts (j + 1) f) := Lib.hid (by rw [HS.out, if_neg hz, HTQ.out])
                  go_wp2
                  go_roundw
                  case rel => exact ⟨j + 1, tq, by go_num, by omega, rfl, HN, trivial⟩
                  case measure => simp [intOf]; omega
              · have hjl : j = pts.length := by omega
                have HTQ : Hid (tq = toR pts f) := Lib.hid (by rw [HTQ.out, hjl, toK_all])
                clear hjl hj
                by_cases hF : f = 1099511627776
                · have HO2 := Lib.hid (HO.out.skip HT.out (.inr (.inl hF)))
                  have hFb : (f == 1099511627776) = true := by simpa using hF
                  clear HO hF
                  go_wp2
                  go_roundw
                  case rel => exact ChgR.mk ⟨k + 1, acc, nc + 1, _, by go_num, by omega, by omega, by omega, hown3, hD3, HAT3, hrow2, hE2, HO2⟩
                  case measure => simp [intOf]; omega
                · have hFb : (f == 1099511627776) = false := by simpa using hF
                  have HAT1 := Lib.hid (fun w h => rat_any A l.length c l since f w rfl h (by omega))
                  have HAT2 := Lib.hid (fun w h => rat_any A l.length c l (-1) f w rfl h (by omega))
                  by_cases hs : since < 0
                  · have HDIF : Hid (difD l since f = difB [] (ratF l (-1) f)) := Lib.hid (by unfold difD; rw [ratF_now]; rw [befF_neg l since hs]; rfl)
                    have HDI : Hid (∀ W, Ext w W → ∀ A5 c5, ([] : List VR).length ≤ c5 → c5 ≤ maxLen → Rd W 9 A5 ([] : List VR).length (vev []) → ∀ A6 c6, (ratF l (-1) f).length ≤ c6 → c6 ≤ maxLen → Rd W 9 A6 (ratF l (-1) f).length (vev (ratF l (-1) f)) → Calls Tryz.prog 28 #[.slice A5 0 c5, .slice A6 (ratF l (-1) f).length c6] W fun e w' => e = .returned (.bool (difD l since f)) ∧ Ext W w') := Lib.hid (fun W hEx A5 c5 h1 h2 h3 A6 c6 h4 h5 h6 => by
                      rw [HDIF.out]
                      exact rdiffer_any A5 A6 _ _ c5 c6 _ _ W (by rfl) rfl h1 h2 h4 h5 h3 h6 (fun p hp => by cases hp) (fun p hp => (HOK.out p (List.mem_filter.1 hp).1).ext hEx) (by simp) (by have := List.length_filter_le (fun p => rselB p (-1) f) l; unfold ratF; omega))
                    clear HDIF
                    have hnil : ([] : List VR).length ≤ 0 := Nat.le_refl _
                    rcases hd : difD l since f with _ | _
                    · rw [hd] at HDI
                      have HO2 := Lib.hid (HO.out.skip HT.out (.inr (.inr hd)))
                      clear hd
                      go_wp2_with (first | (go_at_call 27; (with_reducible refine Calls.mono (HAT1.out _ (hA.ext (hE2w.tr (by repeat (first | exact Ext.refl' _ | assumption | apply Ext.ex' | apply Ext.al | apply Ext.drN | apply Ext.dr))))) ?_); rintro e w1 ⟨A5, c5, rfl, hc5, hm5, hb1, hR5⟩; obtain ⟨y5, rfl⟩ := hb1.get; clear hb1) | (go_at_call 27; (with_reducible refine Calls.mono (HAT2.out _ (hA.ext (hE2w.tr (by repeat (first | exact Ext.refl' _ | assumption | apply Ext.ex' | apply Ext.al | apply Ext.drN | apply Ext.dr))))) ?_); rintro e w1 ⟨A6, c6, rfl, hc6, hm6, hb1, hR6⟩; obtain ⟨y6, rfl⟩ := hb1.get; clear hb1) | (go_at_call 28; (refine Calls.mono (HDI.out _ (hE2w.tr (by repeat (first | exact Ext.refl' _ | assumption | apply Ext.ex' | apply Ext.al | apply Ext.drN | apply Ext.dr))) none 0 hnil (by unfold maxLen; omega) Rd.nil A6 c6 hc6 hm6 (hR6.ext (by repeat (first | exact Ext.refl' _ | assumption | apply Ext.ex' | apply Ext.al | apply Ext.drN | apply Ext.dr)))) ?_); rintro e w1 ⟨rfl, hb1⟩; obtain ⟨y7, rfl⟩ := hb1.get; clear hb1))
                      go_roundw
                      case rel => exact ChgR.mk ⟨k + 1, acc, nc + 1, _, by go_num, by omega, by omega, by omega, hown3.kept (ext_grown (by repeat (first | exact Ext.refl' _ | assumption | apply Ext.ex' | apply Ext.al | apply Ext.drN | apply Ext.dr))) (by simp), hD3, HAT3, ownsRow_ext hrow2 (by repeat (first | exact Ext.refl' _ | assumption | apply Ext.ex' | apply Ext.al | apply Ext.drN | apply Ext.dr)), hE2.tr (by repeat (first | exact Ext.refl' _ | assumption | apply Ext.ex' | apply Ext.al | apply Ext.drN | apply Ext.dr)), HO2⟩
                      case measure => simp [intOf]; omega
                    · rw [hd] at HDI
                      have HO2 : Hid (OutsK tn pts (k + 1) (difD l since) (acc ++ [(tn, (f, tq))])) := Lib.hid (by rw [HTQ.out]; exact HO.out.add HT.out hF hd)
                      clear hd
                      go_wp2_with (first | (go_at_call 27; (with_reducible refine Calls.mono (HAT1.out _ (hA.ext (hE2w.tr (by repeat (first | exact Ext.refl' _ | assumption | apply Ext.ex' | apply Ext.al | apply Ext.drN | apply Ext.dr))))) ?_); rintro e w1 ⟨A5, c5, rfl, hc5, hm5, hb1, hR5⟩; obtain ⟨y5, rfl⟩ := hb1.get; clear hb1) | (go_at_call 27; (with_reducible refine Calls.mono (HAT2.out _ (hA.ext (hE2w.tr (by repeat (first | exact Ext.refl' _ | assumption | apply Ext.ex' | apply Ext.al | apply Ext.drN | apply Ext.dr))))) ?_); rintro e w1 ⟨A6, c6, rfl, hc6, hm6, hb1, hR6⟩; obtain ⟨y6, rfl⟩ := hb1.get; clear hb1) | (go_at_call 28; (refine Calls.mono (HDI.out _ (hE2w.tr (by repeat (first | exact Ext.refl' _ | assumption | apply Ext.ex' | apply Ext.al | apply Ext.drN | apply Ext.dr))) none 0 hnil (by unfold maxLen; omega) Rd.nil A6 c6 hc6 hm6 (hR6.ext (by repeat (first | exact Ext.refl' _ | assumption | apply Ext.ex' | apply Ext.al | apply Ext.drN | apply Ext.dr)))) ?_); rintro e w1 ⟨rfl, hb1⟩; obtain ⟨y7, rfl⟩ := hb1.get; clear hb1) | (at_builtin; refine wpList_app _ rfl (.tmp 76) (.tmp 82) rfl elAcc W1 (hE2.tr (by repeat (first | exact Ext.refl' _ | assumption | apply Ext.ex' | apply Ext.al | apply Ext.drN | apply Ext.dr))) (.slice A8 acc.length k8) acc.length (acl acc) rfl (World.ownsRow.alloc (by exact ownsRow_ext hrow2 (by repeat (first | exact Ext.refl' _ | assumption | apply Ext.ex' | apply Ext.al | apply Ext.drN | apply Ext.dr))) _) _ 1 1 (ac (tn, (f, tq))) rfl (Rd.lit _ #[.string tn, .int .i64 f, .int .i64 tq] _ 1 3 rfl (by simp [size_ext])) (by have := oneCell_acl [(tn, (f, tq))]; rwa [acl_one] at this) (by unfold maxLen; omega) (by omega) ?_; intro v' x' hown' hgq))
                      go_roundw
                      case rel => exact ChgR.mk ⟨k + 1, acc ++ [(tn, (f, tq))], nc + 1, _, by go_num, by omega, by simp; omega, by omega, ((hown3.kept (ext_grown (show Ext wr _ from (by repeat (first | exact Ext.refl' _ | assumption | apply Ext.ex' | apply Ext.al | apply Ext.drN | apply Ext.dr)))) (by simp)).kept hgq hnm8), hD3, HAT3, by rw [List.length_append, List.length_singleton, acl_append, acl_one]; exact hown', Ext.ex _ _, HO2⟩
                      case measure => simp [intOf]; omega
                  · have HDIF : Hid (difD l since f = difB (ratF l since f) (ratF l (-1) f)) := Lib.hid (by unfold difD; rw [ratF_now]; rw [ratF_was l since f (by omega)])
                    have HDI : Hid (∀ W, Ext w W → ∀ A5 c5, (ratF l since f).length ≤ c5 → c5 ≤ maxLen → Rd W 9 A5 (ratF l since f).length (vev (ratF l since f)) → ∀ A6 c6, (ratF l (-1) f).length ≤ c6 → c6 ≤ maxLen → Rd W 9 A6 (ratF l (-1) f).length (vev (ratF l (-1) f)) → Calls Tryz.prog 28 #[.slice A5 (ratF l since f).length c5, .slice A6 (ratF l (-1) f).length c6] W fun e w' => e = .returned (.bool (difD l since f)) ∧ Ext W w') := Lib.hid (fun W hEx A5 c5 h1 h2 h3 A6 c6 h4 h5 h6 => by
                      rw [HDIF.out]
                      exact rdiffer_any A5 A6 _ _ c5 c6 _ _ W rfl rfl h1 h2 h4 h5 h3 h6 (fun p hp => (HOK.out p (List.mem_filter.1 hp).1).ext hEx) (fun p hp => (HOK.out p (List.mem_filter.1 hp).1).ext hEx) (by have := List.length_filter_le (fun p => rselB p since f) l; unfold ratF; omega) (by have := List.length_filter_le (fun p => rselB p (-1) f) l; unfold ratF; omega))
                    clear HDIF
                    skip
                    rcases hd : difD l since f with _ | _
                    · rw [hd] at HDI
                      have HO2 := Lib.hid (HO.out.skip HT.out (.inr (.inr hd)))
                      clear hd
                      go_wp2_with (first | (go_at_call 27; (with_reducible refine Calls.mono (HAT1.out _ (hA.ext (hE2w.tr (by repeat (first | exact Ext.refl' _ | assumption | apply Ext.ex' | apply Ext.al | apply Ext.drN | apply Ext.dr))))) ?_); rintro e w1 ⟨A5, c5, rfl, hc5, hm5, hb1, hR5⟩; obtain ⟨y5, rfl⟩ := hb1.get; clear hb1) | (go_at_call 27; (with_reducible refine Calls.mono (HAT2.out _ (hA.ext (hE2w.tr (by repeat (first | exact Ext.refl' _ | assumption | apply Ext.ex' | apply Ext.al | apply Ext.drN | apply Ext.dr))))) ?_); rintro e w1 ⟨A6, c6, rfl, hc6, hm6, hb1, hR6⟩; obtain ⟨y6, rfl⟩ := hb1.get; clear hb1) | (go_at_call 28; (refine Calls.mono (HDI.out _ (hE2w.tr (by repeat (first | exact Ext.refl' _ | assumption | apply Ext.ex' | apply Ext.al | apply Ext.drN | apply Ext.dr))) A5 c5 hc5 hm5 (hR5.ext (by repeat (first | exact Ext.refl' _ | assumption | apply Ext.ex' | apply Ext.al | apply Ext.drN | apply Ext.dr))) A6 c6 hc6 hm6 (hR6.ext (by repeat (first | exact Ext.refl' _ | assumption | apply Ext.ex' | apply Ext.al | apply Ext.drN | apply Ext.dr)))) ?_); rintro e w1 ⟨rfl, hb1⟩; obtain ⟨y7, rfl⟩ := hb1.get; clear hb1))
                      go_roundw
                      case rel => exact ChgR.mk ⟨k + 1, acc, nc + 1, _, by go_num, by omega, by omega, by omega, hown3.kept (ext_grown (by repeat (first | exact Ext.refl' _ | assumption | apply Ext.ex' | apply Ext.al | apply Ext.drN | apply Ext.dr))) (by simp), hD3, HAT3, ownsRow_ext hrow2 (by repeat (first | exact Ext.refl' _ | assumption | apply Ext.ex' | apply Ext.al | apply Ext.drN | apply Ext.dr)), hE2.tr (by repeat (first | exact Ext.refl' _ | assumption | apply Ext.ex' | apply Ext.al | apply Ext.drN | apply Ext.dr)), HO2⟩
                      case measure => simp [intOf]; omega
                    · rw [hd] at HDI
                      have HO2 : Hid (OutsK tn pts (k + 1) (difD l since) (acc ++ [(tn, (f, tq))])) := Lib.hid (by rw [HTQ.out]; exact HO.out.add HT.out hF hd)
                      clear hd
                      go_wp2_with (first | (go_at_call 27; (with_reducible refine Calls.mono (HAT1.out _ (hA.ext (hE2w.tr (by repeat (first | exact Ext.refl' _ | assumption | apply Ext.ex' | apply Ext.al | apply Ext.drN | apply Ext.dr))))) ?_); rintro e w1 ⟨A5, c5, rfl, hc5, hm5, hb1, hR5⟩; obtain ⟨y5, rfl⟩ := hb1.get; clear hb1) | (go_at_call 27; (with_reducible refine Calls.mono (HAT2.out _ (hA.ext (hE2w.tr (by repeat (first | exact Ext.refl' _ | assumption | apply Ext.ex' | apply Ext.al | apply Ext.drN | apply Ext.dr))))) ?_); rintro e w1 ⟨A6, c6, rfl, hc6, hm6, hb1, hR6⟩; obtain ⟨y6, rfl⟩ := hb1.get; clear hb1) | (go_at_call 28; (refine Calls.mono (HDI.out _ (hE2w.tr (by repeat (first | exact Ext.refl' _ | assumption | apply Ext.ex' | apply Ext.al | apply Ext.drN | apply Ext.dr))) A5 c5 hc5 hm5 (hR5.ext (by repeat (first | exact Ext.refl' _ | assumption | apply Ext.ex' | apply Ext.al | apply Ext.drN | apply Ext.dr))) A6 c6 hc6 hm6 (hR6.ext (by repeat (first | exact Ext.refl' _ | assumption | apply Ext.ex' | apply Ext.al | apply Ext.drN | apply Ext.dr)))) ?_); rintro e w1 ⟨rfl, hb1⟩; obtain ⟨y7, rfl⟩ := hb1.get; clear hb1) | (at_builtin; refine wpList_app _ rfl (.tmp 76) (.tmp 82) rfl elAcc W1 (hE2.tr (by repeat (first | exact Ext.refl' _ | assumption | apply Ext.ex' | apply Ext.al | apply Ext.drN | apply Ext.dr))) (.slice A8 acc.length k8) acc.length (acl acc) rfl (World.ownsRow.alloc (by exact ownsRow_ext hrow2 (by repeat (first | exact Ext.refl' _ | assumption | apply Ext.ex' | apply Ext.al | apply Ext.drN | apply Ext.dr))) _) _ 1 1 (ac (tn, (f, tq))) rfl (Rd.lit _ #[.string tn, .int .i64 f, .int .i64 tq] _ 1 3 rfl (by simp [size_ext])) (by have := oneCell_acl [(tn, (f, tq))]; rwa [acl_one] at this) (by unfold maxLen; omega) (by omega) ?_; intro v' x' hown' hgq))
                      go_roundw
                      case rel => exact ChgR.mk ⟨k + 1, acc ++ [(tn, (f, tq))], nc + 1, _, by go_num, by omega, by simp; omega, by omega, ((hown3.kept (ext_grown (show Ext wr _ from (by repeat (first | exact Ext.refl' _ | assumption | apply Ext.ex' | apply Ext.al | apply Ext.drN | apply Ext.dr)))) (by simp)).kept hgq hnm8), hD3, HAT3, by rw [List.length_append, List.length_singleton, acl_append, acl_one]; exact hown', Ext.ex _ _, HO2⟩
                      case measure => simp [intOf]; omega
          · have hlk : (Instr.lookup 51 (.map (some W1.heap.size)) (.int .i64 f) false).run Tryz.prog wr = .ok (.bool true) wr := look_held hown keyI Tryz.underlying51 (Tryz.zeroValue4 _) hkey (by rw [HAK.out, hm])
            have HO2 := Lib.hid (HO.out.skip HT.out (.inl (of_decide_eq_true hm)))
            have HAT2 : Hid (∀ id : Int, 0 ≤ id → id ≤ 1099511627776 → Dm.atKey (.int .i64 id) (.held (.bool false)) = .held (.bool (decide (id ∈ pts.take (k + 1))))) := Lib.hid (fun id h0 h1 => by
              rw [HAT.out id h0 h1, HT.out]
              congr 2
              refine bool_eq ?_
              simp only [decide_eq_true_eq, List.mem_append, List.mem_singleton]
              exact ⟨.inl, fun h => h.elim (fun z => z) fun e => e ▸ of_decide_eq_true hm⟩)
            clear HAK hm HO HAT HT
            go_wp2
            go_roundw
            case rel => exact ChgR.mk ⟨k + 1, acc, nc, Dm, by go_num, by omega, by omega, by omega, hown, hD, HAT2, hrow, hE2, HO2⟩
            case measure => simp [intOf]; omega
        · have hkp : k = pts.length := by omega
          have HFN : Hid (∀ r, CanT r → (∀ s x, inT r s x = inT acc s x) → Stands (chgL tn l since) r) := Lib.hid (fun r h1 h2 => chg_stands (by rw [HPT.out]; rw [← hkp]; exact HO.out) h1 h2)
          have hRo := Rd.of_own hrow
          have HMG := Lib.hid (fun w h => rmerge_any A8 acc.length k8 acc w rfl h (by omega))
          clear hrow HO HAT hD hkp
          go_wp2_with fail
          refine Calls.mono (HMG.out _ hRo) ?_
          rintro e w1 ⟨A9, c9, r, rfl, hb1, hR9, hcan, hin⟩
          go_wp2
          go_ret
          exact ⟨A9, c9, r, rfl, hE.tr (hE2.tr hb1), hR9, HFN.out r hcan hin⟩

end Go.Proofs.YtpifjhoelnacgaaGreat
