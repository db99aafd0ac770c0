/- The walk of the law SpanSlices. -/
import Derived.Test.YtogfageapejmpaaSpG
set_option linter.unusedSimpArgs false
set_option linter.unusedVariables false
namespace Go.Proofs.Ytogfageapejmpaa
open Go.RowKit


theorem pairs_mem {x y : Int} : ∀ {ps : List Int}, ps.Pairwise (· < ·) → (x, y) ∈ pairsF ps → x ∈ ps ∧ y ∈ ps ∧ x < y ∧ ∀ b ∈ ps, ¬ (x < b ∧ b < y)
  | [], _, h => by simp [pairsF] at h
  | [a], _, h => by simp [pairsF] at h
  | a :: b :: r, hp, h => by
    obtain ⟨h1, h2⟩ := List.pairwise_cons.1 hp
    rw [pairsF] at h
    rcases List.mem_cons.1 h with h | h
    · simp only [Prod.mk.injEq] at h
      obtain ⟨rfl, rfl⟩ := h
      refine ⟨by simp, by simp, h1 y (by simp), fun c hc => ?_⟩
      rcases List.mem_cons.1 hc with rfl | hc
      · omega
      · rcases List.mem_cons.1 hc with rfl | hc
        · omega
        · have := (List.pairwise_cons.1 h2).1 c hc; omega
    · obtain ⟨i1, i2, i3, i4⟩ := pairs_mem h2 h
      refine ⟨List.mem_cons_of_mem _ i1, List.mem_cons_of_mem _ i2, i3, fun c hc => ?_⟩
      rcases List.mem_cons.1 hc with rfl | hc
      · have := h1 x i1; omega
      · exact i4 c hc
theorem pairs_asc : ∀ {ps : List Int}, ps.Pairwise (· < ·) → (pairsF ps).Pairwise (fun p q => p.2 ≤ q.1)
  | [], _ => List.Pairwise.nil
  | [a], _ => List.Pairwise.nil
  | a :: b :: r, hp => by
    obtain ⟨h1, h2⟩ := List.pairwise_cons.1 hp
    rw [pairsF, List.pairwise_cons]
    refine ⟨fun q hq => ?_, pairs_asc h2⟩
    obtain ⟨i1, _⟩ := pairs_mem (x := q.1) (y := q.2) h2 hq
    rcases List.mem_cons.1 i1 with h | h
    · simp only; omega
    · have := (List.pairwise_cons.1 h2).1 _ h; simp only; omega
theorem pairs_find {t : Int} : ∀ {ps : List Int}, ps.Pairwise (· < ·) → (∃ a ∈ ps, a ≤ t) → (∃ b ∈ ps, t < b) → ∃ x y, (x, y) ∈ pairsF ps ∧ x ≤ t ∧ t < y
  | [], _, ⟨a, ha, _⟩, _ => by simp at ha
  | [c], _, ⟨a, ha, h1⟩, ⟨b, hb, h2⟩ => by simp at ha hb; subst ha hb; omega
  | c :: d :: r, hp, ⟨a, ha, h1⟩, ⟨b, hb, h2⟩ => by
    obtain ⟨p1, p2⟩ := List.pairwise_cons.1 hp
    by_cases hd : t < d
    · refine ⟨c, d, by simp [pairsF], ?_, hd⟩
      rcases List.mem_cons.1 ha with rfl | ha
      · exact h1
      · rcases List.mem_cons.1 ha with rfl | ha'
        · omega
        · have := (List.pairwise_cons.1 p2).1 a ha'; omega
    · have hb' : b ∈ d :: r := by
        rcases List.mem_cons.1 hb with rfl | hb
        · have := p1 d (by simp); omega
        · exact hb
      obtain ⟨x, y, h3, h4⟩ := pairs_find p2 ⟨d, by simp, by omega⟩ ⟨b, hb', h2⟩
      exact ⟨x, y, by rw [pairsF]; exact List.mem_cons_of_mem _ h3, h4⟩
theorem slc_mem {l : List (Int × Int)} {p : Int × Int} (h : p ∈ slcF l) : pvB p = true ∧ inL l p.1 = true ∧ ∀ q ∈ l, pvB q = true → ¬ (p.1 < q.1 ∧ q.1 < p.2) ∧ ¬ (p.1 < q.2 ∧ q.2 < p.2) := by
  unfold slcF at h
  obtain ⟨h1, h2⟩ := List.mem_filter.1 h
  obtain ⟨i1, i2, i3, i4⟩ := pairs_mem (x := p.1) (y := p.2) (sorted_ptsF l) h1
  have r : ∀ z ∈ ptsF l, 0 ≤ z ∧ z ≤ 1099511627776 := fun z hz => by
    obtain ⟨q, _, hv, hh⟩ := mem_ptsF.1 hz
    have := pvB_iff.1 hv
    rcases hh with rfl | rfl <;> omega
  have r1 := r _ i1
  have r2 := r _ i2
  refine ⟨pvB_iff.2 (by omega), h2, fun q hq hv => ⟨i4 _ (mem_ptsF.2 ⟨q, hq, hv, .inl rfl⟩), i4 _ (mem_ptsF.2 ⟨q, hq, hv, .inr rfl⟩)⟩⟩
theorem slc_asc (l : List (Int × Int)) : (slcF l).Pairwise (fun p q => p.2 ≤ q.1) := (pairs_asc (sorted_ptsF l)).filter _
theorem slc_cov {l : List (Int × Int)} {p q : Int × Int} (h : p ∈ slcF l) (hq : q ∈ l) (ho : povB p q = true) : pcoB q p = true := by
  obtain ⟨h1, _, h3⟩ := slc_mem h
  simp only [povB, Bool.and_eq_true, decide_eq_true_eq] at ho
  have h4 := h3 q hq ho.1.1.2
  have v1 := pvB_iff.1 h1
  have v2 := pvB_iff.1 ho.1.1.2
  simp only [pcoB, Bool.and_eq_true, decide_eq_true_eq]
  exact ⟨⟨⟨ho.1.1.2, h1⟩, by omega⟩, by omega⟩
theorem slc_in (l : List (Int × Int)) (t : Int) : inL (slcF l) t = inL l t := by
  refine bool_eq ?_
  constructor
  · intro h
    obtain ⟨p, hp, hi⟩ := inL_iff.1 h
    obtain ⟨h1, h2, h3⟩ := slc_mem hp
    have hi := inP_iff.1 hi
    rw [inL_const (x := p.1) (y := p.2) hi.2.1 hi.2.2.1 h3]; exact h2
  · intro h
    obtain ⟨q, hq, hi⟩ := inL_iff.1 h
    have hi := inP_iff.1 hi
    have hv : pvB q = true := pvB_iff.2 (by omega)
    obtain ⟨x, y, h1, h2, h3⟩ := pairs_find (t := t) (sorted_ptsF l) ⟨q.1, mem_ptsF.2 ⟨q, hq, hv, .inl rfl⟩, by omega⟩ ⟨q.2, mem_ptsF.2 ⟨q, hq, hv, .inr rfl⟩, by omega⟩
    obtain ⟨i1, i2, i3, i4⟩ := pairs_mem (sorted_ptsF l) h1
    have hb : ∀ p ∈ l, pvB p = true → ¬ (x < p.1 ∧ p.1 < y) ∧ ¬ (x < p.2 ∧ p.2 < y) := fun p hp hv => ⟨i4 _ (mem_ptsF.2 ⟨p, hp, hv, .inl rfl⟩), i4 _ (mem_ptsF.2 ⟨p, hp, hv, .inr rfl⟩)⟩
    have hx : inL l x = true := by rw [← inL_const h2 h3 hb]; exact h
    have hm : (x, y) ∈ slcF l := List.mem_filter.2 ⟨h1, hx⟩
    have hpv := pvB_iff.1 (slc_mem hm).1
    simp only at hpv
    exact inL_iff.2 ⟨_, hm, inP_iff.2 (by simp only; omega)⟩
theorem slc_of (l : List (Int × Int)) : ofF (slcF l) = ofF l := can_unique (ofF_can _) (ofF_can _) fun t => by rw [ofF_in, ofF_in, slc_in]


set_option maxRecDepth 100000 in
set_option maxHeartbeats 8000000 in
theorem lawSlices_any (L : Option Addr) (cl : Nat) (l : List (Int × Int)) (w : World) (hl : Rd w 2 L l.length (pc l)) (nl : l.length ≤ 9223372036854775807) :
    Calls Try.prog 4 #[.slice L l.length cl] w fun e w' => e = .returned (.bool true) ∧ Ext w w' := by
  by_cases gl : 30 < l.length
  · go_enter Try.func4, Try.ntmps4
    go_wp2_with fail
    refine Calls.mono (awake_any _) ?_
    rintro e w1 ⟨rfl, hb1⟩
    obtain ⟨x1, rfl⟩ := hb1.get
    clear hb1
    go_wp2
    go_ret
    exact ⟨rfl, by repeat (first | exact Ext.refl' _ | assumption | apply Ext.ex' | apply Ext.al | apply Ext.drN | apply Ext.dr)⟩
  · have G1 := Lib.hid (fun w h => sslices_any L cl l w h (by omega))
    have G2 := Lib.hid (fun w h => sof_any L cl l w h (by omega))
    have b1 := slcF_length l
    have G3 := Lib.hid (fun A c w h => sof_any A c (slcF l) w h (by omega))
    rw [slc_of] at G3
    have b2 := can_short (ofF_can l)
    generalize ofF l = r at G2 G3 b2
    have HS1 : Hid (∀ (i : Nat) (h : i < (slcF l).length), pvB (slcF l)[i] = true) := Lib.hid (fun i h => (slc_mem (List.getElem_mem h)).1)
    have HS2 : Hid (∀ (i : Nat) (h : i < (slcF l).length) (h' : i - 1 < (slcF l).length), 0 < i → (slcF l)[i - 1].2 ≤ (slcF l)[i].1) := Lib.hid (fun i h h' h0 => List.pairwise_iff_getElem.1 (slc_asc l) (i - 1) i h' h (by omega))
    have HS3 : Hid (∀ (i : Nat) (h : i < (slcF l).length) (k : Nat) (hk : k < l.length), povB (slcF l)[i] l[k] = true → pcoB l[k] (slcF l)[i] = true) := Lib.hid (fun i h k hk ho => slc_cov (List.getElem_mem h) (List.getElem_mem hk) ho)
    generalize slcF l = s at G1 G3 b1 HS1 HS2 HS3
    go_enter Try.func4, Try.ntmps4
    go_wp2_with fail
    refine Calls.mono (G1.out _ hl) ?_
    rintro e w1 ⟨A1, c1, rfl, hw, hR1⟩
    have hl1 := hl.ext hw
    clear hl
    go_wp2
    go_loopw [4] (fun vi wr => ∃ (i : Nat), i ≤ s.length ∧ vi = .int .i64 i ∧ Ext w1 wr) (fun vi _ => s.length - (intOf vi).toNat)
    case atStart => exact ⟨0, by omega, rfl, Ext.refl' _⟩
    case round =>
      obtain ⟨i, hi, rfl, hext⟩ := hrel
      obtain ⟨x, rfl⟩ := hext.get
      clear hext
      by_cases hlt : i < s.length
      · obtain ⟨b, o, rfl, hb, hc1, hc2⟩ := hR1.pair rfl hlt
        have hv := HS1.out i hlt
        have i1 : (0 : Int) ≤ (i : Int) := by omega
        have i2 : (i : Int) < (s.length : Int) := by omega
        obtain ⟨p, hpp⟩ : ∃ p, s[i] = p := ⟨_, rfl⟩
        rcases Nat.eq_zero_or_pos i with hi0 | hi0
        · rw [hpp] at hc1 hc2 hv
          have i3 : decide (0 < i) = false := by simp; omega
          clear hi0
          have HPP := Lib.hid hpp
          clear hpp
          go_wp2
          refine wp_region_ext (by kernel_rfl) (by kernel_rfl) ?_
          repeat (first | go_big_quiet_step ((go_at_call 21; exact Calls.ext_of (rvalid_any p _))) | quiet_step ((go_at_call 21; exact Calls.ext_of (rvalid_any p _))))
          refine wpQuiet_nil ?_
          intro _ hw'
          obtain ⟨xq, hw''⟩ := hw'
          subst hw''
          go_wp2
          obtain ⟨xq0, hxq0⟩ : ∃ xq0, xq0 = xq := ⟨_, rfl⟩
          clear hxq0
          go_loopw [5] (fun vk wr => ∃ (k : Nat), k ≤ l.length ∧ vk = .int .i64 k ∧ Ext w1 wr) (fun vk _ => l.length - (intOf vk).toNat)
          case atStart => exact ⟨0, by omega, rfl, by repeat (first | exact Ext.refl' _ | assumption | apply Ext.ex' | apply Ext.al | apply Ext.drN | apply Ext.dr)⟩
          case round =>
            obtain ⟨k, hk, rfl, hext⟩ := hrel
            obtain ⟨x2, rfl⟩ := hext.get
            clear hext
            by_cases hkl : k < l.length
            · obtain ⟨b2, o2, rfl, hb2, hd1, hd2⟩ := hl1.pair rfl hkl
              have HQ := Lib.hid (HS3.out i hlt k hkl)
              have k1 : (0 : Int) ≤ (k : Int) := by omega
              have k2 : (k : Int) < (l.length : Int) := by omega
              rw [HPP.out] at HQ
              generalize l[k] = q at hd1 hd2 HQ
              have HOV0 := fun w => roverlaps_any p q w
              have HCO0 := fun w => rcovers_any q p w
              rcases hov : povB p q with _ | _
              · rw [hov] at HOV0
                have HOV := Lib.hid HOV0
                have HCO := Lib.hid HCO0
                clear HOV0 HCO0 hov HQ
                go_wp2
                refine wp_region_ext (by kernel_rfl) (by kernel_rfl) ?_
                repeat (first | go_big_quiet_step ((first | (go_at_call 22; exact Calls.ext_of (HOV.out _)) | (go_at_call 23; exact Calls.ext_of (HCO.out _)))) | quiet_step ((first | (go_at_call 22; exact Calls.ext_of (HOV.out _)) | (go_at_call 23; exact Calls.ext_of (HCO.out _)))))
                refine wpQuiet_nil ?_
                intro _ hw'
                obtain ⟨xq, hw''⟩ := hw'
                subst hw''
                go_wp2
                go_roundw
                case rel => exact ⟨k + 1, by omega, by go_num, by repeat (first | exact Ext.refl' _ | assumption | apply Ext.ex' | apply Ext.al | apply Ext.drN | apply Ext.dr)⟩
                case measure => simp [intOf]; omega
              · rw [hov] at HOV0
                rw [HQ.out hov] at HCO0
                have HOV := Lib.hid HOV0
                have HCO := Lib.hid HCO0
                clear HOV0 HCO0 hov HQ
                go_wp2
                refine wp_region_ext (by kernel_rfl) (by kernel_rfl) ?_
                repeat (first | go_big_quiet_step ((first | (go_at_call 22; exact Calls.ext_of (HOV.out _)) | (go_at_call 23; exact Calls.ext_of (HCO.out _)))) | quiet_step ((first | (go_at_call 22; exact Calls.ext_of (HOV.out _)) | (go_at_call 23; exact Calls.ext_of (HCO.out _)))))
                refine wpQuiet_nil ?_
                intro _ hw'
                obtain ⟨xq, hw''⟩ := hw'
                subst hw''
                go_wp2
                go_roundw
                case rel => exact ⟨k + 1, by omega, by go_num, by repeat (first | exact Ext.refl' _ | assumption | apply Ext.ex' | apply Ext.al | apply Ext.drN | apply Ext.dr)⟩
                case measure => simp [intOf]; omega
            · go_wp2
              go_roundw
              case rel => exact ⟨i + 1, by omega, by go_num, by repeat (first | exact Ext.refl' _ | assumption | apply Ext.ex' | apply Ext.al | apply Ext.drN | apply Ext.dr)⟩
              case measure => simp [intOf]; omega
        · obtain ⟨b', o', he, hb', hd1, hd2⟩ := hR1.pair rfl (show i - 1 < s.length by omega)
          simp only [Option.some.injEq, Addr.mk.injEq, and_true] at he
          obtain ⟨rfl, rfl⟩ := he
          have hle := HS2.out i hlt (by omega) hi0
          rw [hpp] at hc1 hc2 hv hle
          generalize s[i - 1].2 = e at hd2 hle
          have i4 : decide (p.1 < e) = false := by simp; omega
          have e1 : IntKind.i64.wrap ((i : Int) - 1) = (i : Int) - 1 := IntWalk.i64_in _ (by omega)
          have e2 : (0 : Int) ≤ (i : Int) - 1 := by omega
          have e3 : (1 : Int) ≤ (i : Int) := by omega
          have e4 : (i : Int) - 1 < (s.length : Int) := by omega
          have e6 : ((i : Int) - 1).toNat = i - 1 := by omega
          clear hd1
          have HPP := Lib.hid hpp
          clear hpp
          go_wp2
          refine wp_region_ext (by kernel_rfl) (by kernel_rfl) ?_
          repeat (first | go_big_quiet_step ((go_at_call 21; exact Calls.ext_of (rvalid_any p _))) | quiet_step ((go_at_call 21; exact Calls.ext_of (rvalid_any p _))))
          refine wpQuiet_nil ?_
          intro _ hw'
          obtain ⟨xq, hw''⟩ := hw'
          subst hw''
          clear e1 e2 e3 e4 e6 hd2 hle i4
          go_wp2
          obtain ⟨xq0, hxq0⟩ : ∃ xq0, xq0 = xq := ⟨_, rfl⟩
          clear hxq0
          go_loopw [5] (fun vk wr => ∃ (k : Nat), k ≤ l.length ∧ vk = .int .i64 k ∧ Ext w1 wr) (fun vk _ => l.length - (intOf vk).toNat)
          case atStart => exact ⟨0, by omega, rfl, by repeat (first | exact Ext.refl' _ | assumption | apply Ext.ex' | apply Ext.al | apply Ext.drN | apply Ext.dr)⟩
          case round =>
            obtain ⟨k, hk, rfl, hext⟩ := hrel
            obtain ⟨x2, rfl⟩ := hext.get
            clear hext
            by_cases hkl : k < l.length
            · obtain ⟨b2, o2, rfl, hb2, hd1, hd2⟩ := hl1.pair rfl hkl
              have HQ := Lib.hid (HS3.out i hlt k hkl)
              have k1 : (0 : Int) ≤ (k : Int) := by omega
              have k2 : (k : Int) < (l.length : Int) := by omega
              rw [HPP.out] at HQ
              generalize l[k] = q at hd1 hd2 HQ
              have HOV0 := fun w => roverlaps_any p q w
              have HCO0 := fun w => rcovers_any q p w
              rcases hov : povB p q with _ | _
              · rw [hov] at HOV0
                have HOV := Lib.hid HOV0
                have HCO := Lib.hid HCO0
                clear HOV0 HCO0 hov HQ
                go_wp2
                refine wp_region_ext (by kernel_rfl) (by kernel_rfl) ?_
                repeat (first | go_big_quiet_step ((first | (go_at_call 22; exact Calls.ext_of (HOV.out _)) | (go_at_call 23; exact Calls.ext_of (HCO.out _)))) | quiet_step ((first | (go_at_call 22; exact Calls.ext_of (HOV.out _)) | (go_at_call 23; exact Calls.ext_of (HCO.out _)))))
                refine wpQuiet_nil ?_
                intro _ hw'
                obtain ⟨xq, hw''⟩ := hw'
                subst hw''
                go_wp2
                go_roundw
                case rel => exact ⟨k + 1, by omega, by go_num, by repeat (first | exact Ext.refl' _ | assumption | apply Ext.ex' | apply Ext.al | apply Ext.drN | apply Ext.dr)⟩
                case measure => simp [intOf]; omega
              · rw [hov] at HOV0
                rw [HQ.out hov] at HCO0
                have HOV := Lib.hid HOV0
                have HCO := Lib.hid HCO0
                clear HOV0 HCO0 hov HQ
                go_wp2
                refine wp_region_ext (by kernel_rfl) (by kernel_rfl) ?_
                repeat (first | go_big_quiet_step ((first | (go_at_call 22; exact Calls.ext_of (HOV.out _)) | (go_at_call 23; exact Calls.ext_of (HCO.out _)))) | quiet_step ((first | (go_at_call 22; exact Calls.ext_of (HOV.out _)) | (go_at_call 23; exact Calls.ext_of (HCO.out _)))))
                refine wpQuiet_nil ?_
                intro _ hw'
                obtain ⟨xq, hw''⟩ := hw'
                subst hw''
                go_wp2
                go_roundw
                case rel => exact ⟨k + 1, by omega, by go_num, by repeat (first | exact Ext.refl' _ | assumption | apply Ext.ex' | apply Ext.al | apply Ext.drN | apply Ext.dr)⟩
                case measure => simp [intOf]; omega
            · go_wp2
              go_roundw
              case rel => exact ⟨i + 1, by omega, by go_num, by repeat (first | exact Ext.refl' _ | assumption | apply Ext.ex' | apply Ext.al | apply Ext.drN | apply Ext.dr)⟩
              case measure => simp [intOf]; omega
      · go_wp2_with fail
        refine Calls.mono (G3.out _ _ _ (hR1.ext (by repeat (first | exact Ext.refl' _ | assumption | apply Ext.ex' | apply Ext.al | apply Ext.drN | apply Ext.dr)))) ?_
        rintro e w1 ⟨A70, c70, rfl, hb1, hR70⟩
        obtain ⟨x70, rfl⟩ := hb1.get
        clear hb1
        go_wp2_with fail
        refine Calls.mono (G2.out _ (hl1.ext (by repeat (first | exact Ext.refl' _ | assumption | apply Ext.ex' | apply Ext.al | apply Ext.drN | apply Ext.dr)))) ?_
        rintro e w1 ⟨A71, c71, rfl, hb1, hR71⟩
        obtain ⟨x71, rfl⟩ := hb1.get
        clear hb1
        go_wp2_with fail
        refine Calls.mono (same_yes _ _ _ _ _ _ r r rfl rfl rfl _ (hR70.ext (by repeat (first | exact Ext.refl' _ | assumption | apply Ext.ex' | apply Ext.al | apply Ext.drN | apply Ext.dr))) (hR71.ext (by repeat (first | exact Ext.refl' _ | assumption | apply Ext.ex' | apply Ext.al | apply Ext.drN | apply Ext.dr))) (by omega)) ?_
        rintro e w1 ⟨rfl, hb1⟩
        obtain ⟨x72, rfl⟩ := hb1.get
        clear hb1
        go_wp2_with fail
        refine Calls.mono (awake_any _) ?_
        rintro e w1 ⟨rfl, hb1⟩
        obtain ⟨x73, rfl⟩ := hb1.get
        clear hb1
        go_wp2
        go_ret
        exact ⟨rfl, hw.tr (by repeat (first | exact Ext.refl' _ | assumption | apply Ext.ex' | apply Ext.al | apply Ext.drN | apply Ext.dr))⟩

end Go.Proofs.Ytogfageapejmpaa
