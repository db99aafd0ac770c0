/- BtreeRanges: adjacent ranges combine, every key begins with the empty one. -/
import Derived.Test.YtdmbgimehepfaaaBtLa
set_option linter.unusedSimpArgs false
set_option linter.unusedVariables false
namespace Go.Proofs.Ytdmbgimehepfaaa
open Go.RowKit


theorem TK.join {base tb m : Nat} {w : World} {ks : List Kp} (h : TK base w tb m ks) {a b c : List Va} (hab : ¬ 0 < cmpR a b) (hbc : ¬ 0 < cmpR b c) : ranK ks a b ++ ranK ks b c = ranK ks a c := by
  obtain ⟨l, F, h1, rfl, _⟩ := h
  have h2 := ranges_join h1.srt hab hbc
  rw [filter_id (fun k => (decide (0 ≤ cmpR k a) && decide (cmpR k b < 0))), filter_id (fun k => (decide (0 ≤ cmpR k b) && decide (cmpR k c < 0))), filter_id (fun k => (decide (0 ≤ cmpR k a) && decide (cmpR k c < 0)))] at h2
  exact h2
theorem TK.all {base tb m : Nat} {w : World} {ks : List Kp} (h : TK base w tb m ks) : (preK ks []).length = ks.length := by
  obtain ⟨l, F, h1, rfl, _⟩ := h
  have h2 := filter_id (fun k => (decide (([] : List Va).length ≤ k.length) && decide (cmpR (k.take ([] : List Va).length) [] = 0))) l
  rw [prefix_nil] at h2
  have h3 : preK (l.map MP.kp) [] = l.map MP.id := h2.symm
  rw [h3, List.length_map, List.length_map]
theorem ic_append (a b : List Int) : ic (a ++ b) = ic a ++ ic b := List.map_append
theorem ints_b (r s : List Int) (A B : Option Addr) (n c m d : Nat) (w : World) (hrs : s = r) (hn : s.length = n) (hm : r.length = m) (hA : Rd w 1 A n (ic s)) (hB : Rd w 1 B m (ic r)) (hl : r.length ≤ 1048576) : Calls Try.prog 21 #[.slice A n c, .slice B m d] w fun e w' => e = .returned (.bool true) ∧ Ext w w' := by
  subst hrs
  exact ints_n s A B n c m d w hn hm hA hB hl
set_option maxRecDepth 100000 in
set_option maxHeartbeats 8000000 in
theorem lawRanges_any (a : Int) (A : Option Addr) (c : Nat) (l : List OpV) (p q r : Sl Va) (W : World) (wa : (Lit.int .u8 a).wf = true) (hR : Rd W 3 A l.length (opl l)) (hl : l.length ≤ maxLen) (ho : ∀ o ∈ l, OpOk W o) (hkp : KeyOk W p) (hkq : KeyOk W q) (hkr : KeyOk W r) : Calls Try.prog 7 #[.int .u8 a, .slice A l.length c, .slice p.A p.l.length p.c, .slice q.A q.l.length q.c, .slice r.A r.l.length r.c] W fun e w' => e = .returned (.bool true) ∧ Ext W w' := by
  obtain ⟨n, hn⟩ : ∃ n, l.length = n := ⟨_, rfl⟩
  have HN := Lib.hid hn
  rw [hn] at hR hl ⊢
  unfold maxLen at hl
  have HO := Lib.hid ho
  obtain ⟨m, ha0, ha1, hmq, hm, hm2⟩ := order_m wa
  have HMQ := Lib.hid hmq
  have HM := Lib.hid hm
  have HM2 := Lib.hid hm2
  clear hn ho hmq hm hm2 wa
  go_enter Try.func7, Try.ntmps7
  go_wp2_with fail
  refine Calls.mono (new_u W.heap.size m _ _ HMQ.out HM.out HM2.out (by simp)) ?_
  rintro e w1 ⟨tb, rfl, ht0, hb1⟩
  have hE1 : Ext W w1 := hb1
  have HT1 := Lib.hid ht0
  clear ht0 hb1
  go_wp2_with fail
  refine Calls.mono (small_n A n c l _ HN.out (hR.ext hE1) (by unfold maxLen; exact hl) (fun o ho => (HO.out o ho).ext hE1)) ?_
  rintro e w2 ⟨⟨b, rfl, hb⟩, hb1⟩
  obtain ⟨x1, rfl⟩ := hb1.get
  clear hb1
  have HB := Lib.hid hb
  clear hb
  cases b
  · go_wp2_with fail
    refine Calls.mono (works_any _) ?_
    rintro e w1 ⟨rfl, hb1⟩
    obtain ⟨x1, rfl⟩ := hb1.get
    clear hb1
    go_wp2
    go_ret
    exact ⟨rfl, hE1.tr (by repeat (first | exact Ext.refl' _ | assumption | apply Ext.ex' | apply Ext.al | apply Ext.drN | apply Ext.dr))⟩
  obtain ⟨h150, h12⟩ := HB.out rfl
  rw [HN.out] at h150
  have H12 := Lib.hid h12
  have H150 := Lib.hid h150
  clear HB h12 hl
  go_wp2_with fail
  refine Calls.mono (valid_k p _ (hkp.ext (hE1.tr (by repeat (first | exact Ext.refl' _ | assumption | apply Ext.ex' | apply Ext.al | apply Ext.drN | apply Ext.dr))))) ?_
  rintro e w2 ⟨⟨b, rfl, hb⟩, hb1⟩
  obtain ⟨x1, rfl⟩ := hb1.get
  clear hb1
  have HB := Lib.hid hb
  clear hb
  cases b
  · go_wp2_with fail
    refine Calls.mono (works_any _) ?_
    rintro e w1 ⟨rfl, hb1⟩
    obtain ⟨x1, rfl⟩ := hb1.get
    clear hb1
    go_wp2
    go_ret
    exact ⟨rfl, hE1.tr (by repeat (first | exact Ext.refl' _ | assumption | apply Ext.ex' | apply Ext.al | apply Ext.drN | apply Ext.dr))⟩
  have hlp : p.l.length ≤ 12 := HB.out rfl
  have HLp := Lib.hid hlp
  clear HB hlp
  go_wp2_with fail
  refine Calls.mono (valid_k q _ (hkq.ext (hE1.tr (by repeat (first | exact Ext.refl' _ | assumption | apply Ext.ex' | apply Ext.al | apply Ext.drN | apply Ext.dr))))) ?_
  rintro e w2 ⟨⟨b, rfl, hb⟩, hb1⟩
  obtain ⟨x1, rfl⟩ := hb1.get
  clear hb1
  have HB := Lib.hid hb
  clear hb
  cases b
  · go_wp2_with fail
    refine Calls.mono (works_any _) ?_
    rintro e w1 ⟨rfl, hb1⟩
    obtain ⟨x1, rfl⟩ := hb1.get
    clear hb1
    go_wp2
    go_ret
    exact ⟨rfl, hE1.tr (by repeat (first | exact Ext.refl' _ | assumption | apply Ext.ex' | apply Ext.al | apply Ext.drN | apply Ext.dr))⟩
  have hlq : q.l.length ≤ 12 := HB.out rfl
  have HLq := Lib.hid hlq
  clear HB hlq
  go_wp2_with fail
  refine Calls.mono (valid_k r _ (hkr.ext (hE1.tr (by repeat (first | exact Ext.refl' _ | assumption | apply Ext.ex' | apply Ext.al | apply Ext.drN | apply Ext.dr))))) ?_
  rintro e w2 ⟨⟨b, rfl, hb⟩, hb1⟩
  obtain ⟨x1, rfl⟩ := hb1.get
  clear hb1
  have HB := Lib.hid hb
  clear hb
  cases b
  · go_wp2_with fail
    refine Calls.mono (works_any _) ?_
    rintro e w1 ⟨rfl, hb1⟩
    obtain ⟨x1, rfl⟩ := hb1.get
    clear hb1
    go_wp2
    go_ret
    exact ⟨rfl, hE1.tr (by repeat (first | exact Ext.refl' _ | assumption | apply Ext.ex' | apply Ext.al | apply Ext.drN | apply Ext.dr))⟩
  have hlr : r.l.length ≤ 12 := HB.out rfl
  have HLr := Lib.hid hlr
  clear HB hlr
  have HCp := Lib.hid fun w (e : Ext w1 w) => rcmp30_any p.A q.A p.c q.c p.l q.l w ((hkp.ext (hE1.tr e)).rd) ((hkq.ext (hE1.tr e)).rd) (by have := HLp.out; omega) (by have := HLq.out; omega)
  have HZp : Hid (0 < cmpR p.l q.l ∨ ¬ 0 < cmpR p.l q.l) := Lib.hid (Classical.em _)
  obtain ⟨zp, hzp⟩ : ∃ z, cmpR p.l q.l = z := ⟨_, rfl⟩
  have HYp := Lib.hid hzp
  rw [hzp] at HCp
  clear hzp HZp
  go_wp2_with fail
  refine Calls.mono (HCp.out _ (by repeat (first | exact Ext.refl' _ | assumption | apply Ext.ex' | apply Ext.al | apply Ext.drN | apply Ext.dr))) ?_
  rintro e w2 ⟨rfl, hb1⟩
  obtain ⟨x1, rfl⟩ := hb1.get
  clear hb1 HCp
  by_cases hzp : 0 < zp
  · go_wp2_with fail
    refine Calls.mono (works_any _) ?_
    rintro e w1 ⟨rfl, hb1⟩
    obtain ⟨x1, rfl⟩ := hb1.get
    clear hb1
    go_wp2
    go_ret
    exact ⟨rfl, hE1.tr (by repeat (first | exact Ext.refl' _ | assumption | apply Ext.ex' | apply Ext.al | apply Ext.drN | apply Ext.dr))⟩
  have HCq := Lib.hid fun w (e : Ext w1 w) => rcmp30_any q.A r.A q.c r.c q.l r.l w ((hkq.ext (hE1.tr e)).rd) ((hkr.ext (hE1.tr e)).rd) (by have := HLq.out; omega) (by have := HLr.out; omega)
  have HZq : Hid (0 < cmpR q.l r.l ∨ ¬ 0 < cmpR q.l r.l) := Lib.hid (Classical.em _)
  obtain ⟨zq, hzq⟩ : ∃ z, cmpR q.l r.l = z := ⟨_, rfl⟩
  have HYq := Lib.hid hzq
  rw [hzq] at HCq
  clear hzq HZq
  go_wp2_with fail
  refine Calls.mono (HCq.out _ (by repeat (first | exact Ext.refl' _ | assumption | apply Ext.ex' | apply Ext.al | apply Ext.drN | apply Ext.dr))) ?_
  rintro e w2 ⟨rfl, hb1⟩
  obtain ⟨x1, rfl⟩ := hb1.get
  clear hb1 HCq
  by_cases hzq : 0 < zq
  · go_wp2_with fail
    refine Calls.mono (works_any _) ?_
    rintro e w1 ⟨rfl, hb1⟩
    obtain ⟨x1, rfl⟩ := hb1.get
    clear hb1
    go_wp2
    go_ret
    exact ⟨rfl, hE1.tr (by repeat (first | exact Ext.refl' _ | assumption | apply Ext.ex' | apply Ext.al | apply Ext.drN | apply Ext.dr))⟩
  have HZp := Lib.hid hzp
  have HZq := Lib.hid hzq
  go_wp2
  go_loopg [14, 69] n (fun g v14 i wr => ∃ (k nq : Nat) (ks : List Kp), i = .int .i64 k ∧ k ≤ n ∧ n - k ≤ g ∧ Hid (ks.length = nq) ∧ Hid (nq ≤ k) ∧ Hid (TK W.heap.size wr tb m ks) ∧ Ext W wr)
  case atStart => exact ⟨0, 0, [], rfl, by omega, by omega, Lib.hid rfl, Lib.hid (by omega), Lib.hid (HT1.out.ext (by repeat (first | exact Ext.refl' _ | assumption | apply Ext.ex' | apply Ext.al | apply Ext.drN | apply Ext.dr))), hE1.tr (by repeat (first | exact Ext.refl' _ | assumption | apply Ext.ex' | apply Ext.al | apply Ext.drN | apply Ext.dr))⟩
  case round =>
    obtain ⟨k, nq, ks, rfl, hk, hg, HQ, HQ2, HT, hE⟩ := hrel
    have HG := Lib.hid hg
    clear hg
    by_cases hlt : k < n
    · have hkz : (k : Int) < (n : Int) := by omega
      obtain ⟨o, pb, po, hq, rfl, hpb, q0, q1, q2⟩ := op_at (hR.ext hE) HN.out hlt
      have HOo : Hid (OpOk wr o) := Lib.hid ((HO.out o (List.mem_of_getElem? hq)).ext hE)
      have H12o : Hid (o.k.l.length ≤ 12) := Lib.hid (H12.out o (List.mem_of_getElem? hq))
      have H150k : Hid (ks.length ≤ 150 ∧ nq + 1 ≤ 150) := Lib.hid (by have := HQ.out; have := HQ2.out; have := H150.out; omega)
      have HDp : Hid (∀ w, Ext wr w → Calls Try.prog 10 #[pt tb, .slice o.k.A o.k.l.length o.k.c, .int .i64 o.id] w (TQo W.heap.size w tb m (putK ks (o.k.l, o.id)))) := Lib.hid fun w e =>
        put_o W.heap.size m tb ks o w HM.out HM2.out (hE.tr e).size (HT.out.ext e) (HOo.out.ext e) H12o.out H150k.out.1
      have HDd : Hid (∀ w, Ext wr w → Calls Try.prog 11 #[pt tb, .slice o.k.A o.k.l.length o.k.c, .int .i64 o.id] w (TQo W.heap.size w tb m (delK ks (o.k.l, o.id)))) := Lib.hid fun w e =>
        del_o W.heap.size m tb ks o w HM.out HM2.out (hE.tr e).size (HT.out.ext e) (HOo.out.ext e) H12o.out
      clear hq
      by_cases hkd : o.kd = 0
      · go_wp2_with fail
        refine Calls.mono (HDp.out _ (by repeat (first | exact Ext.refl' _ | assumption | apply Ext.ex' | apply Ext.al | apply Ext.drN | apply Ext.dr))) ?_
        rintro e w2 ⟨b2, rfl, HT3, hm3⟩
        have HE3 : Hid (Ext W w2) := Lib.hid (hm3.lo (hE.tr (by repeat (first | exact Ext.refl' _ | assumption | apply Ext.ex' | apply Ext.al | apply Ext.drN | apply Ext.dr))) (Nat.le_refl _))
        clear hm3 HDp HDd
        go_wp2
        go_roundg (gk - 1)
        case rel => exact ⟨k + 1, _, putK ks (o.k.l, o.id), by go_num, by omega, by have := HG.out; omega, Lib.hid rfl, Lib.hid (by have := putK_len ks (o.k.l, o.id); have := HQ.out; have := HQ2.out; omega), Lib.hid (HT3.out.ext (by repeat (first | exact Ext.refl' _ | assumption | apply Ext.ex' | apply Ext.al | apply Ext.drN | apply Ext.dr))), HE3.out.tr (by repeat (first | exact Ext.refl' _ | assumption | apply Ext.ex' | apply Ext.al | apply Ext.drN | apply Ext.dr))⟩
        case measure => have := HG.out; omega
      · go_wp2_with fail
        refine Calls.mono (HDd.out _ (by repeat (first | exact Ext.refl' _ | assumption | apply Ext.ex' | apply Ext.al | apply Ext.drN | apply Ext.dr))) ?_
        rintro e w2 ⟨b2, rfl, HT3, hm3⟩
        have HE3 : Hid (Ext W w2) := Lib.hid (hm3.lo (hE.tr (by repeat (first | exact Ext.refl' _ | assumption | apply Ext.ex' | apply Ext.al | apply Ext.drN | apply Ext.dr))) (Nat.le_refl _))
        clear hm3 HDp HDd
        go_wp2
        go_roundg (gk - 1)
        case rel => exact ⟨k + 1, _, delK ks (o.k.l, o.id), by go_num, by omega, by have := HG.out; omega, Lib.hid rfl, Lib.hid (by have := delK_len ks (o.k.l, o.id); have := HQ.out; have := HQ2.out; omega), Lib.hid (HT3.out.ext (by repeat (first | exact Ext.refl' _ | assumption | apply Ext.ex' | apply Ext.al | apply Ext.drN | apply Ext.dr))), HE3.out.tr (by repeat (first | exact Ext.refl' _ | assumption | apply Ext.ex' | apply Ext.al | apply Ext.drN | apply Ext.dr))⟩
        case measure => have := HG.out; omega
    · have hkz : ¬ ((k : Int) < (n : Int)) := by omega
      go_wp2_with fail
      refine Calls.mono (ran_k W.heap.size m tb ks p.A p.c p.l q.A q.c q.l _ HM.out HM2.out ?hT4 ?hR4 (by have := HLp.out; omega) ?hS4 (by have := HLq.out; omega)) ?_
      case hT4 => exact HT.out.ext (by repeat (first | exact Ext.refl' _ | assumption | apply Ext.ex' | apply Ext.al | apply Ext.drN | apply Ext.dr))
      case hR4 => exact (hkp.ext (hE.tr (by repeat (first | exact Ext.refl' _ | assumption | apply Ext.ex' | apply Ext.al | apply Ext.drN | apply Ext.dr)))).rd
      case hS4 => exact (hkq.ext (hE.tr (by repeat (first | exact Ext.refl' _ | assumption | apply Ext.ex' | apply Ext.al | apply Ext.drN | apply Ext.dr)))).rd
      intro e w1 hp
      obtain ⟨n4, A4, c4, rfl, HQ4, HR4, hb1⟩ := hp.n
      obtain ⟨x1, rfl⟩ := hb1.get
      clear hb1 hp
      have hn4 : n4 ≤ 150 := by have := ranK_len ks p.l q.l; have := HQ4.out; have := HQ.out; have := HQ2.out; have := H150.out; omega
      go_wp2_with (at_builtin; refine wpList_app _ rfl (.tmp 89) (.tmp 93) rfl elI wr (by repeat (first | exact Ext.refl' _ | assumption | apply Ext.ex' | apply Ext.al | apply Ext.drN | apply Ext.dr)) _ 0 [] rfl (own_ext (own_lit0c wr _ (Nat.le_refl _) _ _) _) A4 n4 c4 (ic (ranK ks p.l q.l)) rfl (HR4.out.ext (by repeat (first | exact Ext.refl' _ | assumption | apply Ext.ex' | apply Ext.al | apply Ext.drN | apply Ext.dr))) (oneCell_ic _) (by unfold maxLen; omega) (by omega) ?_; intro v5 x5 ho5 _)
      rw [Nat.zero_add, List.nil_append] at ho5
      obtain ⟨A5, c5, rfl, _, _⟩ := Own.form ho5
      have HO5 := Lib.hid ho5
      clear ho5
      refine Calls.mono (ran_k W.heap.size m tb ks q.A q.c q.l r.A r.c r.l _ HM.out HM2.out ?hT6 ?hR6 (by have := HLq.out; omega) ?hS6 (by have := HLr.out; omega)) ?_
      case hT6 => exact HT.out.ext (by repeat (first | exact Ext.refl' _ | assumption | apply Ext.ex' | apply Ext.al | apply Ext.drN | apply Ext.dr))
      case hR6 => exact (hkq.ext (hE.tr (by repeat (first | exact Ext.refl' _ | assumption | apply Ext.ex' | apply Ext.al | apply Ext.drN | apply Ext.dr)))).rd
      case hS6 => exact (hkr.ext (hE.tr (by repeat (first | exact Ext.refl' _ | assumption | apply Ext.ex' | apply Ext.al | apply Ext.drN | apply Ext.dr)))).rd
      intro e w1 hp
      obtain ⟨n6, A6, c6, rfl, HQ6, HR6, hb1⟩ := hp.n
      obtain ⟨x1, rfl⟩ := hb1.get
      clear hb1 hp
      have hn6 : n6 ≤ 150 := by have := ranK_len ks q.l r.l; have := HQ6.out; have := HQ.out; have := HQ2.out; have := H150.out; omega
      go_wp2_with (at_builtin; refine wpList_app _ rfl (.tmp 94) (.tmp 98) rfl elI wr (by repeat (first | exact Ext.refl' _ | assumption | apply Ext.ex' | apply Ext.al | apply Ext.drN | apply Ext.dr)) _ n4 _ rfl (own_ext HO5.out _) A6 n6 c6 (ic (ranK ks q.l r.l)) rfl (HR6.out.ext (by repeat (first | exact Ext.refl' _ | assumption | apply Ext.ex' | apply Ext.al | apply Ext.drN | apply Ext.dr))) (oneCell_ic _) (by unfold maxLen; omega) (by omega) ?_; intro v7 x7 ho7 _)
      obtain ⟨A7, c7, rfl, _, _⟩ := Own.form ho7
      have HO7 := Lib.hid ho7
      clear ho7
      (try go_wp2_with fail)
      refine Calls.mono (ran_k W.heap.size m tb ks p.A p.c p.l r.A r.c r.l _ HM.out HM2.out ?hT8 ?hR8 (by have := HLp.out; omega) ?hS8 (by have := HLr.out; omega)) ?_
      case hT8 => exact HT.out.ext (by repeat (first | exact Ext.refl' _ | assumption | apply Ext.ex' | apply Ext.al | apply Ext.drN | apply Ext.dr))
      case hR8 => exact (hkp.ext (hE.tr (by repeat (first | exact Ext.refl' _ | assumption | apply Ext.ex' | apply Ext.al | apply Ext.drN | apply Ext.dr)))).rd
      case hS8 => exact (hkr.ext (hE.tr (by repeat (first | exact Ext.refl' _ | assumption | apply Ext.ex' | apply Ext.al | apply Ext.drN | apply Ext.dr)))).rd
      intro e w1 hp
      obtain ⟨n8, A8, c8, rfl, HQ8, HR8, hb1⟩ := hp.n
      obtain ⟨x1, rfl⟩ := hb1.get
      clear hb1 hp
      have hn8 : n8 ≤ 150 := by have := ranK_len ks p.l r.l; have := HQ8.out; have := HQ.out; have := HQ2.out; have := H150.out; omega
      go_wp2_with fail
      refine Calls.mono (ints_b (ranK ks p.l r.l) (ranK ks p.l q.l ++ ranK ks q.l r.l) _ _ _ _ _ _ _ ?hj ?hn HQ8.out ?hA ?hB ?hl) ?_
      case hj => exact HT.out.join (by rw [HYp.out]; have := HZp.out; omega) (by rw [HYq.out]; have := HZq.out; omega)
      case hn => rw [List.length_append, HQ4.out, HQ6.out]
      case hA =>
        have h := Rd.of_own HO7.out
        rw [← ic_append] at h
        exact h.ext (by repeat (first | exact Ext.refl' _ | assumption | apply Ext.ex' | apply Ext.al | apply Ext.drN | apply Ext.dr))
      case hB => exact HR8.out.ext (by repeat (first | exact Ext.refl' _ | assumption | apply Ext.ex' | apply Ext.al | apply Ext.drN | apply Ext.dr))
      case hl => have := HQ8.out; omega
      rintro e w1 ⟨rfl, hb1⟩
      obtain ⟨x1, rfl⟩ := hb1.get
      clear hb1
      go_wp2_with fail
      refine Calls.mono (pre_k W.heap.size m tb ks none 0 [] _ HM.out HM2.out ?hT9 Rd.nil (by decide)) ?_
      case hT9 => exact HT.out.ext (by repeat (first | exact Ext.refl' _ | assumption | apply Ext.ex' | apply Ext.al | apply Ext.drN | apply Ext.dr))
      intro e w1 hp
      obtain ⟨n9, A9, c9, rfl, HQ9, HR9, hb1⟩ := hp.n
      obtain ⟨x1, rfl⟩ := hb1.get
      clear hb1 hp
      have hn9 : n9 = nq := by have := HQ9.out; have := HQ.out; have := HT.out.all; omega
      subst hn9
      go_wp2_with fail
      refine Calls.mono (len_n W.heap.size m tb n9 ks _ ?hT10 HQ.out) ?_
      case hT10 => exact HT.out.ext (by repeat (first | exact Ext.refl' _ | assumption | apply Ext.ex' | apply Ext.al | apply Ext.drN | apply Ext.dr))
      rintro e w1 ⟨rfl, hb1⟩
      obtain ⟨x1, rfl⟩ := hb1.get
      clear hb1
      go_wp2_with fail
      refine Calls.mono (works_any _) ?_
      rintro e w1 ⟨rfl, hb1⟩
      obtain ⟨x1, rfl⟩ := hb1.get
      clear hb1
      go_wp2
      go_ret
      exact ⟨rfl, hE.tr (by repeat (first | exact Ext.refl' _ | assumption | apply Ext.ex' | apply Ext.al | apply Ext.drN | apply Ext.dr))⟩

end Go.Proofs.Ytdmbgimehepfaaa
