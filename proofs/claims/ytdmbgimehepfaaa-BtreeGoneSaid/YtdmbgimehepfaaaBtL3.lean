/- BtreeDepth: the depth is within the bounds after each operation. -/
import Derived.Test.YtdmbgimehepfaaaBtLa
set_option linter.unusedSimpArgs false
set_option linter.unusedVariables false
namespace Go.Proofs.Ytdmbgimehepfaaa
open Go.RowKit


theorem dep_n (base m tb n : Nat) (ks : List Kp) (w : World) (hm : 2 ≤ m) (hm2 : m ≤ 64) (hT : TK base w tb m ks) (hn : ks.length = n) (h150 : n ≤ 150) : Calls Try.prog 16 #[pt tb] w fun e w' => (∃ D : Nat, e = .returned (.int .i64 D) ∧ D ≤ 20 ∧ ((n = 0 ∧ D = 0) ∨ ∃ d, D = d + 1 ∧ Hid (2 * (m / 2 + 1) ^ d ≤ n + 1 ∧ n + 1 ≤ (m + 1) ^ (d + 1)) ∧ 0 < n)) ∧ Ext w w' := by
  subst hn
  refine Calls.mono (dep_k base m tb ks w hm hm2 hT) ?_
  rintro e w' ⟨D, rfl, h, hE⟩
  refine ⟨⟨D, rfl, ?_, ?_⟩, hE⟩
  · rcases h with ⟨_, rfl⟩ | ⟨d, rfl, h1, _, _⟩
    · omega
    · refine Nat.lt_of_not_le fun h20 => ?_
      have h2 : 2 ^ d ≤ (m / 2 + 1) ^ d := Nat.pow_le_pow_left (by omega) d
      have h3 : 2 ^ 20 ≤ 2 ^ d := Nat.pow_le_pow_right (by omega) (by omega)
      omega
  · rcases h with ⟨h1, h2⟩ | ⟨d, h0, h1, h2, h3⟩
    · exact .inl ⟨h1, h2⟩
    · exact .inr ⟨d, h0, Lib.hid ⟨h1, h2⟩, h3⟩
theorem power_n (q p : Int) (a n : Nat) (w : World) (hq : q = a) (hp : p = n) (ha : 1 ≤ a) (ha2 : a ≤ 65) (hn : n ≤ 1000000) : Calls Try.prog 26 #[.int .i64 q, .int .i64 p] w fun e w' => ∃ P : Nat, e = .returned (.int .i64 P) ∧ P ≤ 1000000 ∧ Hid (P = min (a ^ n) 1000000) ∧ Ext w w' := by
  subst hq hp
  refine Calls.mono (power_any a n w ha ha2 hn) ?_
  rintro e w' ⟨rfl, hE⟩
  exact ⟨_, rfl, Nat.min_le_right _ _, Lib.hid rfl, hE⟩
set_option maxRecDepth 100000 in
set_option maxHeartbeats 8000000 in
theorem lawDepth_any (a : Int) (A : Option Addr) (c : Nat) (l : List OpV) (W : World) (wa : (Lit.int .u8 a).wf = true) (hR : Rd W 3 A l.length (opl l)) (hl : l.length ≤ maxLen) (ho : ∀ o ∈ l, OpOk W o) : Calls Try.prog 6 #[.int .u8 a, .slice A l.length c] W fun e w' => e = .returned (.bool true) ∧ Ext W w' := by
  obtain ⟨n, hn⟩ : ∃ n, l.length = n := ⟨_, rfl⟩
  have HN := Lib.hid hn
  rw [hn] at hR hl ⊢
  unfold maxLen at hl
  have HO := Lib.hid ho
  obtain ⟨m, ha0, ha1, hmq, hm, hm2⟩ := order_m wa
  have HMQ := Lib.hid hmq
  have HM := Lib.hid hm
  have HM2 := Lib.hid hm2
  clear hn ho hmq hm hm2 wa
  go_enter Try.func6, Try.ntmps6
  go_wp2_with fail
  refine Calls.mono (new_u W.heap.size m _ _ HMQ.out HM.out HM2.out (by simp)) ?_
  rintro e w1 ⟨tb, rfl, ht0, hb1⟩
  have hE1 : Ext W w1 := hb1
  have HT1 := Lib.hid ht0
  clear ht0 hb1
  go_wp2_with fail
  refine Calls.mono (small_n A n c l _ HN.out (hR.ext hE1) (by unfold maxLen; exact hl) (fun o ho => (HO.out o ho).ext hE1)) ?_
  rintro e w2 ⟨⟨b, rfl, hb⟩, hb1⟩
  obtain ⟨x1, rfl⟩ := hb1.get
  clear hb1
  have HB := Lib.hid hb
  clear hb
  cases b
  · go_wp2_with fail
    refine Calls.mono (works_any _) ?_
    rintro e w1 ⟨rfl, hb1⟩
    obtain ⟨x1, rfl⟩ := hb1.get
    clear hb1
    go_wp2
    go_ret
    exact ⟨rfl, hE1.tr (by repeat (first | exact Ext.refl' _ | assumption | apply Ext.ex' | apply Ext.al | apply Ext.drN | apply Ext.dr))⟩
  obtain ⟨h150, h12⟩ := HB.out rfl
  rw [HN.out] at h150
  have H12 := Lib.hid h12
  have H150 := Lib.hid h150
  clear HB h12 hl
  go_wp2
  try rw [HMQ.out]
  go_loopg [9, 10, 11, 39] n (fun g v9 v10 v11 i wr => ∃ (k nq : Nat) (ks : List Kp), i = .int .i64 k ∧ k ≤ n ∧ n - k ≤ g ∧ Hid (ks.length = nq) ∧ Hid (nq ≤ k) ∧ Hid (TK W.heap.size wr tb m ks) ∧ Ext W wr)
  case atStart => exact ⟨0, 0, [], rfl, by omega, by omega, Lib.hid rfl, Lib.hid (by omega), Lib.hid (HT1.out.ext (by repeat (first | exact Ext.refl' _ | assumption | apply Ext.ex' | apply Ext.al | apply Ext.drN | apply Ext.dr))), hE1.tr (by repeat (first | exact Ext.refl' _ | assumption | apply Ext.ex' | apply Ext.al | apply Ext.drN | apply Ext.dr))⟩
  case round =>
    obtain ⟨k, nq, ks, rfl, hk, hg, HQ, HQ2, HT, hE⟩ := hrel
    have HG := Lib.hid hg
    clear hg
    by_cases hlt : k < n
    · have hkz : (k : Int) < (n : Int) := by omega
      obtain ⟨o, pb, po, hq, rfl, hpb, q0, q1, q2⟩ := op_at (hR.ext hE) HN.out hlt
      have HOo : Hid (OpOk wr o) := Lib.hid ((HO.out o (List.mem_of_getElem? hq)).ext hE)
      have H12o : Hid (o.k.l.length ≤ 12) := Lib.hid (H12.out o (List.mem_of_getElem? hq))
      have H150k : Hid (ks.length ≤ 150 ∧ nq + 1 ≤ 150) := Lib.hid (by have := HQ.out; have := HQ2.out; have := H150.out; omega)
      have HDp : Hid (∀ w, Ext wr w → Calls Try.prog 10 #[pt tb, .slice o.k.A o.k.l.length o.k.c, .int .i64 o.id] w (TQo W.heap.size w tb m (putK ks (o.k.l, o.id)))) := Lib.hid fun w e =>
        put_o W.heap.size m tb ks o w HM.out HM2.out (hE.tr e).size (HT.out.ext e) (HOo.out.ext e) H12o.out H150k.out.1
      have HDd : Hid (∀ w, Ext wr w → Calls Try.prog 11 #[pt tb, .slice o.k.A o.k.l.length o.k.c, .int .i64 o.id] w (TQo W.heap.size w tb m (delK ks (o.k.l, o.id)))) := Lib.hid fun w e =>
        del_o W.heap.size m tb ks o w HM.out HM2.out (hE.tr e).size (HT.out.ext e) (HOo.out.ext e) H12o.out
      clear hq
      by_cases hkd : o.kd = 0
      · go_wp2_with fail
        refine Calls.mono (HDp.out _ (by repeat (first | exact Ext.refl' _ | assumption | apply Ext.ex' | apply Ext.al | apply Ext.drN | apply Ext.dr))) ?_
        rintro e w2 ⟨b2, rfl, HT3, hm3⟩
        obtain ⟨n2, hn2⟩ : ∃ n2, (putK ks (o.k.l, o.id)).length = n2 := ⟨_, rfl⟩
        have HQ3 := Lib.hid hn2
        have hn2k : n2 ≤ 150 := by have := putK_len ks (o.k.l, o.id); have := H150k.out.2; have := HQ.out; omega
        have HN2 : Hid (n2 ≤ nq + 1) := Lib.hid (by have := putK_len ks (o.k.l, o.id); have := HQ.out; omega)
        clear hn2
        have HE3 : Hid (Ext W w2) := Lib.hid (hm3.lo (hE.tr (by repeat (first | exact Ext.refl' _ | assumption | apply Ext.ex' | apply Ext.al | apply Ext.drN | apply Ext.dr))) (Nat.le_refl _))
        clear hm3 HDp HDd
        go_wp2_with fail
        refine Calls.mono (len_n W.heap.size m tb n2 (putK ks (o.k.l, o.id)) _ ?hT HQ3.out) ?_
        case hT => exact HT3.out.ext (by repeat (first | exact Ext.refl' _ | assumption | apply Ext.ex' | apply Ext.al | apply Ext.drN | apply Ext.dr))
        rintro e w1 ⟨rfl, hb1⟩
        obtain ⟨x1, rfl⟩ := hb1.get
        clear hb1
        go_wp2_with fail
        refine Calls.mono (dep_n W.heap.size m tb n2 (putK ks (o.k.l, o.id)) _ HM.out HM2.out ?hT HQ3.out hn2k) ?_
        case hT => exact HT3.out.ext (by repeat (first | exact Ext.refl' _ | assumption | apply Ext.ex' | apply Ext.al | apply Ext.drN | apply Ext.dr))
        rintro e w1 ⟨⟨D, rfl, hD, hcase⟩, hb1⟩
        obtain ⟨x1, rfl⟩ := hb1.get
        clear hb1
        have hmo := HM.out
        have hmo2 := HM2.out
        rcases hcase with ⟨rfl, rfl⟩ | ⟨d, rfl, HDD, hpos⟩
        · go_wp2
          go_roundg (gk - 1)
          case rel => exact ⟨k + 1, 0, putK ks (o.k.l, o.id), by go_num, by omega, by have := HG.out; omega, HQ3, Lib.hid (by omega), Lib.hid (HT3.out.ext (by repeat (first | exact Ext.refl' _ | assumption | apply Ext.ex' | apply Ext.al | apply Ext.drN | apply Ext.dr))), HE3.out.tr (by repeat (first | exact Ext.refl' _ | assumption | apply Ext.ex' | apply Ext.al | apply Ext.drN | apply Ext.dr))⟩
          case measure => have := HG.out; omega
        · have hz1 : ((n2 : Int) == 0) = false := beq_eq_false_iff_ne.2 (by omega)
          have hz2 : ((d : Int) + 1 == 0) = false := beq_eq_false_iff_ne.2 (by omega)
          go_wp2_with fail
          refine Calls.mono (power_n _ _ (m / 2 + 1) d _ ?hq ?hp (by omega) (by have := HM2.out; omega) (by omega)) ?_
          case hq => first | omega | (rw [Int.tdiv_eq_ediv_of_nonneg (by omega)]; omega)
          case hp => omega
          rintro e w1 ⟨P1, rfl, hP1, HP1, hb1⟩
          obtain ⟨x1, rfl⟩ := hb1.get
          clear hb1
          have hp1 : 2 * P1 ≤ n2 + 1 := by have := HP1.out; have := HDD.out.1; omega
          clear HP1
          go_wp2_with fail
          refine Calls.mono (power_n _ _ (m + 1) (d + 1) _ ?hq ?hp (by omega) (by have := HM2.out; omega) (by omega)) ?_
          case hq => omega
          case hp => omega
          rintro e w1 ⟨P2, rfl, hP2, HP2, hb1⟩
          obtain ⟨x1, rfl⟩ := hb1.get
          clear hb1
          have hp2 : n2 + 1 ≤ P2 := by have := HP2.out; have := HDD.out.2; omega
          clear HP2 HDD
          go_wp2
          go_roundg (gk - 1)
          case rel => exact ⟨k + 1, n2, putK ks (o.k.l, o.id), by go_num, by omega, by have := HG.out; omega, HQ3, Lib.hid (by have := HN2.out; have := HQ2.out; omega), Lib.hid (HT3.out.ext (by repeat (first | exact Ext.refl' _ | assumption | apply Ext.ex' | apply Ext.al | apply Ext.drN | apply Ext.dr))), HE3.out.tr (by repeat (first | exact Ext.refl' _ | assumption | apply Ext.ex' | apply Ext.al | apply Ext.drN | apply Ext.dr))⟩
          case measure => have := HG.out; omega
      · go_wp2_with fail
        refine Calls.mono (HDd.out _ (by repeat (first | exact Ext.refl' _ | assumption | apply Ext.ex' | apply Ext.al | apply Ext.drN | apply Ext.dr))) ?_
        rintro e w2 ⟨b2, rfl, HT3, hm3⟩
        obtain ⟨n2, hn2⟩ : ∃ n2, (delK ks (o.k.l, o.id)).length = n2 := ⟨_, rfl⟩
        have HQ3 := Lib.hid hn2
        have hn2k : n2 ≤ 150 := by have := delK_len ks (o.k.l, o.id); have := H150k.out.2; have := HQ.out; omega
        have HN2 : Hid (n2 ≤ nq + 1) := Lib.hid (by have := delK_len ks (o.k.l, o.id); have := HQ.out; omega)
        clear hn2
        have HE3 : Hid (Ext W w2) := Lib.hid (hm3.lo (hE.tr (by repeat (first | exact Ext.refl' _ | assumption | apply Ext.ex' | apply Ext.al | apply Ext.drN | apply Ext.dr))) (Nat.le_refl _))
        clear hm3 HDp HDd
        go_wp2_with fail
        refine Calls.mono (len_n W.heap.size m tb n2 (delK ks (o.k.l, o.id)) _ ?hT HQ3.out) ?_
        case hT => exact HT3.out.ext (by repeat (first | exact Ext.refl' _ | assumption | apply Ext.ex' | apply Ext.al | apply Ext.drN | apply Ext.dr))
        rintro e w1 ⟨rfl, hb1⟩
        obtain ⟨x1, rfl⟩ := hb1.get
        clear hb1
        go_wp2_with fail
        refine Calls.mono (dep_n W.heap.size m tb n2 (delK ks (o.k.l, o.id)) _ HM.out HM2.out ?hT HQ3.out hn2k) ?_
        case hT => exact HT3.out.ext (by repeat (first | exact Ext.refl' _ | assumption | apply Ext.ex' | apply Ext.al | apply Ext.drN | apply Ext.dr))
        rintro e w1 ⟨⟨D, rfl, hD, hcase⟩, hb1⟩
        obtain ⟨x1, rfl⟩ := hb1.get
        clear hb1
        have hmo := HM.out
        have hmo2 := HM2.out
        rcases hcase with ⟨rfl, rfl⟩ | ⟨d, rfl, HDD, hpos⟩
        · go_wp2
          go_roundg (gk - 1)
          case rel => exact ⟨k + 1, 0, delK ks (o.k.l, o.id), by go_num, by omega, by have := HG.out; omega, HQ3, Lib.hid (by omega), Lib.hid (HT3.out.ext (by repeat (first | exact Ext.refl' _ | assumption | apply Ext.ex' | apply Ext.al | apply Ext.drN | apply Ext.dr))), HE3.out.tr (by repeat (first | exact Ext.refl' _ | assumption | apply Ext.ex' | apply Ext.al | apply Ext.drN | apply Ext.dr))⟩
          case measure => have := HG.out; omega
        · have hz1 : ((n2 : Int) == 0) = false := beq_eq_false_iff_ne.2 (by omega)
          have hz2 : ((d : Int) + 1 == 0) = false := beq_eq_false_iff_ne.2 (by omega)
          go_wp2_with fail
          refine Calls.mono (power_n _ _ (m / 2 + 1) d _ ?hq ?hp (by omega) (by have := HM2.out; omega) (by omega)) ?_
          case hq => first | omega | (rw [Int.tdiv_eq_ediv_of_nonneg (by omega)]; omega)
          case hp => omega
          rintro e w1 ⟨P1, rfl, hP1, HP1, hb1⟩
          obtain ⟨x1, rfl⟩ := hb1.get
          clear hb1
          have hp1 : 2 * P1 ≤ n2 + 1 := by have := HP1.out; have := HDD.out.1; omega
          clear HP1
          go_wp2_with fail
          refine Calls.mono (power_n _ _ (m + 1) (d + 1) _ ?hq ?hp (by omega) (by have := HM2.out; omega) (by omega)) ?_
          case hq => omega
          case hp => omega
          rintro e w1 ⟨P2, rfl, hP2, HP2, hb1⟩
          obtain ⟨x1, rfl⟩ := hb1.get
          clear hb1
          have hp2 : n2 + 1 ≤ P2 := by have := HP2.out; have := HDD.out.2; omega
          clear HP2 HDD
          go_wp2
          go_roundg (gk - 1)
          case rel => exact ⟨k + 1, n2, delK ks (o.k.l, o.id), by go_num, by omega, by have := HG.out; omega, HQ3, Lib.hid (by have := HN2.out; have := HQ2.out; omega), Lib.hid (HT3.out.ext (by repeat (first | exact Ext.refl' _ | assumption | apply Ext.ex' | apply Ext.al | apply Ext.drN | apply Ext.dr))), HE3.out.tr (by repeat (first | exact Ext.refl' _ | assumption | apply Ext.ex' | apply Ext.al | apply Ext.drN | apply Ext.dr))⟩
          case measure => have := HG.out; omega
    · have hkz : ¬ ((k : Int) < (n : Int)) := by omega
      go_wp2_with fail
      refine Calls.mono (works_any _) ?_
      rintro e w1 ⟨rfl, hb1⟩
      obtain ⟨x1, rfl⟩ := hb1.get
      clear hb1
      go_wp2
      go_ret
      exact ⟨rfl, hE.tr (by repeat (first | exact Ext.refl' _ | assumption | apply Ext.ex' | apply Ext.al | apply Ext.drN | apply Ext.dr))⟩

end Go.Proofs.Ytdmbgimehepfaaa
