/- BtreeActs: the result of each operation, the tree checked after it. -/
import Derived.Test.YtdmbgimehepfaaaBtLa
set_option linter.unusedSimpArgs false
set_option linter.unusedVariables false
namespace Go.Proofs.Ytdmbgimehepfaaa
open Go.RowKit


set_option maxRecDepth 100000 in
set_option maxHeartbeats 8000000 in
theorem lawActs_any (a : Int) (A : Option Addr) (c : Nat) (l : List OpV) (W : World) (wa : (Lit.int .u8 a).wf = true) (hR : Rd W 3 A l.length (opl l)) (hl : l.length ≤ maxLen) (ho : ∀ o ∈ l, OpOk W o) : Calls Try.prog 4 #[.int .u8 a, .slice A l.length c] W fun e w' => e = .returned (.bool true) ∧ Ext W w' := by
  obtain ⟨n, hn⟩ : ∃ n, l.length = n := ⟨_, rfl⟩
  have HN := Lib.hid hn
  rw [hn] at hR hl ⊢
  unfold maxLen at hl
  have HO := Lib.hid ho
  obtain ⟨m, ha0, ha1, hmq, hm, hm2⟩ := order_m wa
  have HMQ := Lib.hid hmq
  have HM := Lib.hid hm
  have HM2 := Lib.hid hm2
  clear hn ho hmq hm hm2 wa
  go_enter Try.func4, Try.ntmps4
  go_wp2_with fail
  refine Calls.mono (new_u W.heap.size m _ _ HMQ.out HM.out HM2.out (by simp)) ?_
  rintro e w1 ⟨tb, rfl, ht0, hb1⟩
  have hE1 : Ext W w1 := hb1
  have HT1 := Lib.hid ht0
  clear ht0 hb1
  go_wp2_with fail
  refine Calls.mono (small_n A n c l _ HN.out (hR.ext hE1) (by unfold maxLen; exact hl) (fun o ho => (HO.out o ho).ext hE1)) ?_
  rintro e w2 ⟨⟨b, rfl, hb⟩, hb1⟩
  obtain ⟨x1, rfl⟩ := hb1.get
  clear hb1
  have HB := Lib.hid hb
  clear hb
  cases b
  · go_wp2_with fail
    refine Calls.mono (works_any _) ?_
    rintro e w1 ⟨rfl, hb1⟩
    obtain ⟨x1, rfl⟩ := hb1.get
    clear hb1
    go_wp2
    go_ret
    exact ⟨rfl, hE1.tr (by repeat (first | exact Ext.refl' _ | assumption | apply Ext.ex' | apply Ext.al | apply Ext.drN | apply Ext.dr))⟩
  obtain ⟨h150, h12⟩ := HB.out rfl
  rw [HN.out] at h150
  have H12 := Lib.hid h12
  have H150 := Lib.hid h150
  clear HB h12 hl
  go_wp2
  go_loopg [7, 9, 10, 11, 38] n (fun g x v9 v10 v11 i wr => ∃ (k nq c' : Nat) (A' : Option Addr) (ks : List Kp), x = .slice A' nq c' ∧ i = .int .i64 k ∧ k ≤ n ∧ n - k ≤ g ∧ Hid (ks.length = nq) ∧ Hid (nq ≤ k) ∧ Hid (TK W.heap.size wr tb m ks) ∧ Hid (RK W.heap.size wr (.slice A' nq c') ks) ∧ Ext W wr)
  case atStart => exact ⟨0, 0, 0, none, [], rfl, rfl, by omega, by omega, Lib.hid rfl, Lib.hid (by omega), Lib.hid (HT1.out.ext (by repeat (first | exact Ext.refl' _ | assumption | apply Ext.ex' | apply Ext.al | apply Ext.drN | apply Ext.dr))), Lib.hid (RK.none _ _), hE1.tr (by repeat (first | exact Ext.refl' _ | assumption | apply Ext.ex' | apply Ext.al | apply Ext.drN | apply Ext.dr))⟩
  case round =>
    obtain ⟨k, nq, c', A', ks, rfl, rfl, hk, hg, HQ, HQ2, HT, HX, hE⟩ := hrel
    have HG := Lib.hid hg
    clear hg
    by_cases hlt : k < n
    · have hkz : (k : Int) < (n : Int) := by omega
      obtain ⟨o, pb, po, hq, rfl, hpb, q0, q1, q2⟩ := op_at (hR.ext hE) HN.out hlt
      have HOo : Hid (OpOk wr o) := Lib.hid ((HO.out o (List.mem_of_getElem? hq)).ext hE)
      have H12o : Hid (o.k.l.length ≤ 12) := Lib.hid (H12.out o (List.mem_of_getElem? hq))
      have HD : Hid (∀ w, Ext wr w → Calls Try.prog 20 #[pt tb, .slice A' nq c', opv o] w (DoQ W.heap.size w tb m (opK ks o))) := Lib.hid fun w e =>
        do_o W.heap.size m tb ks _ o w HM.out HM2.out (hE.tr e).size (HT.out.ext e) (HX.out.ext e) (HOo.out.ext e) H12o.out (by have := HQ.out; have := HQ2.out; have := H150.out; omega)
      clear hq
      go_wp2_with fail
      refine Calls.mono (HD.out _ (by repeat (first | exact Ext.refl' _ | assumption | apply Ext.ex' | apply Ext.al | apply Ext.drN | apply Ext.dr))) ?_
      rintro e w2 ⟨A2, c2, n2, rfl, HQ3, HT3, HX3, hm3⟩
      have HE3 : Hid (Ext W w2) := Lib.hid (hm3.lo (hE.tr (by repeat (first | exact Ext.refl' _ | assumption | apply Ext.ex' | apply Ext.al | apply Ext.drN | apply Ext.dr))) (Nat.le_refl _))
      clear hm3 HD
      go_wp2_with fail
      refine Calls.mono (len_n W.heap.size m tb n2 (opK ks o) _ ?hT HQ3.out) ?_
      case hT => exact HT3.out.ext (by repeat (first | exact Ext.refl' _ | assumption | apply Ext.ex' | apply Ext.al | apply Ext.drN | apply Ext.dr))
      rintro e w1 ⟨rfl, hb1⟩
      obtain ⟨x1, rfl⟩ := hb1.get
      clear hb1
      go_wp2_with fail
      refine Calls.mono (chk_k W.heap.size m tb (opK ks o) _ HM.out HM2.out ?hT) ?_
      case hT => exact HT3.out.ext (by repeat (first | exact Ext.refl' _ | assumption | apply Ext.ex' | apply Ext.al | apply Ext.drN | apply Ext.dr))
      rintro e w1 ⟨rfl, hb1⟩
      obtain ⟨x1, rfl⟩ := hb1.get
      clear hb1
      go_wp2_with fail
      refine Calls.mono (pre_k W.heap.size m tb (opK ks o) none 0 [] _ HM.out HM2.out ?hT Rd.nil (by decide)) ?_
      case hT => exact HT3.out.ext (by repeat (first | exact Ext.refl' _ | assumption | apply Ext.ex' | apply Ext.al | apply Ext.drN | apply Ext.dr))
      intro e w1 hp
      obtain ⟨n4, A4, c4, rfl, HQ4, HR4, hb1⟩ := hp.n
      obtain ⟨x1, rfl⟩ := hb1.get
      clear hb1 hp
      go_wp2_with fail
      refine Calls.mono (rpre_k W.heap.size _ (opK ks o) none 0 [] _ ?hX Rd.nil (by decide)) ?_
      case hX => exact HX3.out.ext (by repeat (first | exact Ext.refl' _ | assumption | apply Ext.ex' | apply Ext.al | apply Ext.drN | apply Ext.dr))
      intro e w1 hp
      obtain ⟨n5, A5, c5, rfl, HQ5, HR5, hb1⟩ := hp.n
      obtain ⟨x1, rfl⟩ := hb1.get
      clear hb1 hp
      go_wp2_with fail
      refine Calls.mono (ints_n (preK (opK ks o) []) _ _ _ _ _ _ _ HQ4.out HQ5.out ?hA ?hB ?hl) ?_
      case hA => exact HR4.out.ext (by repeat (first | exact Ext.refl' _ | assumption | apply Ext.ex' | apply Ext.al | apply Ext.drN | apply Ext.dr))
      case hB => exact HR5.out.ext (by repeat (first | exact Ext.refl' _ | assumption | apply Ext.ex' | apply Ext.al | apply Ext.drN | apply Ext.dr))
      case hl => exact Nat.le_trans (preK_len _ _) (Nat.le_trans (opK_len _ _) (by have := HQ.out; have := HQ2.out; have := H150.out; omega))
      rintro e w1 ⟨rfl, hb1⟩
      obtain ⟨x1, rfl⟩ := hb1.get
      clear hb1
      go_wp2
      go_roundg (gk - 1)
      case rel => exact ⟨k + 1, n2, c2, A2, opK ks o, rfl, by go_num, by omega, by have := HG.out; omega, HQ3, Lib.hid (by have := opK_len ks o; have := HQ.out; have := HQ2.out; have := HQ3.out; omega), Lib.hid (HT3.out.ext (by repeat (first | exact Ext.refl' _ | assumption | apply Ext.ex' | apply Ext.al | apply Ext.drN | apply Ext.dr))), Lib.hid (HX3.out.ext (by repeat (first | exact Ext.refl' _ | assumption | apply Ext.ex' | apply Ext.al | apply Ext.drN | apply Ext.dr))), HE3.out.tr (by repeat (first | exact Ext.refl' _ | assumption | apply Ext.ex' | apply Ext.al | apply Ext.drN | apply Ext.dr))⟩
      case measure => have := HG.out; omega
    · have hkz : ¬ ((k : Int) < (n : Int)) := by omega
      go_wp2_with fail
      refine Calls.mono (works_any _) ?_
      rintro e w1 ⟨rfl, hb1⟩
      obtain ⟨x1, rfl⟩ := hb1.get
      clear hb1
      go_wp2
      go_ret
      exact ⟨rfl, hE.tr (by repeat (first | exact Ext.refl' _ | assumption | apply Ext.ex' | apply Ext.al | apply Ext.drN | apply Ext.dr))⟩

end Go.Proofs.Ytdmbgimehepfaaa
