/- The regions of a map collected; Merge. -/
import Derived.Test.YtpifjhoelnacgaaGreatCfJ
set_option linter.unusedSimpArgs false
set_option linter.unusedVariables false
namespace Go.Proofs.YtpifjhoelnacgaaGreat
open Go.RowKit Go.Maps


/-- what stands for the same instants -/
def Stands (l r : List Acc) : Prop := CanT r ∧ ∀ t x, inT r t x = inT l t x
theorem Stands.eq {l r s : List Acc} (h : Stands l r) (k : Stands l s) : r = s := canT_unique h.1 k.1 fun t x => by rw [h.2, k.2]
theorem Stands.le {l r : List Acc} (h : Stands l r) : r.length ≤ l.length := canT_le h.1 h.2
theorem Stands.wf {l r : List Acc} (h : Stands l r) (hw : ∀ a ∈ l, a.1.size ≤ maxLen) : ∀ a ∈ r, a.1.size ≤ maxLen := by
  intro a ha
  have hv := h.1.1 a ha
  have h1 : inT r (tb a) a.2.1 = true := List.any_eq_true.2 ⟨a, ha, by simp [inP_self hv]⟩
  rw [h.2] at h1
  obtain ⟨b, hb, hb2⟩ := List.any_eq_true.1 h1
  simp only [Bool.and_eq_true, decide_eq_true_eq] at hb2
  have := hw b hb
  unfold tb at hb2
  have he : a.1.size = b.1.size := by show a.1.data.size = b.1.data.size; rw [← Array.length_toList, ← Array.length_toList, hb2.1]
  rw [he]; exact this
theorem stands_regL {l : List Acc} {ks : List (List UInt8)} (hk : ks.Pairwise (· < ·)) (hm : ∀ t, t ∈ ks ↔ ofF (perV l t) ≠ []) : Stands l (regL (fun t => ofF (perV l t)) ks) :=
  ⟨regL_can (fun t _ => ofF_can _) hk, fun t x => by rw [regL_in hm]; show inL (ofF (perV l t)) x = _; rw [ofF_in, inL_perV]⟩
theorem collect_any (bm b N : Nat) (F : List UInt8 → List (Int × Int)) (ks : List (List UInt8)) (w : World) (hM : MapR w b N F) (hbm : w.cell? ⟨bm, 0, none⟩ = some (.map (some b))) (hN : N ≤ 1048576) (hk : ks.Pairwise (· < ·)) (hm : ∀ t, t ∈ ks ↔ F t ≠ []) (hF : ∀ t, (F t).length ≤ 549755813888) (hRL : (regL F ks).length ≤ 1048576) :
    Calls Tryz.prog 32 #[.func (.func 46) #[] #[.pointer (some ⟨bm, 0, none⟩)]] w fun e w' => ∃ A c, e = .returned (.slice A (regL F ks).length c) ∧ Ext w w' ∧ Rd w' 3 A (regL F ks).length (acl (regL F ks)) := by
  have H := Lib.hid (appendSeq_any bm b N F ks w hM hbm hN hk hm hF hRL)
  generalize regL F ks = r at H ⊢
  clear hM hbm hN hk hm hF hRL
  go_enter Tryz.func32, Tryz.ntmps32
  go_wp2_with (go_at_call 49; refine Calls.mono H.out ?_; rintro e w1 ⟨A1, c1, rfl, hb1, hP⟩)
  go_ret
  exact ⟨A1, c1, rfl, hb1, hP⟩
set_option maxHeartbeats 1000000 in
theorem merge_any (A : Option Addr) (n c : Nat) (l : List Acc) (w : World) (hn : n = l.length) (hR : Rd w 3 A n (acl l)) (hl : l.length ≤ 1048576) (hwf : ∀ a ∈ l, a.1.size ≤ maxLen) :
    Calls Tryz.prog 13 #[.slice A n c] w fun e w' => ∃ (A' : Option Addr) (c' : Nat) (r : List Acc), e = .returned (.slice A' r.length c') ∧ Ext w w' ∧ Rd w' 3 A' r.length (acl r) ∧ Stands l r := by
  subst hn
  have HS := Lib.hid (spans_any A l.length c l w rfl hR hl hwf)
  have HC := Lib.hid (fun bm b ks w hM hbm hk hm hRL => collect_any bm b l.length (fun t => ofF (perV l t)) ks w hM hbm hl hk hm (fun t => can_short (ofF_can _)) hRL)
  have HL : Hid (∀ ks, ks.Pairwise (· < ·) → (∀ t, t ∈ ks ↔ ofF (perV l t) ≠ []) → Stands l (regL (fun t => ofF (perV l t)) ks)) := Lib.hid (fun ks hk hm => stands_regL hk hm)
  clear hwf hR
  go_enter Tryz.func13, Tryz.ntmps13
  go_wp2_with (first | (go_at_call 29; refine Calls.mono HS.out ?_; rintro e w1 ⟨b, rfl, hb1, hM⟩) | (go_at_call 31; refine Calls.mono (regions_any b _) ?_; rintro e w2 ⟨rfl, rfl⟩))
  obtain ⟨ks, hk, hm, hkl⟩ := hM.keys
  have hst := HL.out ks hk hm
  have hle := hst.le
  refine Calls.mono (HC.out w1.heap.size b ks _ (hM.ext (by repeat (first | exact Ext.refl' _ | assumption | apply Ext.ex' | apply Ext.al | apply Ext.drN | apply Ext.dr))) (by simp [go_sem]) hk hm (by omega)) ?_
  rintro e w3 ⟨A3, c3, rfl, hb3, hP⟩
  generalize regL (fun t => ofF (perV l t)) ks = r at hst hP hle ⊢
  go_wp2
  go_ret
  exact ⟨A3, c3, r, rfl, hb1.tr (Ext.tr (by repeat (first | exact Ext.refl' _ | assumption | apply Ext.ex' | apply Ext.al | apply Ext.drN | apply Ext.dr)) hb3), hP, hst⟩

end Go.Proofs.YtpifjhoelnacgaaGreat
