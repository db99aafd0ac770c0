/- few; nothing has changed. -/
import Derived.Test.YtpifjhoelnacgaaGreatCfW
set_option linter.unusedSimpArgs false
set_option linter.unusedVariables false
namespace Go.Proofs.YtpifjhoelnacgaaGreat
open Go.RowKit


def fewF (l : List Ve) : Bool := decide (l.length ≤ 40) && l.all fun v => decide (v.rn ≤ 20)
theorem fewF_out {l : List Ve} (h : fewF l = true) : l.length ≤ 40 ∧ ∀ v ∈ l, v.rn ≤ 20 := by simpa [fewF] using h
theorem few_end {l : List Ve} {k : Nat} (hk : k ≤ 40) (hlt : ¬ k < 40 ∨ ¬ k < l.length) (hT : ∀ v ∈ l.take k, v.rn ≤ 20) : decide ((l.length : Int) ≤ 40) = fewF l := by
  rw [Bool.eq_iff_iff]
  simp only [decide_eq_true_eq]
  constructor
  · intro h
    have h2 : l.length ≤ 40 := by omega
    have h3 : l.take k = l := List.take_of_length_le (by omega)
    rw [h3] at hT
    simpa [fewF, h2] using hT
  · intro h
    have := (fewF_out h).1
    omega
set_option maxRecDepth 100000 in
set_option maxHeartbeats 2000000 in
theorem few_any (A : Option Addr) (n c : Nat) (l : List Ve) (w : World) (hn : n = l.length) (hA : Rd w 9 A n (evl l)) :
    Calls Tryz.prog 6 #[.slice A n c] w fun e w' => e = .returned (.bool (fewF l)) ∧ Ext w w' := by
  subst hn
  go_enter Tryz.func6, Tryz.ntmps6
  go_wp2
  go_loopw [3] (fun i wr => ∃ k : Nat, k ≤ l.length ∧ i = .int .i64 k ∧ Hid (∀ v ∈ l.take k, v.rn ≤ 20) ∧ Ext w wr ∧ k ≤ 40) (fun i _ => l.length - (intOf i).toNat)
  case atStart => exact ⟨0, by omega, rfl, Lib.hid (by simp), Ext.refl' _, by omega⟩
  case round =>
    obtain ⟨k, hk, rfl, HT, hE, hk40⟩ := hrel
    by_cases hlt : k < l.length
    · by_cases h40 : k < 40
      · obtain ⟨b, o, rfl, hbw, hc⟩ := (hA.ext hE).ve rfl hlt
        have c2 := hc 2 _ rfl
        have HMM := Lib.hid (List.getElem_mem hlt)
        have HTS := Lib.hid (List.take_succ_eq_append_getElem hlt)
        generalize l[k] = V at c2 HTS HMM
        clear hc
        by_cases h20 : V.rn ≤ 20
        · go_wp2
          go_roundw
          case rel => exact ⟨k + 1, by omega, by go_num, Lib.hid (by
            rw [HTS.out]; intro v hv
            rcases List.mem_append.1 hv with h | h
            · exact HT.out v h
            · rw [List.mem_singleton.1 h]; exact h20), hE.tr (by repeat (first | exact Ext.refl' _ | assumption | apply Ext.ex' | apply Ext.al | apply Ext.drN | apply Ext.dr)), by omega⟩
          case measure => simp [intOf]; omega
        · go_wp2
          go_ret
          have hf : fewF l = false := by
            rcases hf : fewF l with _ | _
            · rfl
            · exact absurd ((fewF_out hf).2 V HMM.out) h20
          exact ⟨congrArg (fun b => Ending.returned (.bool b)) hf.symm, hE.tr (by repeat (first | exact Ext.refl' _ | assumption | apply Ext.ex' | apply Ext.al | apply Ext.drN | apply Ext.dr))⟩
      · go_wp2
        go_ret
        exact ⟨congrArg (fun b => Ending.returned (.bool b)) (few_end hk40 (by omega) HT.out), hE.tr (by repeat (first | exact Ext.refl' _ | assumption | apply Ext.ex' | apply Ext.al | apply Ext.drN | apply Ext.dr))⟩
    · go_wp2
      go_ret
      exact ⟨congrArg (fun b => Ending.returned (.bool b)) (few_end hk40 (by omega) HT.out), hE.tr (by repeat (first | exact Ext.refl' _ | assumption | apply Ext.ex' | apply Ext.al | apply Ext.drN | apply Ext.dr))⟩
/-- all opened and closed before: no slice is bounded -/
theorem bndV_nil {l : List VR} {x : Int} (hx : x < 1099511627776) (h : ∀ p ∈ l, (p.1.s.2 = 1099511627776 ∧ p.1.s.1 ≤ x) ∨ p.1.s.2 ≤ x) : bndV l x = [] := by
  unfold bndV
  rw [List.filter_eq_nil_iff.2, List.map_nil]
  intro p hp
  have := h p hp
  rcases hv : vldB p with _ | _
  · simp
  · have h2 : inP p.1.s x = (p.1.s.2 == 1099511627776) := by
      rw [Bool.eq_iff_iff]
      unfold vldB at hv
      simp [pvB, inP] at hv ⊢
      omega
    simp [h2]
theorem chgL_nil {t : ByteArray} {l : List VR} {x : Int} (hx : x < 1099511627776) (h : ∀ p ∈ l, (p.1.s.2 = 1099511627776 ∧ p.1.s.1 ≤ x) ∨ p.1.s.2 ≤ x) : chgL t l x = [] := by
  unfold chgL
  rw [bndV_nil hx h]
  rfl

end Go.Proofs.YtpifjhoelnacgaaGreat
