/- The reference of expressions: result. -/
import Derived.Test.YtflhikpihbenaaaGreatFrn
set_option linter.unusedSimpArgs false
set_option linter.unusedVariables false
namespace Go.Proofs.YtflhikpihbenaaaGreat
open Go.RowKit


set_option maxHeartbeats 4000000 in
theorem result_no (o i : Int) (v : Va) (nm : ByteArray) (A L K : Option Addr) (n c lc kc : Nat) (l ks : List Int) (w : World) (hL : Rd w 1 L l.length (ic l)) (hK : Rd w 1 K ks.length (ic ks)) (nl : l.length ≤ 9223372036854775807) (nk : ks.length ≤ 9223372036854775807) (h22 : o ≠ 22) (hcol : o ≠ 2) :
    Calls Tryz.prog 52 #[exag o i v nm A n c, .slice L l.length lc, .slice K ks.length kc] w fun e w' => RKB e ∧ Ext w w' := by
  go_enter Tryz.func52, Tryz.ntmps52
  go_wp2_with (first | (go_at_call 71; refine (all_any _ _ l _ _ (hL.ext (by repeat (first | exact Ext.refl' _ | assumption | apply Ext.ex' | apply Ext.al | apply Ext.drN | apply Ext.dr))) nl).mono ?_; rintro e w1 ⟨⟨ba, rfl⟩, hb1⟩; obtain ⟨x1, rfl⟩ := hb1.get; clear hb1) | (go_at_call 72; refine (join_any _ _ l _ (hL.ext (by repeat (first | exact Ext.refl' _ | assumption | apply Ext.ex' | apply Ext.al | apply Ext.drN | apply Ext.dr))) nl).mono ?_; rintro e w1 ⟨⟨ka, ba, rfl⟩, hb1⟩; obtain ⟨x1, rfl⟩ := hb1.get; clear hb1))
  all_goals try (exfalso; simp_all; done)
  all_goals go_ret2
  all_goals exact ⟨⟨_, _, rfl⟩, by repeat (first | exact Ext.refl' _ | assumption | apply Ext.ex' | apply Ext.al | apply Ext.drN | apply Ext.dr)⟩
set_option maxHeartbeats 4000000 in
theorem result_col (i : Int) (v : Va) (nm : ByteArray) (A L K : Option Addr) (n c lc kc : Nat) (l ks : List Int) (w : World) (hK : Rd w 1 K ks.length (ic ks)) (nk : ks.length ≤ 9223372036854775807) (hi : 0 ≤ i) (hi2 : i < ks.length) :
    Calls Tryz.prog 52 #[exag 2 i v nm A n c, .slice L l.length lc, .slice K ks.length kc] w fun e w' => RKB e ∧ Ext w w' := by
  obtain ⟨k, rfl⟩ : ∃ k : Nat, i = (k : Int) := ⟨i.toNat, by omega⟩
  have hlt : k < ks.length := by omega
  obtain ⟨g, oo, rfl, hg, c0⟩ := hK.int hlt
  generalize ks[k] = kd at c0
  go_enter Tryz.func52, Tryz.ntmps52
  go_wp2
  go_ret2
  exact ⟨⟨_, _, rfl⟩, by repeat (first | exact Ext.refl' _ | assumption | apply Ext.ex' | apply Ext.al | apply Ext.drN | apply Ext.dr)⟩
theorem Rd.cut {w : World} {b o : Nat} {a0 a1 a2 : Int} (h : Rd w 1 (some ⟨b, o, none⟩) 3 (ic [a0, a1, a2])) : Rd w 1 (some ⟨b, o, none⟩) 1 (ic [a0]) ∧ Rd w 1 (some ⟨b, o + 1, none⟩) 2 (ic [a1, a2]) := by
  obtain ⟨b', o', he, hb, hc⟩ := h.2 (by omega)
  cases he
  refine ⟨⟨rfl, fun _ => ⟨b, o, rfl, hb, fun j u hu => ?_⟩⟩, ⟨rfl, fun _ => ⟨b, o + 1, rfl, hb, fun j u hu => ?_⟩⟩⟩
  · refine hc j u ?_
    match j, hu with
    | 0, hu => exact hu
  · have := hc (j + 1) u hu
    rw [show o + 1 + j = o + (j + 1) from by omega]
    exact this
set_option maxHeartbeats 4000000 in
theorem result_if (i : Int) (v : Va) (nm : ByteArray) (A L K : Option Addr) (n c lc kc nks : Nat) (a0 a1 a2 : Int) (w : World) (hL : Rd w 1 L 3 (ic [a0, a1, a2])) (hlc : 3 ≤ lc) (hlc2 : lc ≤ 9223372036854775807) :
    Calls Tryz.prog 52 #[exag 22 i v nm A n c, .slice L 3 lc, .slice K nks kc] w fun e w' => RKB e ∧ Ext w w' := by
  obtain ⟨b0, o0, rfl, hb0, _⟩ := hL.2 (by omega)
  obtain ⟨r0, r1⟩ := hL.cut
  go_enter Tryz.func52, Tryz.ntmps52
  go_wp2_with (first | (go_at_call 71; refine (all_any _ _ [a0] _ _ (r0.ext (by repeat (first | exact Ext.refl' _ | assumption | apply Ext.ex' | apply Ext.al | apply Ext.drN | apply Ext.dr))) (by simp)).mono ?_; rintro e w1 ⟨⟨ba, rfl⟩, hb1⟩; obtain ⟨x1, rfl⟩ := hb1.get; clear hb1) | (go_at_call 72; refine (join_any _ _ [a1, a2] _ (r1.ext (by repeat (first | exact Ext.refl' _ | assumption | apply Ext.ex' | apply Ext.al | apply Ext.drN | apply Ext.dr))) (by simp)).mono ?_; rintro e w1 ⟨⟨ka, ba, rfl⟩, hb1⟩; obtain ⟨x1, rfl⟩ := hb1.get; clear hb1))
  all_goals go_ret2
  all_goals exact ⟨⟨_, _, rfl⟩, by repeat (first | exact Ext.refl' _ | assumption | apply Ext.ex' | apply Ext.al | apply Ext.drN | apply Ext.dr)⟩

end Go.Proofs.YtflhikpihbenaaaGreat
