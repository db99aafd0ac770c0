/- The reference of expressions: depth. -/
import Derived.Test.YtflhikpihbenaaaGreatEch
set_option linter.unusedSimpArgs false
set_option linter.unusedVariables false
namespace Go.Proofs.YtflhikpihbenaaaGreat
open Go.RowKit


/-- some int -/
def RI (e : Ending) : Prop := ∃ k : Int, e = .returned (.int .i64 k)
set_option maxHeartbeats 4000000 in
theorem depth_any (m : Nat) : ∀ (o i : Int) (v : Va) (nm : ByteArray) (A : Option Addr) (args : List Ex) (c : Nat) (css : List (List Value)) (w : World), szs args = m → Rd w 7 A args.length css.flatten → REs w args css → args.length ≤ 9223372036854775807 →
    Calls Tryz.prog 25 #[exag o i v nm A args.length c] w fun e w' => RI e ∧ Ext w w' := by
  induction m using Nat.strongRecOn with
  | _ m ih =>
    intro o i v nm A args c css w hm hR hs hl
    have IH := Lib.hid ih
    have HM := Lib.hid hm
    clear ih hm
    go_enter Tryz.func25, Tryz.ntmps25
    go_wp2_with fail
    go_loopw [3, 4] (fun q ix wr => ∃ (k : Nat) (acc : Int) (x : Add), k ≤ args.length ∧ q = .int .i64 acc ∧ ix = .int .i64 k ∧ wr = ext (w.alloc (.cells #[.int .i64 o, .int .i64 i, .int .i64 v.k, .int .i64 v.i, .string v.t, .string nm, .slice A args.length c] 31)) x) (fun _ ix _ => args.length - (intOf ix).toNat)
    case atStart =>
      obtain ⟨x, hx⟩ := (Ext.refl' (w.alloc (.cells #[.int .i64 o, .int .i64 i, .int .i64 v.k, .int .i64 v.i, .string v.t, .string nm, .slice A args.length c] 31))).get
      exact ⟨0, 0, x, Nat.zero_le _, rfl, rfl, hx⟩
    case round =>
      obtain ⟨k, acc, x, hk, rfl, rfl, rfl⟩ := hrel
      by_cases hlt : k < args.length
      · have hR1 := hR.ext (show Ext w (ext (w.alloc (.cells #[.int .i64 o, .int .i64 i, .int .i64 v.k, .int .i64 v.i, .string v.t, .string nm, .slice A args.length c] 31)) x) from by repeat (first | exact Ext.refl' _ | assumption | apply Ext.ex' | apply Ext.al | apply Ext.drN | apply Ext.dr))
        have hs1 := REs.ext (show Ext w (ext (w.alloc (.cells #[.int .i64 o, .int .i64 i, .int .i64 v.k, .int .i64 v.i, .string v.t, .string nm, .slice A args.length c] 31)) x) from by repeat (first | exact Ext.refl' _ | assumption | apply Ext.ex' | apply Ext.al | apply Ext.drN | apply Ext.dr)) hs
        obtain ⟨b0, o0, hAe, hb0, A1, c1, css1, p0, p1, p2, p3, p4, p5, p6, p7, p8, p9, p10, p11, p12⟩ := RE.arg hR1 hs1 hlt
        subst hAe
        have hsz := szs_get args k hlt
        have HR := IH.out _ (by have := HM.out; omega) args[k].op args[k].i args[k].v args[k].nm A1 args[k].args c1 css1 _ rfl p11 p12 p9
        have HR2 := Lib.hid HR
        clear HR hsz p7 p8 p9 p10 p11 p12 hR1 hs1
        generalize args[k] = ek at p0 p1 p2 p3 p4 p5 p6 HR2
        go_wp2_with (go_at_call 25; refine HR2.out.mono ?_; rintro e w1 ⟨⟨dk, rfl⟩, hb1⟩; obtain ⟨x1, rfl⟩ := hb1.get; clear hb1)
        go_roundw
        case rel =>
          go_light
          obtain ⟨x2, hx2⟩ := ((Ext.ex (w.alloc (.cells #[.int .i64 o, .int .i64 i, .int .i64 v.k, .int .i64 v.i, .string v.t, .string nm, .slice (some ⟨b0, o0, none⟩) args.length c] 31)) x).tr (Ext.ex _ x1)).get
          exact ⟨k + 1, _, x2, by omega, rfl, by go_num, hx2⟩
        case measure => go_light; simp [intOf]; omega
      · go_wp2_with fail
        go_ret
        exact ⟨⟨_, rfl⟩, by repeat (first | exact Ext.refl' _ | assumption | apply Ext.ex' | apply Ext.al | apply Ext.drN | apply Ext.dr)⟩

end Go.Proofs.YtflhikpihbenaaaGreat
