/- The truth value of an expression at a row, of the reference. -/
import Derived.Test.YtflhikpihbenaaaGreatEv8
set_option linter.unusedSimpArgs false
set_option linter.unusedVariables false
namespace Go.Proofs.YtflhikpihbenaaaGreat
open Go.RowKit


def TrR (row : List Va) (ex : Ex) (e : Ending) : Prop := ∃ z : Int, e = .returned (.int .i64 z) ∧ (z = 2 → hol row ex)
set_option maxRecDepth 100000 in
set_option maxHeartbeats 20000000 in
theorem truth11_any (RA : Option Addr) (rc : Nat) (row : List Va) (nl : row.length ≤ 1048576) (hz : ∀ v ∈ row, v.t.size ≤ 9223372036854775807) (o i : Int) (v : Va) (nm : ByteArray) (A : Option Addr) (args : List Ex) (c : Nat) (css : List (List Value)) (w : World) (hsz : szs args ≤ 1048576) (hvt : v.t.size ≤ 9223372036854775807) (hR : Rd w 7 A args.length css.flatten) (hs : REs w args css) (hRow : Rd w 3 RA row.length (vcl row)) :
    Calls Tryz.prog 9 #[exag o i v nm A args.length c, .slice RA row.length rc] w fun e w' => TrR row (.mk o i v nm args) e ∧ Ext w w' := by
  have HE := Lib.hid fun W (e : Ext w W) => eval_any RA rc row nl hz _ o i v nm A args c css W rfl hsz hvt (hR.ext e) (REs.ext e hs) (hRow.ext e)
  clear hR hs hRow
  go_enter Tryz.func9, Tryz.ntmps9
  go_wp2_with fail
  refine (HE.out _ (by repeat (first | exact Ext.refl' _ | assumption | apply Ext.ex' | apply Ext.al | apply Ext.drN | apply Ext.dr))).mono ?_
  rintro e w1 ⟨⟨r, rfl, hr1, hr2, _⟩, hb1⟩
  obtain ⟨x1, rfl⟩ := hb1.get
  have HH := Lib.hid (show trT r = 2 → hol row (.mk o i v nm args) from fun h => hr2 (trT_two.1 h))
  have HT := Lib.hid fun W => rTruth7_any r W
  generalize trT r = z at HH HT
  clear hb1 hr1 hr2
  go_wp2_with fail
  refine (HT.out _).mono ?_
  rintro e w1 ⟨rfl, hb1⟩
  obtain ⟨x2, rfl⟩ := hb1.get
  clear hb1
  go_wp2
  go_ret
  exact ⟨⟨_, rfl, HH.out⟩, by repeat (first | exact Ext.refl' _ | assumption | apply Ext.ex' | apply Ext.al | apply Ext.drN | apply Ext.dr)⟩

end Go.Proofs.YtflhikpihbenaaaGreat
