/- Versions and regions of chapter 46, opened. -/
import Derived.Test.YtpifjhoelnacgaaGreatGop
import Derived.Test.YtpifjhoelnacgaaGreatCfD
set_option linter.unusedSimpArgs false
set_option linter.unusedVariables false
namespace Go.Proofs.YtpifjhoelnacgaaGreat
open Go.ChangeShapes Go.WideShapes Go.ChangeAt Go.RowKit Go.Joins Go.Deep

theorem opnInt : Opn Tryz.prog 3 1 (fun a : Int => [.int .i64 a]) (fun _ _ => True) :=
  (Opn.int Tryz.underlying3).as (fun a => a) (fun _ => rfl) (fun _ => rfl) (fun _ _ _ => trivial)
theorem opnVa : Opn Tryz.prog 64 3 vc (fun _ v => v.t.size ≤ maxLen) :=
  (Opn.struct Tryz.underlying64 (Flds.cons opnInt rfl (by kernel_rfl) (Flds.cons opnInt rfl (by kernel_rfl) (Flds.one (Opn.str Tryz.underlying9) rfl (by kernel_rfl)))) (by kernel_rfl)).as
    (fun a => (⟨a.1, a.2.1, a.2.2⟩ : Va)) (fun _ => rfl) (fun _ => rfl) (fun _ _ h => h.2.2)
theorem opnPer : Opn Tryz.prog 30 2 (fun p : Int × Int => [.int .i64 p.1, .int .i64 p.2]) (fun _ _ => True) :=
  (Opn.struct Tryz.underlying30 (Flds.cons opnInt rfl (by kernel_rfl) (Flds.one opnInt rfl (by kernel_rfl))) (by kernel_rfl)).as (fun a => a) (fun _ => rfl) (fun _ => rfl) (fun _ _ _ => trivial)
theorem opnRow : Opn Tryz.prog 39 1 (encS (α := Va)) (memS 3 vc (fun _ v => v.t.size ≤ maxLen)) := Opn.slice Tryz.underlying39 opnVa (by kernel_rfl) (by decide)
theorem opnVR : Opn Tryz.prog 41 9 (fun p : VR => ev p.1) VROk :=
  (Opn.struct Tryz.underlying41 (Flds.cons opnInt rfl (by kernel_rfl) (Flds.cons opnInt rfl (by kernel_rfl) (Flds.cons opnRow rfl (by kernel_rfl) (Flds.cons opnPer rfl (by kernel_rfl) (Flds.cons opnPer rfl (by kernel_rfl)
    (Flds.cons opnInt rfl (by kernel_rfl) (Flds.one opnInt rfl (by kernel_rfl)))))))) (by kernel_rfl)).as
    (fun a => ((⟨a.1, a.2.1, a.2.2.1.A, a.2.2.1.l.length, a.2.2.1.c, a.2.2.2.1, a.2.2.2.2.1, a.2.2.2.2.2.1, a.2.2.2.2.2.2⟩, a.2.2.1.l) : VR)) (fun _ => rfl) (fun _ => rfl)
    (fun _ _ h => ⟨rfl, h.2.2.1.2.2.1, Nat.le_trans h.2.2.1.1 h.2.2.1.2.1⟩)
theorem opnVRs : Opn Tryz.prog 22 1 (encS (α := VR)) (memS 9 (fun p : VR => ev p.1) VROk) := Opn.slice Tryz.underlying22 opnVR (by kernel_rfl) (by decide)
theorem vev_flat (l : List VR) : l.flatMap (fun p : VR => ev p.1) = evl (l.map (·.1)) := by unfold evl; rw [List.flatMap_map]
end Go.Proofs.YtpifjhoelnacgaaGreat
