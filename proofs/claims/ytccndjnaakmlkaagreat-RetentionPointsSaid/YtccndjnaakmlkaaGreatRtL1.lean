/- The walk of the law RetentionPoints. -/
import Derived.Test.YtccndjnaakmlkaaGreatRtI
import Derived.Test.YtccndjnaakmlkaaGreatRtG
set_option linter.unusedSimpArgs false
set_option linter.unusedVariables false
namespace Go.Proofs.YtccndjnaakmlkaaGreat
open Go.RowKit


set_option maxRecDepth 100000 in
set_option maxHeartbeats 8000000 in
theorem lawPoints_any (LA HA : Option Addr) (lc hc : Nat) (Z : List VP) (hs : List Rct) (h la : Int) (r : Rct) (v t : Int) (w : World) (hl : Rd w 9 LA Z.length (verc (vsOf Z))) (hz : ∀ z ∈ Z, VerIs w z.1 z.2) (hh : Rd w 4 HA hs.length (rcl hs)) (nl : Z.length ≤ 9223372036854775807) (nh : hs.length ≤ 9223372036854775807) (nr : ∀ z ∈ Z, z.1.rn ≤ 9223372036854775807) :
    Calls Tryz.prog 3 #[.agg #[.slice LA Z.length lc, .int .i64 h, .int .i64 la, .slice HA hs.length hc, .int .i64 r.1.1, .int .i64 r.1.2, .int .i64 r.2.1, .int .i64 r.2.2, .int .i64 v, .int .i64 t]] w fun e w' => e = .returned (.bool true) ∧ Ext w w' := by
  have HL := Lib.hid (fun w h1 => rlargeZ_any LA HA lc hc Z hs w h1 nl nh nr)
  rcases hlg : largeB (vsOf Z) hs with _ | _
  · obtain ⟨nl', nh', nr'⟩ := large_no hlg
    rw [hlg] at HL
    clear hlg
    go_enter Tryz.func3, Tryz.ntmps3
    go_wp2_with fail
    refine Calls.mono (HL.out _ (hl.ext (by repeat (first | exact Ext.refl' _ | assumption | apply Ext.ex' | apply Ext.al | apply Ext.drN | apply Ext.dr)))) ?_
    rintro e W1 ⟨rfl, HE⟩
    have hE1 : Ext w W1 := Ext.tr (by repeat (first | exact Ext.refl' _ | assumption | apply Ext.ex' | apply Ext.al | apply Ext.drN | apply Ext.dr)) HE
    have hs1 := HE.size
    simp only [size_ext, World.size_alloc] at hs1
    have k0 : W1.cell? ⟨w.heap.size, 0, none⟩ = some (.slice LA Z.length lc) := HE.cell' (by simp [go_sem, ↓IntWalk.iteOmega])
    have k1 : W1.cell? ⟨w.heap.size, 1, none⟩ = some (.int .i64 h) := HE.cell' (by simp [go_sem, ↓IntWalk.iteOmega])
    have k2 : W1.cell? ⟨w.heap.size, 2, none⟩ = some (.int .i64 la) := HE.cell' (by simp [go_sem, ↓IntWalk.iteOmega])
    have k3 : W1.cell? ⟨w.heap.size, 3, none⟩ = some (.slice HA hs.length hc) := HE.cell' (by simp [go_sem, ↓IntWalk.iteOmega])
    have k4 : W1.cell? ⟨w.heap.size, 4, none⟩ = some (.int .i64 r.1.1) := HE.cell' (by simp [go_sem, ↓IntWalk.iteOmega])
    have k5 : W1.cell? ⟨w.heap.size, 5, none⟩ = some (.int .i64 r.1.2) := HE.cell' (by simp [go_sem, ↓IntWalk.iteOmega])
    have k6 : W1.cell? ⟨w.heap.size, 6, none⟩ = some (.int .i64 r.2.1) := HE.cell' (by simp [go_sem, ↓IntWalk.iteOmega])
    have k7 : W1.cell? ⟨w.heap.size, 7, none⟩ = some (.int .i64 r.2.2) := HE.cell' (by simp [go_sem, ↓IntWalk.iteOmega])
    have k8 : W1.cell? ⟨w.heap.size, 8, none⟩ = some (.int .i64 v) := HE.cell' (by simp [go_sem, ↓IntWalk.iteOmega])
    have k9 : W1.cell? ⟨w.heap.size, 9, none⟩ = some (.int .i64 t) := HE.cell' (by simp [go_sem, ↓IntWalk.iteOmega])
    clear HE
    have hl1 := hl.ext hE1
    have hh1 := hh.ext hE1
    clear hl hh
    go_wp2
    go_loopw [3] (fun s3 wr => ∃ i : Nat, i ≤ Z.length ∧ s3 = .int .i64 i ∧ Ext W1 wr) (fun s3 _ => Z.length - (intOf s3).toNat)
    case atStart => exact ⟨0, by omega, rfl, Ext.refl' _⟩
    case round =>
      obtain ⟨i, hi, rfl, hex⟩ := hrel
      obtain ⟨x, rfl⟩ := hex.get
      clear hex
      by_cases hlt : i < Z.length
      · obtain ⟨vx, HVX, gb, ob, rfl, hgb, d0, d1, d2, d3, d4, d5, d6, d7, d8⟩ := hl1.verAt rfl hlt
        go_wp2_with fail
        refine wp_region_ext (by kernel_rfl) (by kernel_rfl) ?_
        repeat (first | go_big_quiet_step ((go_at_call 9; exact Calls.ext_of (points_any _ HA lc hc Z hs h la r v t vx _ (hh1.ext (by repeat (first | exact Ext.refl' _ | assumption | apply Ext.ex' | apply Ext.al | apply Ext.drN | apply Ext.dr))) nh' Z.length))) | quiet_step ((go_at_call 9; exact Calls.ext_of (points_any _ HA lc hc Z hs h la r v t vx _ (hh1.ext (by repeat (first | exact Ext.refl' _ | assumption | apply Ext.ex' | apply Ext.al | apply Ext.drN | apply Ext.dr))) nh' Z.length))))
        refine wpQuiet_nil ?_
        intro _ hw'
        obtain ⟨xq, hw''⟩ := hw'
        subst hw''
        go_wp2
        go_roundw
        case rel => exact ⟨i + 1, by omega, by go_num, by repeat (first | exact Ext.refl' _ | assumption | apply Ext.ex' | apply Ext.al | apply Ext.drN | apply Ext.dr)⟩
        case measure => simp [intOf]; omega
      · go_wp2_with (go_at_call 8; refine (awake33_any _).mono ?_; rintro e w1 ⟨rfl, hb1⟩; obtain ⟨xaw, rfl⟩ := hb1.get; clear hb1)
        go_ret
        exact ⟨rfl, hE1.tr (by repeat (first | exact Ext.refl' _ | assumption | apply Ext.ex' | apply Ext.al | apply Ext.drN | apply Ext.dr))⟩
  · rw [hlg] at HL
    clear hlg
    go_enter Tryz.func3, Tryz.ntmps3
    go_wp2_with (first | (go_at_call 7; refine (HL.out _ (hl.ext (by repeat (first | exact Ext.refl' _ | assumption | apply Ext.ex' | apply Ext.al | apply Ext.drN | apply Ext.dr)))).mono ?_; rintro e w1 ⟨rfl, hb1⟩; obtain ⟨xl, rfl⟩ := hb1.get; clear hb1) | (go_at_call 8; refine (awake33_any _).mono ?_; rintro e w1 ⟨rfl, hb1⟩; obtain ⟨xaw, rfl⟩ := hb1.get; clear hb1))
    go_ret
    exact ⟨rfl, by repeat (first | exact Ext.refl' _ | assumption | apply Ext.ex' | apply Ext.al | apply Ext.drN | apply Ext.dr)⟩

end Go.Proofs.YtccndjnaakmlkaaGreat
