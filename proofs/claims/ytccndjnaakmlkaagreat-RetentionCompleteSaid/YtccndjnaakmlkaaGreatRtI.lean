/- Chapter 33: large inputs; points. -/
import Derived.Test.YtccndjnaakmlkaaGreatRtH
import Derived.Deep.DeepCutAuto
set_option linter.unusedSimpArgs false
set_option linter.unusedVariables false
namespace Go.Proofs.YtccndjnaakmlkaaGreat
open Go.RowKit


theorem rlargeZ_any (L H : Option Addr) (cl ch : Nat) (Z : List VP) (hs : List Rct) (w : World) (hl : Rd w 9 L Z.length (verc (vsOf Z))) (nl : Z.length ≤ 9223372036854775807) (nh : hs.length ≤ 9223372036854775807) (nr : ∀ z ∈ Z, z.1.rn ≤ 9223372036854775807) :
    Calls Tryz.prog 7 #[.slice L Z.length cl, .slice H hs.length ch] w fun e w' => e = .returned (.bool (largeB (vsOf Z) hs)) ∧ Ext w w' := by
  have e : (vsOf Z).length = Z.length := by simp
  have h := rlarge_any L H cl ch (vsOf Z) hs w (by rw [e]; exact hl) (by omega) nh (fun v hv => by obtain ⟨z, hz, rfl⟩ := List.mem_map.1 hv; exact nr z hz)
  rwa [e] at h
theorem large_no {Z : List VP} {hs : List Rct} (h : largeB (vsOf Z) hs = false) : Z.length ≤ 30 ∧ hs.length ≤ 12 ∧ ∀ z ∈ Z, z.1.rn ≤ 20 := by
  unfold largeB at h
  simp only [Bool.or_eq_false_iff, decide_eq_false_iff_not, List.any_eq_false, decide_eq_true_eq, List.length_map, List.mem_map, vsOf] at h
  refine ⟨by omega, by omega, fun z hz => ?_⟩
  have := h.2 z.1 ⟨z, hz, rfl⟩
  omega
theorem rret_eq (h : Int) (l : List Rct) (r : Rct) : rretainedF h l r = tretainedF h l r := by
  unfold rretainedF tretainedF
  rw [retained_eq]
theorem inR_drop1 {R : List Rct} {i : Nat} (hi : i < R.length) (v t : Int) : inR (R.drop i) v t = (inR [R[i]] v t || inR (R.drop (i + 1)) v t) := by rw [List.drop_eq_getElem_cons hi, inR_cons]


set_option maxRecDepth 100000 in
set_option maxHeartbeats 4000000 in
theorem points_any (LA HA : Option Addr) (lc hc : Nat) (Z : List VP) (hs : List Rct) (h la : Int) (r : Rct) (v t : Int) (vx : Ver) (w : World) (hh : Rd w 4 HA hs.length (rcl hs)) (nh : hs.length ≤ 12) (zn : Nat) :
    Calls Tryz.prog 9 #[.agg #[.slice LA zn lc, .int .i64 h, .int .i64 la, .slice HA hs.length hc, .int .i64 r.1.1, .int .i64 r.1.2, .int .i64 r.2.1, .int .i64 r.2.2, .int .i64 v, .int .i64 t], vg vx] w fun e w' => e = .returned (.bool true) ∧ Ext w w' := by
  have HT := Lib.hid (fun w h1 => tretained_any vx h HA hc hs w h1 nh)
  have HR := Lib.hid (fun w h1 => rretained_any vx h HA hc hs w h1 nh)
  rw [rret_eq] at HR
  have hpl : (tretainedF h hs vx.r).length ≤ 783 := partF_len nh
  have HFIN : Hid (inR (tretainedF h hs vx.r) v t = (inR [vx.r] v t && keepB h hs v t)) := Lib.hid (partF_in h hs vx.r v t)
  generalize tretainedF h hs vx.r = R at HT HR hpl HFIN
  go_enter Tryz.func9, Tryz.ntmps9
  go_wp2_with fail
  refine Calls.mono (HT.out _ (hh.ext (by repeat (first | exact Ext.refl' _ | assumption | apply Ext.ex' | apply Ext.al | apply Ext.drN | apply Ext.dr)))) ?_
  rintro e W1 ⟨A5, c5, rfl, hb1, hR5⟩
  have HE := Lib.hid hb1
  have hE1 : Ext w W1 := Ext.tr (by repeat (first | exact Ext.refl' _ | assumption | apply Ext.ex' | apply Ext.al | apply Ext.drN | apply Ext.dr)) hb1
  have hs1 := hb1.size
  simp only [size_ext, World.size_alloc] at hs1
  have HE := hb1
  have k0 : W1.cell? ⟨w.heap.size, 0, none⟩ = some (.slice LA zn lc) := HE.cell' (by simp [go_sem, ↓IntWalk.iteOmega])
  have k1 : W1.cell? ⟨w.heap.size, 1, none⟩ = some (.int .i64 h) := HE.cell' (by simp [go_sem, ↓IntWalk.iteOmega])
  have k2 : W1.cell? ⟨w.heap.size, 2, none⟩ = some (.int .i64 la) := HE.cell' (by simp [go_sem, ↓IntWalk.iteOmega])
  have k3 : W1.cell? ⟨w.heap.size, 3, none⟩ = some (.slice HA hs.length hc) := HE.cell' (by simp [go_sem, ↓IntWalk.iteOmega])
  have k4 : W1.cell? ⟨w.heap.size, 4, none⟩ = some (.int .i64 r.1.1) := HE.cell' (by simp [go_sem, ↓IntWalk.iteOmega])
  have k5 : W1.cell? ⟨w.heap.size, 5, none⟩ = some (.int .i64 r.1.2) := HE.cell' (by simp [go_sem, ↓IntWalk.iteOmega])
  have k6 : W1.cell? ⟨w.heap.size, 6, none⟩ = some (.int .i64 r.2.1) := HE.cell' (by simp [go_sem, ↓IntWalk.iteOmega])
  have k7 : W1.cell? ⟨w.heap.size, 7, none⟩ = some (.int .i64 r.2.2) := HE.cell' (by simp [go_sem, ↓IntWalk.iteOmega])
  have k8 : W1.cell? ⟨w.heap.size, 8, none⟩ = some (.int .i64 v) := HE.cell' (by simp [go_sem, ↓IntWalk.iteOmega])
  have k9 : W1.cell? ⟨w.heap.size, 9, none⟩ = some (.int .i64 t) := HE.cell' (by simp [go_sem, ↓IntWalk.iteOmega])
  have m0 : W1.cell? ⟨w.heap.size + 1, 0, none⟩ = some (.int .i64 vx.id) := HE.cell' (by simp [go_sem, ↓IntWalk.iteOmega])
  have m1 : W1.cell? ⟨w.heap.size + 1, 1, none⟩ = some (.int .i64 vx.sch) := HE.cell' (by simp [go_sem, ↓IntWalk.iteOmega])
  have m2 : W1.cell? ⟨w.heap.size + 1, 2, none⟩ = some (.slice vx.rA vx.rn vx.rc) := HE.cell' (by simp [go_sem, ↓IntWalk.iteOmega])
  have m3 : W1.cell? ⟨w.heap.size + 1, 3, none⟩ = some (.int .i64 vx.r.1.1) := HE.cell' (by simp [go_sem, ↓IntWalk.iteOmega])
  have m4 : W1.cell? ⟨w.heap.size + 1, 4, none⟩ = some (.int .i64 vx.r.1.2) := HE.cell' (by simp [go_sem, ↓IntWalk.iteOmega])
  have m5 : W1.cell? ⟨w.heap.size + 1, 5, none⟩ = some (.int .i64 vx.r.2.1) := HE.cell' (by simp [go_sem, ↓IntWalk.iteOmega])
  have m6 : W1.cell? ⟨w.heap.size + 1, 6, none⟩ = some (.int .i64 vx.r.2.2) := HE.cell' (by simp [go_sem, ↓IntWalk.iteOmega])
  have m7 : W1.cell? ⟨w.heap.size + 1, 7, none⟩ = some (.int .i64 vx.by_) := HE.cell' (by simp [go_sem, ↓IntWalk.iteOmega])
  have m8 : W1.cell? ⟨w.heap.size + 1, 8, none⟩ = some (.int .i64 vx.un) := HE.cell' (by simp [go_sem, ↓IntWalk.iteOmega])
  clear HE hb1
  have hh1 := hh.ext hE1
  go_wp2_with fail
  refine Calls.mono (HR.out _ (hh1.ext (by repeat (first | exact Ext.refl' _ | assumption | apply Ext.ex' | apply Ext.al | apply Ext.drN | apply Ext.dr)))) ?_
  rintro e w1 ⟨A6, c6, rfl, hb1, hR6⟩
  obtain ⟨x6, rfl⟩ := hb1.get
  clear hb1
  go_wp2_with fail
  refine Calls.mono (rects_yes _ _ _ _ R.length R rfl _ (hR5.ext (by repeat (first | exact Ext.refl' _ | assumption | apply Ext.ex' | apply Ext.al | apply Ext.drN | apply Ext.dr))) hR6 (by omega)) ?_
  rintro e w1 ⟨rfl, hb1⟩
  obtain ⟨x7, rfl⟩ := hb1.get
  clear hb1
  go_wp2
  go_loopw [6, 7] (fun s6 s7 wr => ∃ (i : Nat) (b : Bool), i ≤ R.length ∧ s7 = .int .i64 i ∧ s6 = .bool b ∧ Hid (inR R v t = (b || inR (R.drop i) v t)) ∧ Ext W1 wr) (fun _ s7 _ => R.length - (intOf s7).toNat)
  case atStart => exact ⟨0, false, by omega, rfl, rfl, Lib.hid (by simp), by repeat (first | exact Ext.refl' _ | assumption | apply Ext.ex' | apply Ext.al | apply Ext.drN | apply Ext.dr)⟩
  case round =>
    obtain ⟨i, b, hi, rfl, rfl, HI, hex⟩ := hrel
    obtain ⟨x, rfl⟩ := hex.get
    clear hex
    by_cases hlt : i < R.length
    · obtain ⟨gb, ob, rfl, hgb, d0, d1, d2, d3⟩ := hR5.rect hlt
      have HD : Hid (inR R v t = (b || (inR [R[i]] v t || inR (R.drop (i + 1)) v t))) := Lib.hid (by rw [HI.out, inR_drop1 hlt])
      generalize R[i] = ri at d0 d1 d2 d3 HD
      clear HI
      rcases b with _ | _
      · go_wp2_with fail
        refine wp_region_ext (by kernel_rfl) (by kernel_rfl) ?_
        repeat (first | go_big_quiet_step ((go_at_call 15; exact Calls.ext_of (rin_any ri v t _))) | quiet_step ((go_at_call 15; exact Calls.ext_of (rin_any ri v t _))))
        refine wpQuiet_nil ?_
        intro _ hw'
        obtain ⟨xq, hw''⟩ := hw'
        subst hw''
        go_wp2
        go_roundw
        case rel => exact ⟨i + 1, inR [ri] v t, by omega, by go_num, rfl, Lib.hid (by rw [HD.out]; simp), by repeat (first | exact Ext.refl' _ | assumption | apply Ext.ex' | apply Ext.al | apply Ext.drN | apply Ext.dr)⟩
        case measure => simp [intOf]; omega
      · go_wp2_with fail
        refine wp_region_ext (by kernel_rfl) (by kernel_rfl) ?_
        repeat (first | go_big_quiet_step (fail) | quiet_step (fail))
        refine wpQuiet_nil ?_
        intro _ hw'
        obtain ⟨xq, hw''⟩ := hw'
        subst hw''
        go_wp2
        go_roundw
        case rel => exact ⟨i + 1, true, by omega, by go_num, rfl, Lib.hid (by rw [HD.out]; simp), by repeat (first | exact Ext.refl' _ | assumption | apply Ext.ex' | apply Ext.al | apply Ext.drN | apply Ext.dr)⟩
        case measure => simp [intOf]; omega
    · have HB : Hid (b = (inR [vx.r] v t && keepB h hs v t)) := Lib.hid (by have h1 := HI.out; rw [List.drop_eq_nil_of_le (by omega), inR_nil, Bool.or_false, HFIN.out] at h1; exact h1.symm)
      clear HI HFIN
      have HIN := Lib.hid (fun w => rin_any vx.r v t w)
      have HKP := Lib.hid (fun w h1 => rkeep_any h HA hc hs v t w h1 (by omega))
      generalize inR [vx.r] v t = p at HB HIN
      generalize keepB h hs v t = q at HB HKP
      rcases p with _ | _
      all_goals rcases q with _ | _
      all_goals simp only [Bool.and_true, Bool.and_false, Bool.true_and, Bool.false_and] at HB
      all_goals obtain rfl := HB.out
      all_goals go_wp2_with fail
      all_goals refine wp_region_ext (by kernel_rfl) (by kernel_rfl) ?_
      all_goals repeat (first | go_big_quiet_step ((first | (go_at_call 23; exact Calls.ext_of (rrect33_any vx _)) | (go_at_call 15; (with_reducible exact Calls.ext_of (HIN.out _))) | (go_at_call 16; (with_reducible exact Calls.ext_of (HKP.out _ (hh1.ext (by repeat (first | exact Ext.refl' _ | assumption | apply Ext.ex' | apply Ext.al | apply Ext.drN | apply Ext.dr)))))))) | quiet_step ((first | (go_at_call 23; exact Calls.ext_of (rrect33_any vx _)) | (go_at_call 15; (with_reducible exact Calls.ext_of (HIN.out _))) | (go_at_call 16; (with_reducible exact Calls.ext_of (HKP.out _ (hh1.ext (by repeat (first | exact Ext.refl' _ | assumption | apply Ext.ex' | apply Ext.al | apply Ext.drN | apply Ext.dr)))))))))
      all_goals refine wpQuiet_nil ?_
      all_goals intro _ hw'
      all_goals obtain ⟨xq, hw''⟩ := hw'
      all_goals subst hw''
      all_goals go_wp2
      all_goals go_ret
      all_goals exact ⟨rfl, hE1.tr (by repeat (first | exact Ext.refl' _ | assumption | apply Ext.ex' | apply Ext.al | apply Ext.drN | apply Ext.dr))⟩

end Go.Proofs.YtccndjnaakmlkaaGreat
