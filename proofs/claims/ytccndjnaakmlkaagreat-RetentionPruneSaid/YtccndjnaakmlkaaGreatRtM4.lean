/- Chapter 33: large inputs; points. The reference of retention: Prune, Like, Same. The walk of the law RetentionPrune. -/
import Derived.Test.YtccndjnaakmlkaaGreatRtH
import Derived.Deep.DeepCutAuto
import Derived.Test.YtccndjnaakmlkaaGreatRtG
set_option linter.unusedSimpArgs false
set_option linter.unusedVariables false
namespace Go.Proofs.YtccndjnaakmlkaaGreat
open Go.RowKit


theorem rlargeZ_any (L H : Option Addr) (cl ch : Nat) (Z : List VP) (hs : List Rct) (w : World) (hl : Rd w 9 L Z.length (verc (vsOf Z))) (nl : Z.length ≤ 9223372036854775807) (nh : hs.length ≤ 9223372036854775807) (nr : ∀ z ∈ Z, z.1.rn ≤ 9223372036854775807) :
    Calls Tryz.prog 7 #[.slice L Z.length cl, .slice H hs.length ch] w fun e w' => e = .returned (.bool (largeB (vsOf Z) hs)) ∧ Ext w w' := by
  have e : (vsOf Z).length = Z.length := by simp
  have h := rlarge_any L H cl ch (vsOf Z) hs w (by rw [e]; exact hl) (by omega) nh (fun v hv => by obtain ⟨z, hz, rfl⟩ := List.mem_map.1 hv; exact nr z hz)
  rwa [e] at h
theorem large_no {Z : List VP} {hs : List Rct} (h : largeB (vsOf Z) hs = false) : Z.length ≤ 30 ∧ hs.length ≤ 12 ∧ ∀ z ∈ Z, z.1.rn ≤ 20 := by
  unfold largeB at h
  simp only [Bool.or_eq_false_iff, decide_eq_false_iff_not, List.any_eq_false, decide_eq_true_eq, List.length_map, List.mem_map, vsOf] at h
  refine ⟨by omega, by omega, fun z hz => ?_⟩
  have := h.2 z.1 ⟨z, hz, rfl⟩
  omega
theorem rret_eq (h : Int) (l : List Rct) (r : Rct) : rretainedF h l r = tretainedF h l r := by
  unfold rretainedF tretainedF
  rw [retained_eq]
theorem inR_drop1 {R : List Rct} {i : Nat} (hi : i < R.length) (v t : Int) : inR (R.drop i) v t = (inR [R[i]] v t || inR (R.drop (i + 1)) v t) := by rw [List.drop_eq_getElem_cons hi, inR_cons]


set_option maxRecDepth 100000 in
set_option maxHeartbeats 4000000 in
theorem points_any (LA HA : Option Addr) (lc hc : Nat) (Z : List VP) (hs : List Rct) (h la : Int) (r : Rct) (v t : Int) (vx : Ver) (w : World) (hh : Rd w 4 HA hs.length (rcl hs)) (nh : hs.length ≤ 12) (zn : Nat) :
    Calls Tryz.prog 9 #[.agg #[.slice LA zn lc, .int .i64 h, .int .i64 la, .slice HA hs.length hc, .int .i64 r.1.1, .int .i64 r.1.2, .int .i64 r.2.1, .int .i64 r.2.2, .int .i64 v, .int .i64 t], vg vx] w fun e w' => e = .returned (.bool true) ∧ Ext w w' := by
  have HT := Lib.hid (fun w h1 => tretained_any vx h HA hc hs w h1 nh)
  have HR := Lib.hid (fun w h1 => rretained_any vx h HA hc hs w h1 nh)
  rw [rret_eq] at HR
  have hpl : (tretainedF h hs vx.r).length ≤ 783 := partF_len nh
  have HFIN : Hid (inR (tretainedF h hs vx.r) v t = (inR [vx.r] v t && keepB h hs v t)) := Lib.hid (partF_in h hs vx.r v t)
  generalize tretainedF h hs vx.r = R at HT HR hpl HFIN
  go_enter Tryz.func9, Tryz.ntmps9
  go_wp2_with fail
  refine Calls.mono (HT.out _ (hh.ext (by repeat (first | exact Ext.refl' _ | assumption | apply Ext.ex' | apply Ext.al | apply Ext.drN | apply Ext.dr)))) ?_
  rintro e W1 ⟨A5, c5, rfl, hb1, hR5⟩
  have HE := Lib.hid hb1
  have hE1 : Ext w W1 := Ext.tr (by repeat (first | exact Ext.refl' _ | assumption | apply Ext.ex' | apply Ext.al | apply Ext.drN | apply Ext.dr)) hb1
  have hs1 := hb1.size
  simp only [size_ext, World.size_alloc] at hs1
  have HE := hb1
  have k0 : W1.cell? ⟨w.heap.size, 0, none⟩ = some (.slice LA zn lc) := HE.cell' (by simp [go_sem, ↓IntWalk.iteOmega])
  have k1 : W1.cell? ⟨w.heap.size, 1, none⟩ = some (.int .i64 h) := HE.cell' (by simp [go_sem, ↓IntWalk.iteOmega])
  have k2 : W1.cell? ⟨w.heap.size, 2, none⟩ = some (.int .i64 la) := HE.cell' (by simp [go_sem, ↓IntWalk.iteOmega])
  have k3 : W1.cell? ⟨w.heap.size, 3, none⟩ = some (.slice HA hs.length hc) := HE.cell' (by simp [go_sem, ↓IntWalk.iteOmega])
  have k4 : W1.cell? ⟨w.heap.size, 4, none⟩ = some (.int .i64 r.1.1) := HE.cell' (by simp [go_sem, ↓IntWalk.iteOmega])
  have k5 : W1.cell? ⟨w.heap.size, 5, none⟩ = some (.int .i64 r.1.2) := HE.cell' (by simp [go_sem, ↓IntWalk.iteOmega])
  have k6 : W1.cell? ⟨w.heap.size, 6, none⟩ = some (.int .i64 r.2.1) := HE.cell' (by simp [go_sem, ↓IntWalk.iteOmega])
  have k7 : W1.cell? ⟨w.heap.size, 7, none⟩ = some (.int .i64 r.2.2) := HE.cell' (by simp [go_sem, ↓IntWalk.iteOmega])
  have k8 : W1.cell? ⟨w.heap.size, 8, none⟩ = some (.int .i64 v) := HE.cell' (by simp [go_sem, ↓IntWalk.iteOmega])
  have k9 : W1.cell? ⟨w.heap.size, 9, none⟩ = some (.int .i64 t) := HE.cell' (by simp [go_sem, ↓IntWalk.iteOmega])
  have m0 : W1.cell? ⟨w.heap.size + 1, 0, none⟩ = some (.int .i64 vx.id) := HE.cell' (by simp [go_sem, ↓IntWalk.iteOmega])
  have m1 : W1.cell? ⟨w.heap.size + 1, 1, none⟩ = some (.int .i64 vx.sch) := HE.cell' (by simp [go_sem, ↓IntWalk.iteOmega])
  have m2 : W1.cell? ⟨w.heap.size + 1, 2, none⟩ = some (.slice vx.rA vx.rn vx.rc) := HE.cell' (by simp [go_sem, ↓IntWalk.iteOmega])
  have m3 : W1.cell? ⟨w.heap.size + 1, 3, none⟩ = some (.int .i64 vx.r.1.1) := HE.cell' (by simp [go_sem, ↓IntWalk.iteOmega])
  have m4 : W1.cell? ⟨w.heap.size + 1, 4, none⟩ = some (.int .i64 vx.r.1.2) := HE.cell' (by simp [go_sem, ↓IntWalk.iteOmega])
  have m5 : W1.cell? ⟨w.heap.size + 1, 5, none⟩ = some (.int .i64 vx.r.2.1) := HE.cell' (by simp [go_sem, ↓IntWalk.iteOmega])
  have m6 : W1.cell? ⟨w.heap.size + 1, 6, none⟩ = some (.int .i64 vx.r.2.2) := HE.cell' (by simp [go_sem, ↓IntWalk.iteOmega])
  have m7 : W1.cell? ⟨w.heap.size + 1, 7, none⟩ = some (.int .i64 vx.by_) := HE.cell' (by simp [go_sem, ↓IntWalk.iteOmega])
  have m8 : W1.cell? ⟨w.heap.size + 1, 8, none⟩ = some (.int .i64 vx.un) := HE.cell' (by simp [go_sem, ↓IntWalk.iteOmega])
  clear HE hb1
  have hh1 := hh.ext hE1
  go_wp2_with fail
  refine Calls.mono (HR.out _ (hh1.ext (by repeat (first | exact Ext.refl' _ | assumption | apply Ext.ex' | apply Ext.al | apply Ext.drN | apply Ext.dr)))) ?_
  rintro e w1 ⟨A6, c6, rfl, hb1, hR6⟩
  obtain ⟨x6, rfl⟩ := hb1.get
  clear hb1
  go_wp2_with fail
  refine Calls.mono (rects_yes _ _ _ _ R.length R rfl _ (hR5.ext (by repeat (first | exact Ext.refl' _ | assumption | apply Ext.ex' | apply Ext.al | apply Ext.drN | apply Ext.dr))) hR6 (by omega)) ?_
  rintro e w1 ⟨rfl, hb1⟩
  obtain ⟨x7, rfl⟩ := hb1.get
  clear hb1
  go_wp2
  go_loopw [6, 7] (fun s6 s7 wr => ∃ (i : Nat) (b : Bool), i ≤ R.length ∧ s7 = .int .i64 i ∧ s6 = .bool b ∧ Hid (inR R v t = (b || inR (R.drop i) v t)) ∧ Ext W1 wr) (fun _ s7 _ => R.length - (intOf s7).toNat)
  case atStart => exact ⟨0, false, by omega, rfl, rfl, Lib.hid (by simp), by repeat (first | exact Ext.refl' _ | assumption | apply Ext.ex' | apply Ext.al | apply Ext.drN | apply Ext.dr)⟩
  case round =>
    obtain ⟨i, b, hi, rfl, rfl, HI, hex⟩ := hrel
    obtain ⟨x, rfl⟩ := hex.get
    clear hex
    by_cases hlt : i < R.length
    · obtain ⟨gb, ob, rfl, hgb, d0, d1, d2, d3⟩ := hR5.rect hlt
      have HD : Hid (inR R v t = (b || (inR [R[i]] v t || inR (R.drop (i + 1)) v t))) := Lib.hid (by rw [HI.out, inR_drop1 hlt])
      generalize R[i] = ri at d0 d1 d2 d3 HD
      clear HI
      rcases b with _ | _
      · go_wp2_with fail
        refine wp_region_ext (by kernel_rfl) (by kernel_rfl) ?_
        repeat (first | go_big_quiet_step ((go_at_call 15; exact Calls.ext_of (rin_any ri v t _))) | quiet_step ((go_at_call 15; exact Calls.ext_of (rin_any ri v t _))))
        refine wpQuiet_nil ?_
        intro _ hw'
        obtain ⟨xq, hw''⟩ := hw'
        subst hw''
        go_wp2
        go_roundw
        case rel => exact ⟨i + 1, inR [ri] v t, by omega, by go_num, rfl, Lib.hid (by rw [HD.out]; simp), by repeat (first | exact Ext.refl' _ | assumption | apply Ext.ex' | apply Ext.al | apply Ext.drN | apply Ext.dr)⟩
        case measure => simp [intOf]; omega
      · go_wp2_with fail
        refine wp_region_ext (by kernel_rfl) (by kernel_rfl) ?_
        repeat (first | go_big_quiet_step (fail) | quiet_step (fail))
        refine wpQuiet_nil ?_
        intro _ hw'
        obtain ⟨xq, hw''⟩ := hw'
        subst hw''
        go_wp2
        go_roundw
        case rel => exact ⟨i + 1, true, by omega, by go_num, rfl, Lib.hid (by rw [HD.out]; simp), by repeat (first | exact Ext.refl' _ | assumption | apply Ext.ex' | apply Ext.al | apply Ext.drN | apply Ext.dr)⟩
        case measure => simp [intOf]; omega
    · have HB : Hid (b = (inR [vx.r] v t && keepB h hs v t)) := Lib.hid (by have h1 := HI.out; rw [List.drop_eq_nil_of_le (by omega), inR_nil, Bool.or_false, HFIN.out] at h1; exact h1.symm)
      clear HI HFIN
      have HIN := Lib.hid (fun w => rin_any vx.r v t w)
      have HKP := Lib.hid (fun w h1 => rkeep_any h HA hc hs v t w h1 (by omega))
      generalize inR [vx.r] v t = p at HB HIN
      generalize keepB h hs v t = q at HB HKP
      rcases p with _ | _
      all_goals rcases q with _ | _
      all_goals simp only [Bool.and_true, Bool.and_false, Bool.true_and, Bool.false_and] at HB
      all_goals obtain rfl := HB.out
      all_goals go_wp2_with fail
      all_goals refine wp_region_ext (by kernel_rfl) (by kernel_rfl) ?_
      all_goals repeat (first | go_big_quiet_step ((first | (go_at_call 23; exact Calls.ext_of (rrect33_any vx _)) | (go_at_call 15; (with_reducible exact Calls.ext_of (HIN.out _))) | (go_at_call 16; (with_reducible exact Calls.ext_of (HKP.out _ (hh1.ext (by repeat (first | exact Ext.refl' _ | assumption | apply Ext.ex' | apply Ext.al | apply Ext.drN | apply Ext.dr)))))))) | quiet_step ((first | (go_at_call 23; exact Calls.ext_of (rrect33_any vx _)) | (go_at_call 15; (with_reducible exact Calls.ext_of (HIN.out _))) | (go_at_call 16; (with_reducible exact Calls.ext_of (HKP.out _ (hh1.ext (by repeat (first | exact Ext.refl' _ | assumption | apply Ext.ex' | apply Ext.al | apply Ext.drN | apply Ext.dr)))))))))
      all_goals refine wpQuiet_nil ?_
      all_goals intro _ hw'
      all_goals obtain ⟨xq, hw''⟩ := hw'
      all_goals subst hw''
      all_goals go_wp2
      all_goals go_ret
      all_goals exact ⟨rfl, hE1.tr (by repeat (first | exact Ext.refl' _ | assumption | apply Ext.ex' | apply Ext.al | apply Ext.drN | apply Ext.dr))⟩

end Go.Proofs.YtccndjnaakmlkaaGreat

namespace Go.Proofs.YtccndjnaakmlkaaGreat
open Go.RowKit


def cutZ (z : VP) (r : Rct) : VP := (⟨z.1.id, z.1.sch, z.1.rA, z.1.rn, z.1.rc, r, z.1.by_, z.1.un⟩, z.2.cut r)
def partsZ (h : Int) (hs : List Rct) (Z : List VP) : List VP := Z.flatMap fun z => (tretainedF h hs z.1.r).map (cutZ z)
theorem partsZ_ps {w : World} (h : Int) (hs : List Rct) : ∀ (Z : List VP), (∀ z ∈ Z, VerIs w z.1 z.2) → psOf (partsZ h hs Z) = pruneL h hs (psOf Z)
  | [], _ => rfl
  | z :: Z, hz => by
    have ih := partsZ_ps h hs Z fun y hy => hz y (by simp [hy])
    have h1 := (hz z (by simp)).r
    show psOf ((tretainedF h hs z.1.r).map (cutZ z) ++ partsZ h hs Z) = partsF h hs z.2 ++ pruneL h hs (psOf Z)
    rw [show psOf ((tretainedF h hs z.1.r).map (cutZ z) ++ partsZ h hs Z) = psOf ((tretainedF h hs z.1.r).map (cutZ z)) ++ psOf (partsZ h hs Z) from List.map_append, ih, h1]
    congr 1
    unfold partsF psOf
    rw [List.map_map]
    rfl
theorem partsZ_is {w : World} {h : Int} {hs : List Rct} {Z : List VP} (hz : ∀ z ∈ Z, VerIs w z.1 z.2) : ∀ z ∈ partsZ h hs Z, VerIs w z.1 z.2 := fun z hm => by
  obtain ⟨y, hy, hm⟩ := List.mem_flatMap.1 hm
  obtain ⟨r, _, rfl⟩ := List.mem_map.1 hm
  have h1 := hz y hy
  exact ⟨h1.id, h1.sch, rfl, h1.by_, h1.un, h1.rn, h1.row⟩
theorem partsZ_cons (h : Int) (hs : List Rct) (z : VP) (Z : List VP) : partsZ h hs (z :: Z) = (tretainedF h hs z.1.r).map (cutZ z) ++ partsZ h hs Z := rfl
theorem rret_eq' (h : Int) (l : List Rct) (r : Rct) : rretainedF h l r = tretainedF h l r := by
  unfold rretainedF tretainedF
  rw [retained_eq]

set_option maxRecDepth 100000 in
set_option maxHeartbeats 8000000 in
theorem rprune_any (h : Int) (A H : Option Addr) (c ch : Nat) (Z0 : List VP) (hs : List Rct) (w : World) (hl : Rd w 9 A Z0.length (verc (vsOf Z0))) (hz : ∀ z ∈ Z0, VerIs w z.1 z.2) (hh : Rd w 4 H hs.length (rcl hs)) (nl : Z0.length ≤ 30000) (nh : hs.length ≤ 12) :
    Calls Tryz.prog 12 #[.slice A Z0.length c, .int .i64 h, .slice H hs.length ch] w fun e w' => ∃ B d Z, e = .returned (.slice B Z.length d) ∧ Ext w w' ∧ Rd w' 9 B Z.length (verc (vsOf Z)) ∧ (∀ z ∈ Z, VerIs w' z.1 z.2) ∧ psOf Z = pruneF h hs (psOf Z0) := by
  have HPS : Hid (psOf (partsZ h hs Z0) = pruneL h hs (psOf Z0)) := Lib.hid (partsZ_ps h hs Z0 hz)
  have HIS : Hid (∀ z ∈ partsZ h hs Z0, VerIs w z.1 z.2) := Lib.hid (partsZ_is hz)
  have HSO := Lib.hid (fun A c w => rsort_any A c (partsZ h hs Z0) w)
  generalize hall : partsZ h hs Z0 = ALL at HPS HIS HSO
  have HALL := Lib.hid hall
  clear hall hz
  go_enter Tryz.func12, Tryz.ntmps12
  go_wp2
  go_loopw [7, 8] (fun s7 s8 wr => ∃ (k : Nat) (Z1 : List VP) (x : Add), k ≤ Z0.length ∧ Z1.length ≤ k * 783 ∧ s8 = .int .i64 k ∧ Hid (ALL = Z1 ++ partsZ h hs (Z0.drop k)) ∧ wr = ext w x ∧ Own w x 35 9 s7 Z1.length (verc (vsOf Z1))) (fun _ s8 _ => Z0.length - (intOf s8).toNat)
  case atStart =>
    obtain ⟨x, hx⟩ := (Ext.refl' w).get
    exact ⟨0, [], x, by omega, by simp, rfl, Lib.hid (by rw [← HALL.out]; rfl), hx, own_nil _ _ _ _⟩
  case round =>
    obtain ⟨k, Z1, x, hk, hZl, rfl, HF, rfl, hown⟩ := hrel
    by_cases hlt : k < Z0.length
    · obtain ⟨vx, HVX, g, oo, rfl, hg, c0, c1, c2, c3, c4, c5, c6, c7, c8⟩ := hl.verAt rfl hlt
      have HP := Lib.hid (fun w h1 => rretainedN_any vx h H ch hs w h1 nh)
      rw [rret_eq'] at HP
      have hpl : (tretainedF h hs vx.r).length ≤ 783 := partF_len nh
      have HD : Hid (ALL = Z1 ++ (tretainedF h hs vx.r).map (cutZ Z0[k]) ++ partsZ h hs (Z0.drop (k + 1))) := Lib.hid (by rw [HF.out, List.drop_eq_getElem_cons hlt, partsZ_cons, HVX.out, List.append_assoc])
      have HCZ : Hid (∀ r, (cutZ Z0[k] r).1 = ⟨vx.id, vx.sch, vx.rA, vx.rn, vx.rc, r, vx.by_, vx.un⟩) := Lib.hid (fun r => by rw [HVX.out]; rfl)
      generalize Z0[k] = z at HD HCZ HVX
      generalize tretainedF h hs vx.r = R at HP hpl HD
      have hol := own_lt hown
      clear HF HVX
      go_wp2_with (go_at_call 22; refine (HP.out _ (hh.ext (by repeat (first | exact Ext.refl' _ | assumption | apply Ext.ex' | apply Ext.al | apply Ext.drN | apply Ext.dr)))).mono ?_; rintro e w1 ⟨A5, c5', rfl, hb1, hR5, hN5⟩; obtain ⟨x5, rfl⟩ := hb1.get; clear hb1)
      go_loopw [7, 10] (fun s7 s10 wr => ∃ (j : Nat) (Z2 : List VP) (x1 : Add), j ≤ R.length ∧ Z2.length ≤ Z1.length + j ∧ s10 = .int .i64 j ∧ Hid (Z1 ++ R.map (cutZ z) = Z2 ++ (R.drop j).map (cutZ z)) ∧ wr = ext w x1 ∧ Own w x1 35 9 s7 Z2.length (verc (vsOf Z2)) ∧
          Hid (Rd (extR w x1) 4 A5 R.length (rcl R)) ∧ Hid (∀ a, A5 = some a → 0 < R.length → some a.block ≠ s7.ownBlock)) (fun _ s10 _ => R.length - (intOf s10).toNat)
      case atStart =>
        refine rel_same_at hR5 hown (by repeat (first | exact Ext.refl' _ | assumption | apply Ext.ex' | apply Ext.al | apply Ext.drN | apply Ext.dr)) fun x' hx' ho' => ?_
        refine ⟨0, Z1, x', by omega, by omega, rfl, Lib.hid rfl, hx', ho', Lib.hid (by show Rd (ext w x') _ _ _ _; rw [← hx']; exact hR5), Lib.hid ?_⟩
        intro a ha hn he
        have h1 := hN5 a ha hn
        have h2 := hol _ he.symm
        simp only [size_ext, World.size_alloc] at h1
        omega
      case round =>
        obtain ⟨j, Z2, x1, hj, hZ2, rfl, HI, rfl, hown, HR, HRN⟩ := hrel
        by_cases hjl : j < R.length
        · have hn5 := hN5
          obtain ⟨g5, o5, hA5, hg5, d0, d1, d2, d3⟩ := HR.out.rect hjl
          have hg5' := hn5 _ hA5 (by omega)
          clear hn5 hR5
          simp only [size_ext, World.size_alloc] at hg5'
          subst hA5
          have hlow : ¬ g5 < w.heap.size := by omega
          have hg6 : g5 < w.heap.size + x1.n := by have := hg5; simp only [extR, size_ext] at this; exact this
          have HJ : Hid (Z1 ++ R.map (cutZ z) = Z2 ++ [cutZ z R[j]] ++ (R.drop (j + 1)).map (cutZ z)) := Lib.hid (by rw [HI.out, List.drop_eq_getElem_cons hjl, List.map_cons, List.append_assoc]; rfl)
          generalize R[j] = r at d0 d1 d2 d3 HJ
          clear HI
          have hZ3 : Z2.length ≤ 23490783 := by omega
          go_wp2_with (at_builtin; refine wpList_app2 _ rfl (.tmp 47) (.tmp 49) rfl elVer w (by repeat (first | exact Ext.refl' _ | assumption | apply Ext.ex' | apply Ext.al | apply Ext.drN | apply Ext.dr)) _ _ _ rfl (by repeat (first | exact hown | apply World.ownsRow.alloc | apply own_ext)) _ 1 1 [.int .i64 vx.id, .int .i64 vx.sch, .slice vx.rA vx.rn vx.rc, .int .i64 r.1.1, .int .i64 r.1.2, .int .i64 r.2.1, .int .i64 r.2.2, .int .i64 vx.by_, .int .i64 vx.un] rfl (Rd.lit _ _ _ 1 9 rfl (by simp [size_ext])) (oneCell_encV ⟨vx.id, vx.sch, vx.rA, vx.rn, vx.rc, r, vx.by_, vx.un⟩) (by unfold maxLen; omega) (by omega) ?_; intro v' x' hown' hg' hbk'; have HOWN := Lib.hid hown'; have HG := Lib.hid hg'; have HBK := Lib.hid hbk'; clear hown' hg' hbk')
          go_roundw
          case rel =>
            refine ⟨j + 1, Z2 ++ [cutZ z r], x', by omega, by simp; omega, by go_num, HJ, rfl, by rw [vsOf_snoc, HCZ.out, List.length_append]; exact HOWN.out, Lib.hid ?_, Lib.hid ?_⟩
            · exact Rd.grown HG.out (Rd.ext (w := ext w x1) HR.out (by repeat (first | exact Ext.refl' _ | assumption | apply Ext.ex' | apply Ext.al | apply Ext.drN | apply Ext.dr))) HRN.out
            · intro a ha hn he
              rcases HBK.out _ he.symm with h1 | h1
              · exact HRN.out a ha hn h1.symm
              · cases ha
                simp only [size_ext, World.size_alloc] at h1
                have := hg5
                simp only [extR, size_ext] at this
                omega
          case measure => simp [intOf]; omega
        · have HJ : Hid (Z1 ++ R.map (cutZ z) = Z2) := Lib.hid (by rw [HI.out, List.drop_eq_nil_of_le (Nat.le_of_not_lt hjl)]; simp)
          clear HI
          go_wp2
          go_roundw
          case rel => exact ⟨k + 1, Z2, x1, by omega, by omega, by go_num, Lib.hid (by rw [HD.out, HJ.out]), rfl, hown⟩
          case measure => simp [intOf]; omega
    · have H0 : Hid (ALL = Z1) := Lib.hid (by rw [HF.out, List.drop_eq_nil_of_le (Nat.le_of_not_lt hlt)]; simp [partsZ])
      have hall := H0.out
      subst hall
      obtain ⟨A7, c7, rfl, _, _⟩ := Own.form hown
      have HS := Lib.hid (HSO.out A7 c7 (ext w x) (Rd.of_own hown) (fun z hz => (HIS.out z hz).ext (Ext.ex _ _)) (by omega))
      clear hown HSO HF HALL
      go_wp2_with fail
      refine Calls.mono HS.out ?_
      rintro e w1 ⟨A8, c8, rfl, hb1, hR8⟩
      obtain ⟨x8, rfl⟩ := hb1.get
      clear hb1
      go_wp2
      go_ret
      have hsl := sortZ_length ALL
      refine ⟨A8, c8, sortZ ALL, by rw [hsl]; rfl, by repeat (first | exact Ext.refl' _ | assumption | apply Ext.ex' | apply Ext.al | apply Ext.drN | apply Ext.dr), by rw [hsl]; exact hR8, fun z hz => (HIS.out z ((isort_perm ALL).mem_iff.1 hz)).ext (by repeat (first | exact Ext.refl' _ | assumption | apply Ext.ex' | apply Ext.al | apply Ext.drN | apply Ext.dr)), ?_⟩
      rw [sortZ_ps, HPS.out]
      rfl


set_option maxHeartbeats 4000000 in
theorem rlike_any (x y : Ver) (p q : PV) (w : World) (hx : VerIs w x p) (hy : VerIs w y q) (n1 : x.rn ≤ 9223372036854775807) (n2 : y.rn ≤ 9223372036854775807) :
    Calls Tryz.prog 24 #[vg x, vg y] w fun e w' => e = .returned (.bool (decide (key5 p = key5 q))) ∧ Ext w w' := by
  obtain ⟨i1, s1, A1, m1, c1, r1, b1, u1⟩ := x
  obtain ⟨i2, s2, A2, m2, c2, r2, b2, u2⟩ := y
  obtain ⟨e1, e2, e3, e4, e5, e6, h1⟩ := hx
  obtain ⟨f1, f2, f3, f4, f5, f6, h2⟩ := hy
  dsimp only at e1 e2 e3 e4 e5 e6 f1 f2 f3 f4 f5 f6 h1 h2 n1 n2
  have HR := Lib.hid (fun w h1 h2 => rrow_any A1 A2 c1 c2 p.row q.row w h1 h2 (by omega) (by omega))
  have HK : Hid (decide (key5 p = key5 q) = (decide (i1 = i2) && decide (s1 = s2) && decide (b1 = b2) && decide (u1 = u2) && decide (p.row = q.row))) := Lib.hid (by
    rw [e1, e2, e4, e5, f1, f2, f4, f5]
    unfold key5
    simp only [Prod.mk.injEq, Bool.decide_and]
    cases decide (p.id = q.id) <;> cases decide (p.sch = q.sch) <;> cases decide (p.by_ = q.by_) <;> cases decide (p.un = q.un) <;> cases decide (p.row = q.row) <;> rfl)
  subst e6 f6
  generalize decide (key5 p = key5 q) = b at HK ⊢
  generalize decide (p.row = q.row) = d at HK HR
  clear e1 e2 e3 e4 e5 f1 f2 f3 f4 f5
  by_cases g1 : i1 = i2
  · by_cases g2 : s1 = s2
    · by_cases g3 : b1 = b2
      · by_cases g4 : u1 = u2
        · have q1 : (i1 == i2) = true := by simp [g1]
          have q2 : (s1 == s2) = true := by simp [g2]
          have q3 : (b1 == b2) = true := by simp [g3]
          have q4 : (u1 == u2) = true := by simp [g4]
          have HB : Hid (b = d) := Lib.hid (by rw [HK.out]; simp [g1, g2, g3, g4])
          clear HK g1 g2 g3 g4
          go_enter Tryz.func24, Tryz.ntmps24
          go_wp2_with (go_at_call 41; refine (HR.out _ (h1.ext (by repeat (first | exact Ext.refl' _ | assumption | apply Ext.ex' | apply Ext.al | apply Ext.drN | apply Ext.dr))) (h2.ext (by repeat (first | exact Ext.refl' _ | assumption | apply Ext.ex' | apply Ext.al | apply Ext.drN | apply Ext.dr)))).mono ?_; rintro e w1 ⟨rfl, hb1⟩; obtain ⟨x1, rfl⟩ := hb1.get; clear hb1)
          go_ret
          exact ⟨by rw [HB.out]; rfl, by repeat (first | exact Ext.refl' _ | assumption | apply Ext.ex' | apply Ext.al | apply Ext.drN | apply Ext.dr)⟩
        · have q1 : (i1 == i2) = true := by simp [g1]
          have q2 : (s1 == s2) = true := by simp [g2]
          have q3 : (b1 == b2) = true := by simp [g3]
          have q4 : (u1 == u2) = false := by simp [g4]
          have HB : Hid (b = false) := Lib.hid (by rw [HK.out]; simp [g4])
          clear HK g1 g2 g3 g4
          go_enter Tryz.func24, Tryz.ntmps24
          go_wp2
          go_ret
          exact ⟨by rw [HB.out]; rfl, by repeat (first | exact Ext.refl' _ | assumption | apply Ext.ex' | apply Ext.al | apply Ext.drN | apply Ext.dr)⟩
      · have q1 : (i1 == i2) = true := by simp [g1]
        have q2 : (s1 == s2) = true := by simp [g2]
        have q3 : (b1 == b2) = false := by simp [g3]
        have HB : Hid (b = false) := Lib.hid (by rw [HK.out]; simp [g3])
        clear HK g1 g2 g3
        go_enter Tryz.func24, Tryz.ntmps24
        go_wp2
        go_ret
        exact ⟨by rw [HB.out]; rfl, by repeat (first | exact Ext.refl' _ | assumption | apply Ext.ex' | apply Ext.al | apply Ext.drN | apply Ext.dr)⟩
    · have q1 : (i1 == i2) = true := by simp [g1]
      have q2 : (s1 == s2) = false := by simp [g2]
      have HB : Hid (b = false) := Lib.hid (by rw [HK.out]; simp [g2])
      clear HK g1 g2
      go_enter Tryz.func24, Tryz.ntmps24
      go_wp2
      go_ret
      exact ⟨by rw [HB.out]; rfl, by repeat (first | exact Ext.refl' _ | assumption | apply Ext.ex' | apply Ext.al | apply Ext.drN | apply Ext.dr)⟩
  · have q1 : (i1 == i2) = false := by simp [g1]
    have HB : Hid (b = false) := Lib.hid (by rw [HK.out]; simp [g1])
    clear HK g1
    go_enter Tryz.func24, Tryz.ntmps24
    go_wp2
    go_ret
    exact ⟨by rw [HB.out]; rfl, by repeat (first | exact Ext.refl' _ | assumption | apply Ext.ex' | apply Ext.al | apply Ext.drN | apply Ext.dr)⟩


set_option maxRecDepth 100000 in
set_option maxHeartbeats 4000000 in
theorem same33_yes (A B : Option Addr) (c d : Nat) (Z Y : List VP) (w : World) (hA : Rd w 9 A Z.length (verc (vsOf Z))) (hB : Rd w 9 B Y.length (verc (vsOf Y))) (hZ : ∀ z ∈ Z, VerIs w z.1 z.2) (hY : ∀ z ∈ Y, VerIs w z.1 z.2) (he : psOf Z = psOf Y) (nl : Z.length ≤ 1000000000) (nr : ∀ z ∈ Z, z.2.row.length ≤ 1000000) :
    Calls Tryz.prog 10 #[.slice A Z.length c, .slice B Y.length d] w fun e w' => e = .returned (.bool true) ∧ Ext w w' := by
  have hlen : Z.length = Y.length := by have := congrArg List.length he; simpa [psOf] using this
  have HE := Lib.hid he
  have HZ := Lib.hid hZ
  have HY := Lib.hid hY
  clear he hZ hY
  obtain ⟨n, hn⟩ : ∃ n, n = Z.length := ⟨_, rfl⟩
  have hn2 : Y.length = n := by omega
  have HZN := Lib.hid hn
  have HYN := Lib.hid hn2
  rw [← hn] at hA nl ⊢
  rw [hn2] at hB ⊢
  clear hlen hn hn2
  go_enter Tryz.func10, Tryz.ntmps10
  go_wp2
  go_loopw [5] (fun s5 wr => ∃ i : Nat, i ≤ n ∧ s5 = .int .i64 i ∧ Ext w wr) (fun s5 _ => n - (intOf s5).toNat)
  case atStart => exact ⟨0, by omega, rfl, Ext.refl' _⟩
  case round =>
    obtain ⟨i, hi, rfl, hex⟩ := hrel
    obtain ⟨x, rfl⟩ := hex.get
    clear hex
    by_cases hlt : i < n
    · have hz1 : i < Z.length := by have := HZN.out; omega
      have hy1 : i < Y.length := by have := HYN.out; omega
      obtain ⟨vx, HVX, ga, oa, rfl, hga, c0, c1, c2, c3, c4, c5, c6, c7, c8⟩ := hA.verAt HZN.out.symm hz1
      obtain ⟨vy, HVY, gb, ob, rfl, hgb, d0, d1, d2, d3, d4, d5, d6, d7, d8⟩ := hB.verAt HYN.out hy1
      have hp : Z[i].2 = Y[i].2 := by
        have h1 := List.getElem_of_eq HE.out (i := i) (by simp [psOf]; exact hz1)
        simpa [psOf] using h1
      have hv1 := HZ.out _ (List.getElem_mem hz1)
      have hv2 := HY.out _ (List.getElem_mem hy1)
      have hrl := nr _ (List.getElem_mem hz1)
      rw [← HVX.out] at hv1
      rw [← HVY.out] at hv2
      rw [← hp] at hv2
      generalize Z[i].2 = p at hv1 hv2 hrl
      have n1 : vx.rn ≤ 9223372036854775807 := by have := hv1.rn; omega
      have n2 : vy.rn ≤ 9223372036854775807 := by have := hv2.rn; omega
      have HLK := Lib.hid (fun (xx : Add) => rlike_any vx vy p p (ext (ext w x) xx) ((hv1.ext (Ext.ex _ _)).ext (Ext.ex _ _)) ((hv2.ext (Ext.ex _ _)).ext (Ext.ex _ _)) n1 n2)
      simp only [decide_true] at HLK
      have q1 : vx.r.1.1 = vy.r.1.1 := by rw [hv1.r, hv2.r]
      have q2 : vx.r.1.2 = vy.r.1.2 := by rw [hv1.r, hv2.r]
      have q3 : vx.r.2.1 = vy.r.2.1 := by rw [hv1.r, hv2.r]
      have q4 : vx.r.2.2 = vy.r.2.2 := by rw [hv1.r, hv2.r]
      rw [← q1] at d3
      rw [← q2] at d4
      rw [← q3] at d5
      rw [← q4] at d6
      have HVG : Hid (vg vy = .agg #[.int .i64 vy.id, .int .i64 vy.sch, .slice vy.rA vy.rn vy.rc, .int .i64 vx.r.1.1, .int .i64 vx.r.1.2, .int .i64 vx.r.2.1, .int .i64 vx.r.2.2, .int .i64 vy.by_, .int .i64 vy.un]) := Lib.hid (by rw [q1, q2, q3, q4])
      rw [HVG.out] at HLK
      clear HVX HVY hp hv1 hv2 q1 q2 q3 q4 HVG
      go_wp2_with fail
      refine wp_region_ext (by kernel_rfl) (by kernel_rfl) ?_
      repeat (first | go_big_quiet_step ((go_at_call 24; exact Calls.ext_of (HLK.out _))) | quiet_step ((go_at_call 24; exact Calls.ext_of (HLK.out _))))
      refine wpQuiet_nil ?_
      intro _ hw'
      obtain ⟨xq, hw''⟩ := hw'
      subst hw''
      go_wp2
      go_roundw
      case rel => exact ⟨i + 1, by omega, by go_num, by repeat (first | exact Ext.refl' _ | assumption | apply Ext.ex' | apply Ext.al | apply Ext.drN | apply Ext.dr)⟩
      case measure => simp [intOf]; omega
    · go_wp2
      go_ret
      exact ⟨rfl, by repeat (first | exact Ext.refl' _ | assumption | apply Ext.ex' | apply Ext.al | apply Ext.drN | apply Ext.dr)⟩

end Go.Proofs.YtccndjnaakmlkaaGreat

namespace Go.Proofs.YtccndjnaakmlkaaGreat
open Go.RowKit


theorem pruneF_rows {h : Int} {hs : List Rct} {ps : List PV} {n : Nat} (hn : ∀ p ∈ ps, p.row.length ≤ n) : ∀ p ∈ pruneF h hs ps, p.row.length ≤ n := fun p hp => by
  have h1 := (isort_perm (lt := ltV) (pruneL h hs ps)).mem_iff.1 hp
  obtain ⟨q, hq, h2⟩ := List.mem_flatMap.1 h1
  obtain ⟨r, _, rfl⟩ := List.mem_map.1 h2
  exact hn q hq
/-- what Prune gives: the pruned versions, not too many, their rows not too long -/
def PrP (n m : Nat) (PF : List PV) (w : World) (e : Ending) (w' : World) : Prop := ∃ B d Z, e = .returned (.slice B Z.length d) ∧ Ext w w' ∧ Rd w' 9 B Z.length (verc (vsOf Z)) ∧ (∀ z ∈ Z, VerIs w' z.1 z.2) ∧ psOf Z = PF ∧ Z.length ≤ n ∧ ∀ z ∈ Z, z.2.row.length ≤ m
theorem PrP.mk {h : Int} {hs : List Rct} {ps : List PV} {n m : Nat} (hs12 : hs.length ≤ 12) (hn : ps.length * 783 ≤ n) (hm : ∀ p ∈ ps, p.row.length ≤ m) {w w' : World} {e : Ending} (hp : ∃ B d Z, e = .returned (.slice B Z.length d) ∧ Ext w w' ∧ Rd w' 9 B Z.length (verc (vsOf Z)) ∧ (∀ z ∈ Z, VerIs w' z.1 z.2) ∧ psOf Z = pruneF h hs ps) : PrP n m (pruneF h hs ps) w e w' := by
  obtain ⟨B, d, Z, h1, h2, h3, h4, h5⟩ := hp
  refine ⟨B, d, Z, h1, h2, h3, h4, h5, ?_, fun z hz => ?_⟩
  · have h6 := congrArg List.length h5
    have h7 := pruneF_length (h := h) hs12 ps
    simp only [psOf, List.length_map] at h6
    omega
  · exact pruneF_rows hm z.2 (by rw [← h5]; exact List.mem_map_of_mem hz)
theorem rows_le {w : World} {Z : List VP} {n : Nat} (hz : ∀ z ∈ Z, VerIs w z.1 z.2) (hn : ∀ z ∈ Z, z.1.rn ≤ n) : ∀ p ∈ psOf Z, p.row.length ≤ n := fun p hp => by
  obtain ⟨z, hzm, rfl⟩ := List.mem_map.1 hp
  have h1 := (hz z hzm).rn
  have h2 := hn z hzm
  omega
theorem tpruneP_any (n m : Nat) (h : Int) (A H : Option Addr) (c ch : Nat) (Z0 : List VP) (hs : List Rct) (w : World) (hl : Rd w 9 A Z0.length (verc (vsOf Z0))) (hz : ∀ z ∈ Z0, VerIs w z.1 z.2) (hh : Rd w 4 H hs.length (rcl hs)) (nl : Z0.length ≤ 30000) (nh : hs.length ≤ 12) (hm : m ≤ 1000000) (nr : ∀ p ∈ psOf Z0, p.row.length ≤ m) (hn : Z0.length * 783 ≤ n) :
    Calls Tryz.prog 11 #[.slice A Z0.length c, .int .i64 h, .slice H hs.length ch] w (PrP n m (pruneF h hs (psOf Z0)) w) :=
  (tprune_any h A H c ch Z0 hs w hl hz hh nl nh (fun z hz => Nat.le_trans (nr z.2 (List.mem_map_of_mem hz)) hm)).mono fun _ _ hp => PrP.mk nh (by simpa [psOf] using hn) nr hp
theorem rpruneP_any (n m : Nat) (h : Int) (A H : Option Addr) (c ch : Nat) (Z0 : List VP) (hs : List Rct) (w : World) (hl : Rd w 9 A Z0.length (verc (vsOf Z0))) (hz : ∀ z ∈ Z0, VerIs w z.1 z.2) (hh : Rd w 4 H hs.length (rcl hs)) (nl : Z0.length ≤ 30000) (nh : hs.length ≤ 12) (nr : ∀ p ∈ psOf Z0, p.row.length ≤ m) (hn : Z0.length * 783 ≤ n) :
    Calls Tryz.prog 12 #[.slice A Z0.length c, .int .i64 h, .slice H hs.length ch] w (PrP n m (pruneF h hs (psOf Z0)) w) :=
  (rprune_any h A H c ch Z0 hs w hl hz hh nl nh).mono fun _ _ hp => PrP.mk nh (by simpa [psOf] using hn) nr hp


set_option maxRecDepth 100000 in
set_option maxHeartbeats 8000000 in
theorem lawPrune_any (LA HA : Option Addr) (lc hc : Nat) (Z : List VP) (hs : List Rct) (h la : Int) (r : Rct) (v t : Int) (w : World) (hl : Rd w 9 LA Z.length (verc (vsOf Z))) (hz : ∀ z ∈ Z, VerIs w z.1 z.2) (hh : Rd w 4 HA hs.length (rcl hs)) (nl : Z.length ≤ 9223372036854775807) (nh : hs.length ≤ 9223372036854775807) (nr : ∀ z ∈ Z, z.1.rn ≤ 9223372036854775807) :
    Calls Tryz.prog 4 #[.agg #[.slice LA Z.length lc, .int .i64 h, .int .i64 la, .slice HA hs.length hc, .int .i64 r.1.1, .int .i64 r.1.2, .int .i64 r.2.1, .int .i64 r.2.2, .int .i64 v, .int .i64 t]] w fun e w' => e = .returned (.bool true) ∧ Ext w w' := by
  have HL := Lib.hid (fun w h1 => rlargeZ_any LA HA lc hc Z hs w h1 nl nh nr)
  rcases hlg : largeB (vsOf Z) hs with _ | _
  · obtain ⟨nl', nh', nr'⟩ := large_no hlg
    rw [hlg] at HL
    clear hlg
    have hrw := rows_le hz nr'
    have HT := Lib.hid (fun w h1 h2 h3 => tpruneP_any 23490 20 h LA HA lc hc Z hs w h1 h2 h3 (by omega) nh' (by omega) hrw (by omega))
    have HR := Lib.hid (fun w h1 h2 h3 => rpruneP_any 23490 20 h LA HA lc hc Z hs w h1 h2 h3 (by omega) nh' hrw (by omega))
    generalize pruneF h hs (psOf Z) = PF at HT HR
    go_enter Tryz.func4, Tryz.ntmps4
    go_wp2_with fail
    refine Calls.mono (HL.out _ (hl.ext (by repeat (first | exact Ext.refl' _ | assumption | apply Ext.ex' | apply Ext.al | apply Ext.drN | apply Ext.dr)))) ?_
    rintro e W1 ⟨rfl, HE⟩
    have hE1 : Ext w W1 := Ext.tr (by repeat (first | exact Ext.refl' _ | assumption | apply Ext.ex' | apply Ext.al | apply Ext.drN | apply Ext.dr)) HE
    have hs1 := HE.size
    simp only [size_ext, World.size_alloc] at hs1
    have k0 : W1.cell? ⟨w.heap.size, 0, none⟩ = some (.slice LA Z.length lc) := HE.cell' (by simp [go_sem, ↓IntWalk.iteOmega])
    have k1 : W1.cell? ⟨w.heap.size, 1, none⟩ = some (.int .i64 h) := HE.cell' (by simp [go_sem, ↓IntWalk.iteOmega])
    have k2 : W1.cell? ⟨w.heap.size, 2, none⟩ = some (.int .i64 la) := HE.cell' (by simp [go_sem, ↓IntWalk.iteOmega])
    have k3 : W1.cell? ⟨w.heap.size, 3, none⟩ = some (.slice HA hs.length hc) := HE.cell' (by simp [go_sem, ↓IntWalk.iteOmega])
    have k4 : W1.cell? ⟨w.heap.size, 4, none⟩ = some (.int .i64 r.1.1) := HE.cell' (by simp [go_sem, ↓IntWalk.iteOmega])
    have k5 : W1.cell? ⟨w.heap.size, 5, none⟩ = some (.int .i64 r.1.2) := HE.cell' (by simp [go_sem, ↓IntWalk.iteOmega])
    have k6 : W1.cell? ⟨w.heap.size, 6, none⟩ = some (.int .i64 r.2.1) := HE.cell' (by simp [go_sem, ↓IntWalk.iteOmega])
    have k7 : W1.cell? ⟨w.heap.size, 7, none⟩ = some (.int .i64 r.2.2) := HE.cell' (by simp [go_sem, ↓IntWalk.iteOmega])
    have k8 : W1.cell? ⟨w.heap.size, 8, none⟩ = some (.int .i64 v) := HE.cell' (by simp [go_sem, ↓IntWalk.iteOmega])
    have k9 : W1.cell? ⟨w.heap.size, 9, none⟩ = some (.int .i64 t) := HE.cell' (by simp [go_sem, ↓IntWalk.iteOmega])
    clear HE
    have hl1 := hl.ext hE1
    have hh1 := hh.ext hE1
    have hz1 : ∀ z ∈ Z, VerIs W1 z.1 z.2 := fun z hzm => (hz z hzm).ext hE1
    clear hl hh hz
    go_wp2_with fail
    refine wp_region_held_drew (S := (fun w' => w'.cell? ⟨w.heap.size, 0, none⟩ = some (.slice LA Z.length lc) ∧ w'.cell? ⟨w.heap.size, 1, none⟩ = some (.int .i64 h) ∧ w'.cell? ⟨w.heap.size, 3, none⟩ = some (.slice HA hs.length hc))) (by kernel_rfl) (by simp [go_sem, ↓IntWalk.iteOmega, *]) (fun hHeld => ?_)
    refine wpAnyH_take (i := 0) (oi := ?oi1) (v := ?v1) ?hi1 (by kernel_rfl) (by kernel_rfl) (by kernel_rfl) ?hQ1 ?hy1 (by assumption) ?_
    case hi1 => (simp only [List.getElem?_toArray, List.getElem?_cons_succ, List.getElem?_cons_zero]; rfl)
    case hQ1 => exact fun _ _ _ h => h
    case hy1 => (refine Or.inl ⟨by rfl, ?_⟩; intro wq hSw; (try dsimp only at hSw); go_simp; (try with_reducible rfl))
    (try simp only [Act.put, List.setIfInBounds_toArray, List.set_cons_zero, List.set_cons_succ])
    refine wpAnyH_take (i := 1) (oi := ?oi2) (v := ?v2) ?hi2 (by kernel_rfl) (by kernel_rfl) (by kernel_rfl) ?hQ2 ?hy2 (by assumption) ?_
    case hi2 => (simp only [List.getElem?_toArray, List.getElem?_cons_succ, List.getElem?_cons_zero]; rfl)
    case hQ2 => exact fun _ _ _ h => h
    case hy2 => (refine Or.inl ⟨by rfl, ?_⟩; intro wq hSw; (try dsimp only at hSw); go_simp; (try with_reducible rfl))
    (try simp only [Act.put, List.setIfInBounds_toArray, List.set_cons_zero, List.set_cons_succ])
    refine wpAnyH_take (i := 2) (oi := ?oi3) (v := ?v3) ?hi3 (by kernel_rfl) (by kernel_rfl) (by kernel_rfl) ?hQ3 ?hy3 (by assumption) ?_
    case hi3 => (simp only [List.getElem?_toArray, List.getElem?_cons_succ, List.getElem?_cons_zero]; rfl)
    case hQ3 => exact fun _ _ _ h => h
    case hy3 => (refine Or.inl ⟨by rfl, ?_⟩; intro wq hSw; (try dsimp only at hSw); go_simp; (try with_reducible rfl))
    (try simp only [Act.put, List.setIfInBounds_toArray, List.set_cons_zero, List.set_cons_succ])
    refine wpAnyH_take (i := 3) (oi := ?oi4) (v := ?v4) ?hi4 (by kernel_rfl) (by kernel_rfl) (by kernel_rfl) ?hQ4 ?hy4 (by assumption) ?_
    case hi4 => (simp only [List.getElem?_toArray, List.getElem?_cons_succ, List.getElem?_cons_zero]; rfl)
    case hQ4 => exact fun _ _ _ h => h
    case hy4 => (refine Or.inl ⟨by rfl, ?_⟩; intro wq hSw; (try dsimp only at hSw); go_simp; (try with_reducible rfl))
    (try simp only [Act.put, List.setIfInBounds_toArray, List.set_cons_zero, List.set_cons_succ])
    refine wpAnyH_take (i := 4) (oi := ?oi5) (v := ?v5) ?hi5 (by kernel_rfl) (by kernel_rfl) (by kernel_rfl) ?hQ5 ?hy5 (by assumption) ?_
    case hi5 => (simp only [List.getElem?_toArray, List.getElem?_cons_succ, List.getElem?_cons_zero]; rfl)
    case hQ5 => exact fun _ _ _ h => h
    case hy5 => (refine Or.inl ⟨by rfl, ?_⟩; intro wq hSw; (try dsimp only at hSw); go_simp; (try with_reducible rfl))
    (try simp only [Act.put, List.setIfInBounds_toArray, List.set_cons_zero, List.set_cons_succ])
    refine wpAnyH_take (i := 5) (oi := ?oi6) (v := ?v6) ?hi6 (by kernel_rfl) (by kernel_rfl) (by kernel_rfl) ?hQ6 ?hy6 (by assumption) ?_
    case hi6 => (simp only [List.getElem?_toArray, List.getElem?_cons_succ, List.getElem?_cons_zero]; rfl)
    case hQ6 => exact fun _ _ _ h => h
    case hy6 => (refine Or.inl ⟨by rfl, ?_⟩; intro wq hSw; (try dsimp only at hSw); go_simp; (try with_reducible rfl))
    (try simp only [Act.put, List.setIfInBounds_toArray, List.set_cons_zero, List.set_cons_succ])
    refine wpAnyH_take (i := 7) (oi := ?oi7) (v := ?v7) ?hi7 (by kernel_rfl) (by kernel_rfl) (by kernel_rfl) ?hQ7 ?hy7 (by assumption) ?_
    case hi7 => (simp only [List.getElem?_toArray, List.getElem?_cons_succ, List.getElem?_cons_zero]; rfl)
    case hQ7 => exact fun _ _ _ h => h
    case hy7 => (refine Or.inl ⟨by rfl, ?_⟩; intro wq hSw; (try dsimp only at hSw); go_simp; (try with_reducible rfl))
    (try simp only [Act.put, List.setIfInBounds_toArray, List.set_cons_zero, List.set_cons_succ])
    refine wpAnyH_take (i := 8) (oi := ?oi8) (v := ?v8) ?hi8 (by kernel_rfl) (by kernel_rfl) (by kernel_rfl) ?hQ8 ?hy8 (by assumption) ?_
    case hi8 => (simp only [List.getElem?_toArray, List.getElem?_cons_succ, List.getElem?_cons_zero]; rfl)
    case hQ8 => exact fun _ _ _ h => h
    case hy8 => (refine Or.inl ⟨by rfl, ?_⟩; intro wq hSw; (try dsimp only at hSw); go_simp; (try with_reducible rfl))
    (try simp only [Act.put, List.setIfInBounds_toArray, List.set_cons_zero, List.set_cons_succ])
    refine wpAnyH_take (i := 9) (oi := ?oi9) (v := ?v9) ?hi9 (by kernel_rfl) (by kernel_rfl) (by kernel_rfl) ?hQ9 ?hy9 (by assumption) ?_
    case hi9 => (simp only [List.getElem?_toArray, List.getElem?_cons_succ, List.getElem?_cons_zero]; rfl)
    case hQ9 => exact fun _ _ _ h => h
    case hy9 => (refine Or.inl ⟨by rfl, ?_⟩; intro wq hSw; (try dsimp only at hSw); go_simp; (try with_reducible rfl))
    (try simp only [Act.put, List.setIfInBounds_toArray, List.set_cons_zero, List.set_cons_succ])
    refine wpAnyH_take (i := 10) (oi := ?oi10) (v := ?v10) ?hi10 (by kernel_rfl) (by kernel_rfl) (by kernel_rfl) ?hQ10 ?hy10 (by assumption) ?_
    case hi10 => (simp only [List.getElem?_toArray, List.getElem?_cons_succ, List.getElem?_cons_zero]; rfl)
    case hQ10 => exact fun _ _ _ h => h
    case hy10 => (refine Or.inl ⟨by rfl, ?_⟩; intro wq hSw; (try dsimp only at hSw); go_simp; (try with_reducible rfl))
    (try simp only [Act.put, List.setIfInBounds_toArray, List.set_cons_zero, List.set_cons_succ])
    refine wpAnyH_take (i := 11) (oi := ?oi11) (v := ?v11) ?hi11 (by kernel_rfl) (by kernel_rfl) (by kernel_rfl) ?hQ11 ?hy11 (by assumption) ?_
    case hi11 => (simp only [List.getElem?_toArray, List.getElem?_cons_succ, List.getElem?_cons_zero]; rfl)
    case hQ11 => exact fun _ _ _ h => h
    case hy11 => (refine Or.inl ⟨by rfl, ?_⟩; intro wq hSw; (try dsimp only at hSw); go_simp; (try with_reducible rfl))
    (try simp only [Act.put, List.setIfInBounds_toArray, List.set_cons_zero, List.set_cons_succ])
    refine wpAnyH_take (i := 12) (oi := ?oi12) (v := ?v12) ?hi12 (by kernel_rfl) (by kernel_rfl) (by kernel_rfl) ?hQ12 ?hy12 (by assumption) ?_
    case hi12 => (simp only [List.getElem?_toArray, List.getElem?_cons_succ, List.getElem?_cons_zero]; rfl)
    case hQ12 => exact fun _ _ _ h => h
    case hy12 => (refine Or.inl ⟨by rfl, ?_⟩; intro wq hSw; (try dsimp only at hSw); go_simp; (try with_reducible rfl))
    (try simp only [Act.put, List.setIfInBounds_toArray, List.set_cons_zero, List.set_cons_succ])
    refine wpAnyH_ready (rs := [6]) (by kernel_rfl) (by simp) ?_
    refine AllReadyH.cons (o := ?oi13) ?hi13 ?ti13 AllReadyH.nil
    case hi13 => (simp only [List.getElem?_toArray, List.getElem?_cons_succ, List.getElem?_cons_zero]; rfl)
    case ti13 =>
      intro K hK
      go_simp
      go_at_call 11
      refine Calls.mono (HT.out _ (hl1.ext (by repeat (first | exact Ext.refl' _ | assumption | apply Ext.ex' | apply Ext.al | apply Ext.drN | apply Ext.dr))) (fun z hzm => (hz1 z hzm).ext (by repeat (first | exact Ext.refl' _ | assumption | apply Ext.ex' | apply Ext.al | apply Ext.drN | apply Ext.dr))) (hh1.ext (by repeat (first | exact Ext.refl' _ | assumption | apply Ext.ex' | apply Ext.al | apply Ext.drN | apply Ext.dr)))) ?_
      rintro e w1 ⟨A1, c1, Z1, rfl, hb1, hR1, hZ1, hP1, hN1, hM1⟩
      obtain ⟨x1, rfl⟩ := hb1.get
      clear hb1
      refine hK.out _ _ (by simp [go_sem, ↓IntWalk.iteOmega, *]) (fun hHeld2 => ?_)
      clear hHeld hK K; have hHeld := hHeld2; clear hHeld2
      (try simp only [Act.put, List.setIfInBounds_toArray, List.set_cons_zero, List.set_cons_succ])
      refine wpAnyH_ready (rs := [13]) (by kernel_rfl) (by simp) ?_
      refine AllReadyH.cons (o := ?oi14) ?hi14 ?ti14 AllReadyH.nil
      case hi14 => (simp only [List.getElem?_toArray, List.getElem?_cons_succ, List.getElem?_cons_zero]; rfl)
      case ti14 =>
        intro K hK
        go_simp
        go_at_call 12
        refine Calls.mono (HR.out _ (hl1.ext (by repeat (first | exact Ext.refl' _ | assumption | apply Ext.ex' | apply Ext.al | apply Ext.drN | apply Ext.dr))) (fun z hzm => (hz1 z hzm).ext (by repeat (first | exact Ext.refl' _ | assumption | apply Ext.ex' | apply Ext.al | apply Ext.drN | apply Ext.dr))) (hh1.ext (by repeat (first | exact Ext.refl' _ | assumption | apply Ext.ex' | apply Ext.al | apply Ext.drN | apply Ext.dr)))) ?_
        rintro e w1 ⟨A2, c2, Z2, rfl, hb1, hR2, hZ2, hP2, hN2, hM2⟩
        obtain ⟨x2, rfl⟩ := hb1.get
        clear hb1
        refine hK.out _ _ (by simp [go_sem, ↓IntWalk.iteOmega, *]) (fun hHeld2 => ?_)
        clear hHeld hK K; have hHeld := hHeld2; clear hHeld2
        (try simp only [Act.put, List.setIfInBounds_toArray, List.set_cons_zero, List.set_cons_succ])
        refine wpAnyH_ready (rs := [14]) (by kernel_rfl) (by simp) ?_
        refine AllReadyH.cons (o := ?oi15) ?hi15 ?ti15 AllReadyH.nil
        case hi15 => (simp only [List.getElem?_toArray, List.getElem?_cons_succ, List.getElem?_cons_zero]; rfl)
        case ti15 =>
          intro K hK
          go_simp
          go_at_call 10
          refine Calls.mono (same33_yes _ _ _ _ Z1 Z2 _ (hR1.ext (by repeat (first | exact Ext.refl' _ | assumption | apply Ext.ex' | apply Ext.al | apply Ext.drN | apply Ext.dr))) hR2 (fun z hzm => (hZ1 z hzm).ext (by repeat (first | exact Ext.refl' _ | assumption | apply Ext.ex' | apply Ext.al | apply Ext.drN | apply Ext.dr))) hZ2 (hP1.trans hP2.symm) (by omega) (fun z hzm => by have := hM1 z hzm; omega)) ?_
          rintro e w1 ⟨rfl, hb1⟩
          obtain ⟨x3, rfl⟩ := hb1.get
          clear hb1
          refine hK.out _ _ (by simp [go_sem, ↓IntWalk.iteOmega, *]) (fun hHeld2 => ?_)
          clear hHeld hK K; have hHeld := hHeld2; clear hHeld2
          (try simp only [Act.put, List.setIfInBounds_toArray, List.set_cons_zero, List.set_cons_succ])
          refine wpAnyH_take (i := 15) (oi := ?oi16) (v := ?v16) ?hi16 (by kernel_rfl) (by kernel_rfl) (by kernel_rfl) ?hQ16 ?hy16 (by assumption) ?_
          case hi16 => (simp only [List.getElem?_toArray, List.getElem?_cons_succ, List.getElem?_cons_zero]; rfl)
          case hQ16 => exact fun _ _ _ h => h
          case hy16 => (refine Or.inl ⟨by rfl, ?_⟩; intro wq hSw; (try dsimp only at hSw); go_simp; (try with_reducible rfl))
          (try simp only [Act.put, List.setIfInBounds_toArray, List.set_cons_zero, List.set_cons_succ])
          refine wpAnyH_ready (rs := [16]) (by kernel_rfl) (by simp) ?_
          refine AllReadyH.cons (o := ?oi17) ?hi17 ?ti17 AllReadyH.nil
          case hi17 => (simp only [List.getElem?_toArray, List.getElem?_cons_succ, List.getElem?_cons_zero]; rfl)
          case ti17 =>
            intro K hK
            go_simp
            go_at_call 8
            refine Calls.mono (awake33_any _) ?_
            rintro e w1 ⟨rfl, hb1⟩
            obtain ⟨x4, rfl⟩ := hb1.get
            clear hb1
            refine hK.out _ _ (by simp [go_sem, ↓IntWalk.iteOmega, *]) (fun hHeld2 => ?_)
            clear hHeld hK K; have hHeld := hHeld2; clear hHeld2
            (try simp only [Act.put, List.setIfInBounds_toArray, List.set_cons_zero, List.set_cons_succ])
            refine wpAnyH_take (i := 17) (oi := ?oi18) (v := ?v18) ?hi18 (by kernel_rfl) (by kernel_rfl) (by kernel_rfl) ?hQ18 ?hy18 (by assumption) ?_
            case hi18 => (simp only [List.getElem?_toArray, List.getElem?_cons_succ, List.getElem?_cons_zero]; rfl)
            case hQ18 => exact fun _ _ _ h => h
            case hy18 => (refine Or.inl ⟨by rfl, ?_⟩; intro wq hSw; (try dsimp only at hSw); go_simp; (try with_reducible rfl))
            (try simp only [Act.put, List.setIfInBounds_toArray, List.set_cons_zero, List.set_cons_succ])
            refine wpAnyH_take (i := 18) (oi := ?oi19) (v := ?v19) ?hi19 (by kernel_rfl) (by kernel_rfl) (by kernel_rfl) ?hQ19 ?hy19 (by assumption) ?_
            case hi19 => (simp only [List.getElem?_toArray, List.getElem?_cons_succ, List.getElem?_cons_zero]; rfl)
            case hQ19 => exact fun _ _ _ h => h
            case hy19 => (refine Or.inl ⟨by rfl, ?_⟩; intro wq hSw; (try dsimp only at hSw); go_simp; (try with_reducible rfl))
            (try simp only [Act.put, List.setIfInBounds_toArray, List.set_cons_zero, List.set_cons_succ])
            refine wpAnyH_done (by kernel_rfl) ?_ _
            go_wp2
            go_ret
            exact ⟨rfl, hE1.tr (by repeat (first | exact Ext.refl' _ | assumption | apply Ext.ex' | apply Ext.al | apply Ext.drN | apply Ext.dr))⟩
  · rw [hlg] at HL
    clear hlg
    go_enter Tryz.func4, Tryz.ntmps4
    go_wp2_with (first | (go_at_call 7; refine (HL.out _ (hl.ext (by repeat (first | exact Ext.refl' _ | assumption | apply Ext.ex' | apply Ext.al | apply Ext.drN | apply Ext.dr)))).mono ?_; rintro e w1 ⟨rfl, hb1⟩; obtain ⟨xl, rfl⟩ := hb1.get; clear hb1) | (go_at_call 8; refine (awake33_any _).mono ?_; rintro e w1 ⟨rfl, hb1⟩; obtain ⟨xaw, rfl⟩ := hb1.get; clear hb1))
    go_ret
    exact ⟨rfl, by repeat (first | exact Ext.refl' _ | assumption | apply Ext.ex' | apply Ext.al | apply Ext.drN | apply Ext.dr)⟩

end Go.Proofs.YtccndjnaakmlkaaGreat
