/- RegionPoints holds: for every input the law returns true and its arguments read as before. -/
import Derived.Test.YtcnhnbdgmfhfgaaRgL4d
import Derived.Test.YtcnhnbdgmfhfgaaOpnR
set_option linter.unusedSimpArgs false
set_option linter.unusedVariables false
namespace Go.Proofs.Ytcnhnbdgmfhfgaa
open Go.ChangeShapes Go.WideShapes Go.ChangeAt Go.RowKit Go.Joins Go.Deep

theorem regionPoints_readable : ∀ t ∈ Try.f8.params.toList, Try.prog.readableRec t = true ∧ t < Try.prog.types.size := fun t ht => by
    rw [Try.params8] at ht
    simp at ht
    rcases ht with rfl | rfl | rfl
    all_goals exact ⟨by kernel_rfl, of_decide_eq_true (by kernel_rfl)⟩
theorem regionPoints_spec : LawSpec Rows.regionPointsSpec 3 := by
  refine ⟨rfl, fun H ds h => ?_⟩
  match ds, h with
  | [d0, d1, d2], _ => rfl

set_option maxRecDepth 100000 in
theorem regionPoints_lifted (os : Os) (started : os.Started) (H : Type) (enc : TypeId × Value → H) :
    ReturnsInHanded {} Try.checked os 8 .any (Rows.regionPointsSpec.pre6 enc Try.prog Try.f8 Rows.regionPointsRow.domain false) (Rows.regionPointsSpec.post enc Try.prog Try.f8 false true false false) := by
  refine returnsInHanded_of_change_sized (C := Try.checked) Try.own started (by kernel_rfl) Try.func8
    (ChangeSpec.witness6 (enc := enc) (C := Try.checked) false ⟨#[], #[.slice none 0 0, .slice none 0 0, .agg #[.int .i64 0, .int .i64 0]], []⟩ 8 (by kernel_rfl) (by kernel_rfl) (by kernel_rfl) (by kernel_rfl)) ?_
  intro W base args ds gs before hval0 hW _ hsz0 _
  have hsz1 : (DataW.weightsEach Try.prog (Try.f8.params.toList ++ Rows.regionPointsSpec.plain.varTypes Try.prog) (ds ++ gs)).all (· ≤ reachBytes) = true := hsz0
  have hval : ∀ (j : Nat) t v, Try.f8.params[j]? = some t → args[j]? = some v → Value.okWide Try.prog W .any base t v := hval0
  have hW' := hW
  obtain ⟨p, q, hA0, hV, rfl, hfz, hnd⟩ := hW
  have hA : DataW.TrodAll enc Try.prog W 0 (fun _ => true) true Try.f8.params.toList args.toList ds p := hA0
  obtain ⟨rfl, rfl⟩ := trodVars_none hV
  have hsz : (DataW.weightsEach Try.prog Try.f8.params.toList ds).all (· ≤ reachBytes) = true := by
    have e : Try.f8.params.toList ++ Rows.regionPointsSpec.plain.varTypes Try.prog = Try.f8.params.toList := by kernel_rfl
    rw [e, List.append_nil] at hsz1
    exact hsz1
  rw [Try.params8] at hA hval hsz
  obtain ⟨v0, vs0, d0, ds0, p0, q0, hargs, rfl, rfl, h0, r0⟩ := trodAll_cons hA
  obtain ⟨v1, vs1, d1, ds1, p1, q1, rfl, rfl, rfl, h1, r1⟩ := trodAll_cons r0
  obtain ⟨v2, vs2, d2, ds2, p2, q2, rfl, rfl, rfl, h2, r2⟩ := trodAll_cons r1
  obtain ⟨rfl, rfl, rfl⟩ := trodAll_nil r2
  obtain rfl : args = #[v0, v1, v2] := by cases args; simp_all
  clear hA0 hval0 hsz0 hsz1
  obtain ⟨ao0, ln0, cp0, hvs0⟩ := okWide_slice Try.underlying22 (hval 0 22 v0 rfl rfl)
  obtain ⟨A0, c0, ls0, rfl, hlc0, hcm0, hall0, hR0, hdd0⟩ := open_flat Try.underlying22 rect_ints (by kernel_rfl) (by decide) h0 hvs0
  have hsz0 : ls0.length * 32 ≤ 140737488351232 := by
    rcases hdd0 with ⟨rfl, rfl⟩ | ⟨el, sp, rfl, hel⟩
    · simp
    · have h := sized_slice hsz (j := 0) (t := 22) (e := 36) rfl rfl Try.underlying22
      rw [show Try.prog.bytesOf 36 = 32 from by kernel_rfl] at h
      unfold reachBytes at h
      omega
  rw [quads_rcl ls0 hall0, ← quads_len ls0] at hR0
  rw [← quads_len ls0] at hsz0
  have hcl0 := quads_len ls0
  obtain ⟨ao1, ln1, cp1, hvs1⟩ := okWide_slice Try.underlying22 (hval 1 22 v1 rfl rfl)
  obtain ⟨A1, c1, ls1, rfl, hlc1, hcm1, hall1, hR1, hdd1⟩ := open_flat Try.underlying22 rect_ints (by kernel_rfl) (by decide) h1 hvs1
  have hsz1 : ls1.length * 32 ≤ 140737488351232 := by
    rcases hdd1 with ⟨rfl, rfl⟩ | ⟨el, sp, rfl, hel⟩
    · simp
    · have h := sized_slice hsz (j := 1) (t := 22) (e := 36) rfl rfl Try.underlying22
      rw [show Try.prog.bytesOf 36 = 32 from by kernel_rfl] at h
      unfold reachBytes at h
      omega
  rw [quads_rcl ls1 hall1, ← quads_len ls1] at hR1
  rw [← quads_len ls1] at hsz1
  have hcl1 := quads_len ls1
  obtain ⟨c0_2, c1_2, y0_2, y1_2, m2, rfl, rfl, rfl, hy0_2, hy1_2⟩ := open_agg2 Try.underlying42 (by kernel_rfl) (by kernel_rfl) (hval 2 42 v2 rfl rfl) h2
  obtain ⟨a0_2, rfl, rfl, wa0_2⟩ := trod_i64 Try.underlying3 hy0_2
  obtain ⟨a1_2, rfl, rfl, wa1_2⟩ := trod_i64 Try.underlying3 hy1_2
  refine Calls.mono ?_ (R := fun e W' => e = .returned (.bool true) ∧ Ext W W') fun e W' ⟨he, hE⟩ => ⟨_, he, law_post (tb := 4) Try.laidOut regionPoints_spec regionPoints_readable Try.underlying4 rfl hW' hE⟩
  rw [show ls0.length = (quads ls0).length from hcl0.symm]
  rw [show ls1.length = (quads ls1).length from hcl1.symm]
  exact lawRPoints_any A0 c0 (quads ls0) A1 c1 (quads ls1) (a0_2, a1_2) W hR0 hR1 (by omega) (by omega)

theorem regionPoints_holds : Rows.RegionPointsSaid :=
  OpenClaim.holds_of_wide 8 Try.f8 rfl rfl rfl rfl rfl rfl rfl ⟨rfl, rfl, rfl, rfl, rfl⟩ rfl rfl rfl rfl rfl (by kernel_rfl) Try.func8 (by kernel_rfl)
    (of_decide_eq_true (by kernel_rfl)) (by unfold Func.isWrapper; first | (rw [if_pos (by decide +kernel)]; kernel_rfl) | (rw [if_neg (by decide +kernel)]; exact ⟨rfl, rfl⟩))
    (fun os started H enc _ => regionPoints_lifted os started H enc)

#print axioms regionPoints_holds
end Go.Proofs.Ytcnhnbdgmfhfgaa
