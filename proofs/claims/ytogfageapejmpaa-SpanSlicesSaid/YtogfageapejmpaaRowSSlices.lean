/- SpanSlices holds: for every input the law returns true and its arguments read as before. -/
import Derived.Test.YtogfageapejmpaaSpL7
import Derived.Test.YtogfageapejmpaaOpen
set_option linter.unusedSimpArgs false
set_option linter.unusedVariables false
namespace Go.Proofs.Ytogfageapejmpaa
open Go.ChangeShapes Go.WideShapes Go.ChangeAt Go.RowKit Go.Joins Go.Deep

theorem spanSlices_readable : ∀ t ∈ Try.f4.params.toList, Try.prog.readableRec t = true ∧ t < Try.prog.types.size := fun t ht => by
    rw [Try.params4] at ht
    simp at ht
    subst ht
    exact ⟨by kernel_rfl, of_decide_eq_true (by kernel_rfl)⟩
theorem spanSlices_spec : LawSpec Rows.spanSlicesSpec 1 := by
  refine ⟨rfl, fun H ds h => ?_⟩
  match ds, h with
  | [d0], _ => rfl

set_option maxRecDepth 100000 in
theorem spanSlices_lifted (os : Os) (started : os.Started) (H : Type) (enc : TypeId × Value → H) :
    ReturnsInHanded {} Try.checked os 4 .any (Rows.spanSlicesSpec.pre6 enc Try.prog Try.f4 Rows.spanSlicesRow.domain false) (Rows.spanSlicesSpec.post enc Try.prog Try.f4 false true false false) := by
  refine returnsInHanded_of_change_sized (C := Try.checked) Try.own started (by kernel_rfl) Try.func4
    (ChangeSpec.witness6 (enc := enc) (C := Try.checked) false ⟨#[], #[.slice none 0 0], []⟩ 8 (by kernel_rfl) (by kernel_rfl) (by kernel_rfl) (by kernel_rfl)) ?_
  intro W base args ds gs before hval0 hW _ hsz0 _
  have hsz1 : (DataW.weightsEach Try.prog (Try.f4.params.toList ++ Rows.spanSlicesSpec.plain.varTypes Try.prog) (ds ++ gs)).all (· ≤ reachBytes) = true := hsz0
  have hval : ∀ (j : Nat) t v, Try.f4.params[j]? = some t → args[j]? = some v → Value.okWide Try.prog W .any base t v := hval0
  have hW' := hW
  obtain ⟨p, q, hA0, hV, rfl, hfz, hnd⟩ := hW
  have hA : DataW.TrodAll enc Try.prog W 0 (fun _ => true) true Try.f4.params.toList args.toList ds p := hA0
  obtain ⟨rfl, rfl⟩ := trodVars_none hV
  have hsz : (DataW.weightsEach Try.prog Try.f4.params.toList ds).all (· ≤ reachBytes) = true := by
    have e : Try.f4.params.toList ++ Rows.spanSlicesSpec.plain.varTypes Try.prog = Try.f4.params.toList := by kernel_rfl
    rw [e, List.append_nil] at hsz1
    exact hsz1
  rw [Try.params4] at hA hval hsz
  obtain ⟨v0, vs0, d0, ds0, p0, q0, hargs, rfl, rfl, h0, r0⟩ := trodAll_cons hA
  obtain ⟨rfl, rfl, rfl⟩ := trodAll_nil r0
  obtain rfl : args = #[v0] := by cases args; simp_all
  clear hA0 hval0 hsz0 hsz1
  obtain ⟨ao0, ln0, cp0, hvs0⟩ := okWide_slice Try.underlying22 (hval 0 22 v0 rfl rfl)
  obtain ⟨A0, c0, ls0, rfl, hlc0, hcm0, hall0, hR0, hdd0⟩ := open_flat Try.underlying22 (IntCells.two (k0 := 1) (k1 := 1) Try.underlying33 (IntCells.int Try.underlying3) (IntCells.int Try.underlying3) rfl rfl (by kernel_rfl) (by kernel_rfl) (by kernel_rfl)) (by kernel_rfl) (by decide) h0 hvs0
  have hsz0 : ls0.length * 16 ≤ 140737488351232 := by
    rcases hdd0 with ⟨rfl, rfl⟩ | ⟨el, sp, rfl, hel⟩
    · simp
    · have h := sized_slice hsz (j := 0) (t := 22) (e := 33) rfl rfl Try.underlying22
      rw [show Try.prog.bytesOf 33 = 16 from by kernel_rfl] at h
      unfold reachBytes at h
      omega
  rw [pairs_pc ls0 hall0, ← pairs_len ls0] at hR0
  rw [← pairs_len ls0] at hsz0
  have hcl0 := pairs_len ls0
  refine Calls.mono ?_ (R := fun e W' => e = .returned (.bool true) ∧ Ext W W') fun e W' ⟨he, hE⟩ => ⟨_, he, law_post (tb := 4) Try.laidOut spanSlices_spec spanSlices_readable Try.underlying4 rfl hW' hE⟩
  rw [show ls0.length = (pairs ls0).length from hcl0.symm]
  exact lawSlices_any A0 c0 (pairs ls0) W hR0 (by omega)

theorem spanSlices_holds : Rows.SpanSlicesSaid :=
  OpenClaim.holds_of_wide 4 Try.f4 rfl rfl rfl rfl rfl rfl rfl ⟨rfl, rfl, rfl, rfl, rfl⟩ rfl rfl rfl rfl rfl (by kernel_rfl) Try.func4 (by kernel_rfl)
    (of_decide_eq_true (by kernel_rfl)) (by unfold Func.isWrapper; first | (rw [if_pos (by decide +kernel)]; kernel_rfl) | (rw [if_neg (by decide +kernel)]; exact ⟨rfl, rfl⟩))
    (fun os started H enc _ => spanSlices_lifted os started H enc)

#print axioms spanSlices_holds
end Go.Proofs.Ytogfageapejmpaa
