/- The counting closure of differ. -/
import Derived.Test.YtpifjhoelnacgaaGreatCfV
import Derived.Deep.RegionHeld3
set_option linter.unusedSimpArgs false
set_option linter.unusedVariables false
namespace Go.Proofs.YtpifjhoelnacgaaGreat
open Go.RowKit


def MOk (w : World) (m : Mk) : Prop := m.n = m.row.length ∧ Rd w 3 m.A m.n (vcl m.row) ∧ m.row.length ≤ 9223372036854775807
theorem MOk.ext {w w' : World} {m : Mk} (h : MOk w m) (e : Ext w w') : MOk w' m := ⟨h.1, h.2.1.ext e, h.2.2⟩
theorem cells3c (W : World) (u0 u1 u2 : Value) (t : TypeId) {b : Nat} (hb : b = W.heap.size) : ∀ (j : Nat) (u : Value), [u0, u1, u2][j]? = some u → (W.alloc (.cells #[u0, u1, u2] t)).cell? ((⟨b, 0, none⟩ : Addr).add j) = some u := by
  subst hb
  intro j u hu
  rcases j with _ | _ | _ | j
  · simp at hu; subst hu; simp [go_sem]
  · simp at hu; subst hu; simp [go_sem]
  · simp at hu; subst hu; simp [go_sem]
  · simp at hu
set_option maxRecDepth 100000 in
set_option maxHeartbeats 8000000 in
theorem count_any (V : Ve) (r : List Va) (d : Int) (B base : Nat) (L : List Mk) (v : Value) (w0 w : World) (hE0 : Ext w0 w) (hB0 : w0.heap.size ≤ B) (hBb : B < base) (hbw : base ≤ w.heap.size) (hB : Boxed w B 66 v) (hrow : w.ownsRow base 68 3 v L.length (mkl L))
    (hL : ∀ m ∈ L, MOk w0 m ∧ -1099511627776 ≤ m.k ∧ m.k ≤ 1099511627776) (hV : MOk w0 ⟨V.sch, V.rA, V.rn, V.rc, r, d⟩) (hd : -1 ≤ d ∧ d ≤ 1) (hl : L.length ≤ 1048576) :
    Calls Tryz.prog 38 #[evg V, .int .i64 d, .pointer (some ⟨B, 0, none⟩)] w fun e w' => e = .returned (.tuple #[]) ∧ ∃ v', Boxed w' B 66 v' ∧ w'.ownsRow base 68 3 v' (addM L ⟨V.sch, V.rA, V.rn, V.rc, r, d⟩).length (mkl (addM L ⟨V.sch, V.rA, V.rn, V.rc, r, d⟩)) ∧ But base B w w' := by
  obtain ⟨i0, hi, hz0, hz1, hz2⟩ := (elMk : El Tryz.prog 66 68 (.agg #[.int .i64 0, .slice none 0 0, .int .i64 0]) 3 40).hi
  obtain ⟨A, c, rfl, hcap⟩ := row_formG hrow
  obtain ⟨hVn, hVr0, hVl⟩ := hV
  simp only at hVn hVr0 hVl
  have HVN := Lib.hid hVn
  clear hVn
  have HADE : Hid ((∀ m ∈ L, m.key ≠ (V.sch, r)) → addM L ⟨V.sch, V.rA, V.rn, V.rc, r, d⟩ = L ++ [⟨V.sch, V.rA, V.rn, V.rc, r, d⟩]) := Lib.hid (fun h => addM_end h)
  have HADA : Hid (∀ (k : Nat) (hk : k < L.length), (∀ m ∈ L.take k, m.key ≠ (V.sch, r)) → L[k].key = (V.sch, r) → addM L ⟨V.sch, V.rA, V.rn, V.rc, r, d⟩ = L.set k { L[k] with k := L[k].k + d }) := Lib.hid (fun k hk h1 h2 => addM_at hk h1 h2)
  generalize addM L ⟨V.sch, V.rA, V.rn, V.rc, r, d⟩ = L2 at HADE HADA ⊢
  have hbB := hB.cell
  have hBl := hB.lt
  go_enter Tryz.func38, Tryz.ntmps38
  go_wp2
  go_loopw [8] (fun i wr => ∃ k : Nat, k ≤ L.length ∧ i = .int .i64 k ∧ Hid (∀ m ∈ L.take k, m.key ≠ (V.sch, r)) ∧ Ext (w.alloc (.cells #[.int .i64 V.id, .int .i64 V.sch, .slice V.rA V.rn V.rc, .int .i64 V.v.1, .int .i64 V.v.2, .int .i64 V.s.1, .int .i64 V.s.2, .int .i64 V.by_, .int .i64 V.un] 41)) wr) (fun i _ => L.length - (intOf i).toNat)
  case atStart => exact ⟨0, Nat.zero_le _, rfl, Lib.hid (by simp), Ext.refl' _⟩
  case round =>
    obtain ⟨k, hk, rfl, HN, hEb⟩ := hrel
    have hE : Ext w wr := Ext.tr (by repeat (first | exact Ext.refl' _ | assumption | apply Ext.ex' | apply Ext.al | apply Ext.drN | apply Ext.dr)) hEb
    have hws := hEb.size
    simp only [World.size_alloc] at hws
    have hBw := boxed_ext hB hE
    have hbB := hBw.cell
    have hfB := hBw.frozen
    have hrw := ownsRow_ext hrow hE
    have b1 : wr.cell? ⟨w.heap.size, 1, none⟩ = some (.int .i64 V.sch) := hEb.cell' (by simp [go_sem])
    have b2 : wr.cell? ⟨w.heap.size, 2, none⟩ = some (.slice V.rA V.rn V.rc) := hEb.cell' (by simp [go_sem])
    by_cases hlt : k < L.length
    · obtain ⟨b, o, hA, hbl, c0, c1, c2⟩ := (Rd.of_own hrw).mk rfl hlt
      subst hA
      have ho : o = 0 := by
        rcases hrw.2 with ⟨h1, _⟩ | ⟨g, cap, cur, h1, _⟩
        · simp at h1
        · simp only [Value.slice.injEq, Option.some.injEq, Addr.mk.injEq] at h1; exact h1.1.2.1
      subst ho
      rw [Nat.zero_add] at c0 c1 c2
      obtain ⟨hmk, hk1, hk2⟩ := hL L[k] (List.getElem_mem hlt)
      obtain ⟨hmn, hmr0, hml⟩ := hmk.ext (hE0.tr hE)
      have hmr := hmr0
      have HMN := Lib.hid hmn
      clear hmn
      have HAD := Lib.hid (HADA.out k hlt HN.out)
      have HNK : Hid (L[k].key ≠ (V.sch, r) → ∀ m ∈ L.take (k + 1), m.key ≠ (V.sch, r)) := Lib.hid (fun h m hm => by
        rw [List.take_succ_eq_append_getElem hlt, List.mem_append] at hm
        rcases hm with hm | hm
        · exact HN.out m hm
        · simp at hm; subst hm; exact h)
      have HKE : Hid (L[k].key = (V.sch, r) ↔ L[k].sch = V.sch ∧ L[k].row = r) := Lib.hid (by unfold Mk.key; simp)
      have hgb : base ≤ b := (row_block hrw (r := b) rfl).1
      have HMS := Lib.hid (mkl_set L (L[k].k + d) k hlt)
      have HQ := Lib.hid (fun (w : World) (h1 : Rd w 3 L[k].A L[k].n (vcl L[k].row)) (h2 : Rd w 3 V.rA V.rn (vcl r)) => tequal_any L[k].A V.rA L[k].n V.rn L[k].c V.rc L[k].row r w HMN.out HVN.out h1 h2 hml hVl)
      generalize L[k] = m at c0 c1 c2 hk1 hk2 HMN hmr hml HAD HNK HKE HQ HMS
      have hVr := hVr0.ext (hE0.tr hE)
      by_cases h1 : m.sch = V.sch
      · have hq1 : (m.sch == V.sch) = true := by simp [h1]
        by_cases h2 : m.row = r
        · rw [decide_eq_true h2] at HQ
          have HF := Lib.hid (HAD.out (HKE.out.2 ⟨h1, h2⟩))
          clear HAD HNK HKE h2
          go_wp2
          refine wp_region_ext (by kernel_rfl) (by kernel_rfl) ?_
          repeat (first | go_big_quiet_step ((go_at_call 39; exact Calls.ext_of (HQ.out _ (hmr.ext (by repeat (first | exact Ext.refl' _ | assumption | apply Ext.ex' | apply Ext.al | apply Ext.drN | apply Ext.dr))) (hVr.ext (by repeat (first | exact Ext.refl' _ | assumption | apply Ext.ex' | apply Ext.al | apply Ext.drN | apply Ext.dr)))))) | quiet_step ((go_at_call 39; exact Calls.ext_of (HQ.out _ (hmr.ext (by repeat (first | exact Ext.refl' _ | assumption | apply Ext.ex' | apply Ext.al | apply Ext.drN | apply Ext.dr))) (hVr.ext (by repeat (first | exact Ext.refl' _ | assumption | apply Ext.ex' | apply Ext.al | apply Ext.drN | apply Ext.dr)))))))
          refine wpQuiet_nil ?_
          intro _ hw'
          obtain ⟨xq, hw''⟩ := hw'
          subst hw''
          obtain ⟨W4, hW4⟩ : ∃ W4, ext wr xq = W4 := ⟨_, rfl⟩
          have hE4 : Ext wr W4 := by rw [← hW4]; exact Ext.ex _ _
          have hW := boxed_ext hBw hE4
          have hWb := hW.cell
          have hWl := hW.lt
          have hWr := ownsRow_ext hrw hE4
          have c2 := hE4.cell' c2
          have hbl4 := Nat.lt_of_lt_of_le hbl hE4.size
          have fz := hWr.frozenAt (k * 3 + 2)
          obtain ⟨s3, s4⟩ := hWr.stored (k * 3 + 2) (.int .i64 (m.k + d))
          have hbb : b ≠ B := by omega
          have hnr : some B ≠ (Value.slice (some ⟨b, 0, none⟩) L.length c).ownBlock := fun e => hbb (by simpa [Value.ownBlock] using e.symm)
          have hW5 : Boxed (W4.setCell ⟨b, k * 3 + 2, none⟩ (.int .i64 (m.k + d))) B 66 (.slice (some ⟨b, 0, none⟩) L.length c) := hW.kept s4 (by simpa using hbb.symm)
          have HR := Lib.hid s3
          have HG := Lib.hid s4
          have HW5 := Lib.hid hW5
          have HE4 := Lib.hid hE4
          rw [hW4]
          clear hW4 s3 s4 hW5 hrw hBw hE4 hWr hW
          go_wp2
          refine bodyPost_ret (results_none rfl _ _ _) rfl ?_
          refine ⟨rfl, _, HW5.out, ?_, ?_⟩
          · rw [HF.out, List.length_set, ← HMS.out]; exact HR.out
          · exact ((But.ofExt (hE.tr HE4.out) hbw)).trans (But.grown HG.out (fun r e => by cases e; exact hgb) (by have := (hE.tr HE4.out).size; omega))
        · rw [decide_eq_false h2] at HQ
          have HN2 := Lib.hid (HNK.out fun e => h2 (HKE.out.1 e).2)
          clear HAD HNK HKE h2
          go_wp2
          refine wp_region_ext (by kernel_rfl) (by kernel_rfl) ?_
          repeat (first | go_big_quiet_step ((go_at_call 39; exact Calls.ext_of (HQ.out _ (hmr.ext (by repeat (first | exact Ext.refl' _ | assumption | apply Ext.ex' | apply Ext.al | apply Ext.drN | apply Ext.dr))) (hVr.ext (by repeat (first | exact Ext.refl' _ | assumption | apply Ext.ex' | apply Ext.al | apply Ext.drN | apply Ext.dr)))))) | quiet_step ((go_at_call 39; exact Calls.ext_of (HQ.out _ (hmr.ext (by repeat (first | exact Ext.refl' _ | assumption | apply Ext.ex' | apply Ext.al | apply Ext.drN | apply Ext.dr))) (hVr.ext (by repeat (first | exact Ext.refl' _ | assumption | apply Ext.ex' | apply Ext.al | apply Ext.drN | apply Ext.dr)))))))
          refine wpQuiet_nil ?_
          intro _ hw'
          obtain ⟨xq, hw''⟩ := hw'
          subst hw''
          go_wp2
          go_roundw
          case rel => exact ⟨k + 1, by omega, by go_num, HN2, hEb.tr (by repeat (first | exact Ext.refl' _ | assumption | apply Ext.ex' | apply Ext.al | apply Ext.drN | apply Ext.dr))⟩
          case measure => simp [intOf]; omega
      · have hq1 : (m.sch == V.sch) = false := by simp [h1]
        have HN2 := Lib.hid (HNK.out fun e => h1 (HKE.out.1 e).1)
        clear HAD HNK HKE
        go_wp2
        refine wp_region_ext (by kernel_rfl) (by kernel_rfl) ?_
        repeat (first | go_big_quiet_step (fail) | quiet_step (fail))
        refine wpQuiet_nil ?_
        intro _ hw'
        obtain ⟨xq, hw''⟩ := hw'
        subst hw''
        go_wp2
        go_roundw
        case rel => exact ⟨k + 1, by omega, by go_num, HN2, hEb.tr (by repeat (first | exact Ext.refl' _ | assumption | apply Ext.ex' | apply Ext.al | apply Ext.drN | apply Ext.dr))⟩
        case measure => simp [intOf]; omega
    · have hkl : k = L.length := by omega
      have HE := Lib.hid (HADE.out (by have := HN.out; rw [hkl, List.take_length] at this; exact this))
      go_wp2_with (at_builtin; refine wpList_append_own _ rfl _ _ 66 rfl base 68 i0 (.agg #[.int .i64 0, .slice none 0 0, .int .i64 0]) 3 40 Tryz.underlying66 hi hz0 hz1 hz2 rfl (by decide) _ _ _ rfl (World.ownsRow.alloc hrw _) ⟨wr.heap.size, 0, none⟩ 1 1 [.int .i64 V.sch, .slice V.rA V.rn V.rc, .int .i64 d] rfl rfl (cells3c _ _ _ _ _ rfl) (by intro u hu; simp at hu; rcases hu with rfl | rfl | rfl <;> rfl) (by unfold maxLen; omega) (by omega) (by simp; omega) ?_; intro v' w1 hown' hgrow _; obtain ⟨g', cap', rfl⟩ := ownsRow_succ hown'; obtain ⟨hv1, hv3, hr3, hk3, hb3, hno3⟩ := boxed_app hBw (by decide) hrw (by omega) hown' hgrow; have hc1 := hv1.cell; have hf1 := hv1.frozen; have hl1 := hv1.lt)
      go_end0
      refine ⟨rfl, _, hv3, ?_, (But.ofExt hE hbw).trans hb3⟩
      rw [HE.out, List.length_append, List.length_singleton, mkl_append, mkl_one]
      exact hr3

end Go.Proofs.YtpifjhoelnacgaaGreat
