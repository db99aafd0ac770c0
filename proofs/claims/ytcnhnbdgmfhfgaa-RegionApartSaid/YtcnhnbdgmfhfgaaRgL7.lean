/- The walk of the law RegionApart. -/
import Derived.Test.YtcnhnbdgmfhfgaaRgK
set_option linter.unusedSimpArgs false
set_option linter.unusedVariables false
namespace Go.Proofs.Ytcnhnbdgmfhfgaa
open Go.RowKit


theorem gint_lit (a b : Rct) (r : List Rct) (hr : regF interK [a] [b] = r) (p q : Nat) (w : World) (news newt : Array Value) (e f : Nat) (hnews : news.toList = rcl [a]) (hnewt : newt.toList = rcl [b]) (hb : p = w.heap.size) (hc : q = (w.alloc (.cells news e)).heap.size) :
    Calls Try.prog 14 #[.slice (some ⟨p, 0, none⟩) 1 1, .slice (some ⟨q, 0, none⟩) 1 1] ((w.alloc (.cells news e)).alloc (.cells newt f)) (RdP 4 r.length (rcl r) ((w.alloc (.cells news e)).alloc (.cells newt f))) := by
  subst hr
  exact gIntersect_any (some ⟨p, 0, none⟩) (some ⟨q, 0, none⟩) 1 1 [a] [b] _ ((Rd.litR w [a] news e 1 rfl hnews hb).ext (Ext.al1 _ (.cells newt f))) (Rd.litR (w.alloc (.cells news e)) [b] newt f 1 rfl hnewt hc) (by simp) (by simp)
set_option maxRecDepth 100000 in
set_option maxHeartbeats 8000000 in
theorem lawRApart_any (L : Option Addr) (cl : Nat) (l : List Rct) (a b : Rct) (w : World) (hl : Rd w 4 L l.length (rcl l)) (nl : l.length ≤ 9223372036854775807) :
    Calls Try.prog 6 #[.slice L l.length cl, rr a, rr b] w fun e w' => e = .returned (.bool true) ∧ Ext w w' := by
  by_cases gl : 12 < l.length
  · go_enter Try.func6, Try.ntmps6
    go_wp2_with fail
    refine Calls.mono (awakeR_any _) ?_
    rintro e w1 ⟨rfl, hb1⟩
    obtain ⟨x1, rfl⟩ := hb1.get
    clear hb1
    go_wp2
    go_ret
    exact ⟨rfl, by repeat (first | exact Ext.refl' _ | assumption | apply Ext.ex' | apply Ext.al | apply Ext.drN | apply Ext.dr)⟩
  have hb := regF_576 (l := l) (by omega)
  have G1 := Lib.hid (fun w h => gofR_any L cl l w h (by omega))
  have hS := reg_sound (k := ofK) rfl l []
  have hP := reg_apart (k := ofK) rfl l []
  generalize regF ofK l [] = R at G1 hb hS hP
  have HS : Hid (∀ i (h : i < R.length), rvB R[i] = true) := Lib.hid (fun i h => hS _ (List.getElem_mem h))
  have HP : Hid (∀ i k (hk : k < i) (h : i < R.length), rovB (R[k]'(by omega)) R[i] = false) := Lib.hid (fun i k hk h => (List.pairwise_iff_getElem.1 hP) k i (by omega) h hk)
  have hu2 := over_len a b
  have HI : Hid (∃ r, regF interK [a] [b] = r) := Lib.hid ⟨_, rfl⟩
  obtain ⟨ri, hri⟩ := HI.out
  rw [hri] at hu2
  clear HI
  have HI := Lib.hid hri
  clear hri hS hP
  have HU : Hid ((rovB a b = true ∧ 0 < ri.length) ∨ (rovB a b = false ∧ ri.length = 0)) := Lib.hid (by
    by_cases h0 : 0 < ri.length
    · exact .inl ⟨by rw [hu2]; simpa using h0, h0⟩
    · exact .inr ⟨by rw [hu2]; simpa using h0, by omega⟩)
  clear hu2
  go_enter Try.func6, Try.ntmps6
  go_wp2_with fail
  refine Calls.mono (G1.out _ (hl.ext (by repeat (first | exact Ext.refl' _ | assumption | apply Ext.ex' | apply Ext.al | apply Ext.drN | apply Ext.dr)))) ?_
  rintro e w1 ⟨A1, c1, rfl, hb1, hR⟩
  have hw : Ext ((w.alloc (.cells #[.int .i64 a.1.1, .int .i64 a.1.2, .int .i64 a.2.1, .int .i64 a.2.2] 36)).alloc (.cells #[.int .i64 b.1.1, .int .i64 b.1.2, .int .i64 b.2.1, .int .i64 b.2.2] 36)) w1 := hb1
  obtain ⟨x1, rfl⟩ := hb1.get
  clear G1 hw
  generalize hW1 : ext ((w.alloc (.cells #[.int .i64 a.1.1, .int .i64 a.1.2, .int .i64 a.2.1, .int .i64 a.2.2] 36)).alloc (.cells #[.int .i64 b.1.1, .int .i64 b.1.2, .int .i64 b.2.1, .int .i64 b.2.2] 36)) x1 = W1 at *
  have hE1 : Ext ((w.alloc (.cells #[.int .i64 a.1.1, .int .i64 a.1.2, .int .i64 a.2.1, .int .i64 a.2.2] 36)).alloc (.cells #[.int .i64 b.1.1, .int .i64 b.1.2, .int .i64 b.2.1, .int .i64 b.2.2] 36)) W1 := by rw [← hW1]; exact Ext.ex _ _
  have a0 := hE1.cell' (b := w.heap.size) (o := 0) (v := .int .i64 a.1.1) (by simp [go_sem])
  have a1 := hE1.cell' (b := w.heap.size) (o := 1) (v := .int .i64 a.1.2) (by simp [go_sem])
  have a2 := hE1.cell' (b := w.heap.size) (o := 2) (v := .int .i64 a.2.1) (by simp [go_sem])
  have a3 := hE1.cell' (b := w.heap.size) (o := 3) (v := .int .i64 a.2.2) (by simp [go_sem])
  have b0 := hE1.cell' (b := w.heap.size + 1) (o := 0) (v := .int .i64 b.1.1) (by simp [go_sem])
  have b1 := hE1.cell' (b := w.heap.size + 1) (o := 1) (v := .int .i64 b.1.2) (by simp [go_sem])
  have b2 := hE1.cell' (b := w.heap.size + 1) (o := 2) (v := .int .i64 b.2.1) (by simp [go_sem])
  have b3 := hE1.cell' (b := w.heap.size + 1) (o := 3) (v := .int .i64 b.2.2) (by simp [go_sem])
  have hz := hE1.size
  simp at hz
  have HW : Hid (Ext w W1) := Lib.hid (Ext.tr (by repeat (first | exact Ext.refl' _ | apply Ext.al)) hE1)
  clear hE1 hW1
  go_wp2
  go_loopw [8] (fun s8 wr => ∃ i : Nat, i ≤ R.length ∧ s8 = .int .i64 i ∧ Ext W1 wr) (fun s8 _ => R.length - (intOf s8).toNat)
  case atStart => exact ⟨0, by omega, rfl, Ext.refl' _⟩
  case round =>
    obtain ⟨i, hi, rfl, hext⟩ := hrel
    obtain ⟨x2, rfl⟩ := hext.get
    clear hext
    by_cases hlt : i < R.length
    · obtain ⟨g, o, rfl, hg, c0, c1', c2, c3⟩ := hR.rect hlt
      have hv := HS.out i hlt
      have HPi := Lib.hid (fun k hk => HP.out i k hk hlt)
      generalize R[i] = r at c0 c1' c2 c3 hv HPi
      go_wp2_with fail
      refine Calls.mono (sound_any r _) ?_
      rintro e w1 ⟨rfl, hb1⟩
      obtain ⟨x3, rfl⟩ := hb1.get
      clear hb1
      rw [hv]
      go_wp2
      go_loopw [9] (fun s9 wr => ∃ k : Nat, k ≤ i ∧ s9 = .int .i64 k ∧ Ext W1 wr) (fun s9 _ => i - (intOf s9).toNat)
      case atStart => exact ⟨0, by omega, rfl, by repeat (first | exact Ext.refl' _ | assumption | apply Ext.ex' | apply Ext.al | apply Ext.drN | apply Ext.dr)⟩
      case round =>
        obtain ⟨k, hk, rfl, hext⟩ := hrel
        obtain ⟨x4, rfl⟩ := hext.get
        clear hext
        by_cases hki : k < i
        · obtain ⟨g', o', he, hg', d0, d1, d2, d3⟩ := hR.rect (show k < R.length by omega)
          simp only [Option.some.injEq, Addr.mk.injEq, and_true] at he
          obtain ⟨rfl, rfl⟩ := he
          have hov := HPi.out k hki
          generalize R[k] = q at d0 d1 d2 d3 hov
          have HO := Lib.hid (fun w => roverlapsR_any q r w)
          rw [hov] at HO
          clear hov
          go_wp2_with fail
          refine wp_region_ext (by kernel_rfl) (by kernel_rfl) ?_
          repeat (first | go_big_quiet_step (((go_at_call 26; exact Calls.ext_of (HO.out _)))) | quiet_step (((go_at_call 26; exact Calls.ext_of (HO.out _)))))
          refine wpQuiet_nil ?_
          intro _ hw'
          obtain ⟨xq, hw''⟩ := hw'
          subst hw''
          go_wp2
          go_roundw
          case rel => exact ⟨k + 1, by omega, by go_num, by repeat (first | exact Ext.refl' _ | assumption | apply Ext.ex' | apply Ext.al | apply Ext.drN | apply Ext.dr)⟩
          case measure => simp [intOf]; omega
        · go_wp2
          go_roundw
          case rel => exact ⟨i + 1, by omega, by go_num, by repeat (first | exact Ext.refl' _ | assumption | apply Ext.ex' | apply Ext.al | apply Ext.drN | apply Ext.dr)⟩
          case measure => simp [intOf]; omega
    · rcases HU.out with ⟨hu, h0⟩ | ⟨hu, h0⟩
      · go_wp2_with fail
        refine Calls.mono (goverlaps_any a b _) ?_
        rintro e w1 ⟨rfl, hb1⟩
        obtain ⟨x20, rfl⟩ := hb1.get
        clear hb1
        rw [hu]
        go_wp2_with fail
        refine Calls.mono (roverlapsR_any a b _) ?_
        rintro e w1 ⟨rfl, hb1⟩
        obtain ⟨x21, rfl⟩ := hb1.get
        clear hb1
        rw [hu]
        go_wp2_with fail
        refine Calls.mono (gint_lit a b _ HI.out _ _ _ _ _ _ _ rfl rfl ?hb22 ?hc22) ?_
        case hb22 => simp [size_ext]
        case hc22 => simp [size_ext]
        rintro e w1 ⟨A22, c22, rfl, hb1, hR22⟩
        obtain ⟨x22, rfl⟩ := hb1.get
        clear hb1 hR22
        go_wp2_with fail
        refine Calls.mono (awakeR_any _) ?_
        rintro e w1 ⟨rfl, hb1⟩
        obtain ⟨x23, rfl⟩ := hb1.get
        clear hb1
        go_wp2
        go_ret
        exact ⟨rfl, HW.out.tr (by repeat (first | exact Ext.refl' _ | assumption | apply Ext.ex' | apply Ext.al | apply Ext.drN | apply Ext.dr))⟩
      · obtain rfl : ri = [] := List.eq_nil_of_length_eq_zero h0
        clear h0
        go_wp2_with fail
        refine Calls.mono (goverlaps_any a b _) ?_
        rintro e w1 ⟨rfl, hb1⟩
        obtain ⟨x20, rfl⟩ := hb1.get
        clear hb1
        rw [hu]
        go_wp2_with fail
        refine Calls.mono (roverlapsR_any a b _) ?_
        rintro e w1 ⟨rfl, hb1⟩
        obtain ⟨x21, rfl⟩ := hb1.get
        clear hb1
        rw [hu]
        go_wp2_with fail
        refine Calls.mono (gint_lit a b _ HI.out _ _ _ _ _ _ _ rfl rfl ?hb22 ?hc22) ?_
        case hb22 => simp [size_ext]
        case hc22 => simp [size_ext]
        rintro e w1 ⟨A22, c22, rfl, hb1, hR22⟩
        obtain ⟨x22, rfl⟩ := hb1.get
        clear hb1 hR22
        go_wp2_with fail
        refine Calls.mono (awakeR_any _) ?_
        rintro e w1 ⟨rfl, hb1⟩
        obtain ⟨x23, rfl⟩ := hb1.get
        clear hb1
        go_wp2
        go_ret
        exact ⟨rfl, HW.out.tr (by repeat (first | exact Ext.refl' _ | assumption | apply Ext.ex' | apply Ext.al | apply Ext.drN | apply Ext.dr))⟩

end Go.Proofs.Ytcnhnbdgmfhfgaa
