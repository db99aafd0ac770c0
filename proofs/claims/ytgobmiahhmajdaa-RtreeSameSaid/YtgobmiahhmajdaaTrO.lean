/- The reference of packed trees: nodes above nodes. -/
import Derived.Test.YtgobmiahhmajdaaTrN
set_option linter.unusedSimpArgs false
set_option linter.unusedVariables false
namespace Go.Proofs.Ytgobmiahhmajdaa
open Go.RowKit


set_option maxRecDepth 100000 in
set_option maxHeartbeats 16000000 in
theorem rabove_any (b o n c wd : Nat) (hwd : 1 ≤ wd) (hw2 : wd ≤ 64) (hn0 : 1 ≤ n) (hn : n ≤ 1048576) (hc : n ≤ c) (hc2 : c ≤ 9223372036854775807) (w : World) (T0 : List Tr) (css0 : List (List Value)) (hR : Rd w 6 (some ⟨b, o, none⟩) n css0.flatten) (hL : n = T0.length) (hT : RMs w T0 css0) :
    Calls Try.prog 36 #[.slice (some ⟨b, o, none⟩) n c, .int .i64 wd] w (LevR (aboveF wd T0) (fun X => Rd X 6 (some ⟨b, o, none⟩) n css0.flatten ∧ RMs X T0 css0) w) := by
  have HL := Lib.hid hL
  clear hL
  go_enter Try.func36, Try.ntmps36
  go_wp2
  go_loopw [5, 6] (fun out i wr => ∃ (j : Nat) (x : Add) (css : List (List Value)), j ≤ nch wd n ∧ i = .int .i64 (j * wd : Nat) ∧ css.length = j ∧ Hid (css = (List.range j).map fun j => ndN b o wd n c T0 (j * wd)) ∧ wr = ext w x ∧ Own w x 34 6 out css.length css.flatten) (fun _ i _ => nch wd n * wd - (intOf i).toNat)
  case atStart =>
    obtain ⟨x, hx⟩ := (Ext.refl' w).get
    exact ⟨0, x, [], Nat.zero_le _, by simp, rfl, Lib.hid rfl, hx, own_nil _ _ _ _⟩
  case round =>
    obtain ⟨j, x, css, hj, rfl, hcl, HCS, rfl, hown⟩ := hrel
    have hjw : j * 1 ≤ j * wd := Nat.mul_le_mul_left _ hwd
    by_cases hlt : j < nch wd n
    · have hlt' : j * wd < n := (lt_nch hwd).1 hlt
      have hs1 : (j + 1) * wd = j * wd + wd := by rw [Nat.add_mul, Nat.one_mul]
      have hjm2 : (j + 1) * wd ≤ nch wd n * wd := Nat.mul_le_mul_right _ (by omega)
      have HMS : Hid (j * wd + wd ≤ nch wd n * wd) := Lib.hid (by omega)
      have HS1 := Lib.hid hs1
      have hcl2 : css.length ≤ 1048576 := by omega
      clear hs1 hjm2
      generalize hi : j * wd = i at hlt' HS1 HMS
      have HI := Lib.hid hi
      clear hi hjw
      have hR' := hR
      rw [HL.out] at hR'
      obtain ⟨b', o', he, hb, Ab, cb, A', c', css', d0, d1, d2, d3, _, _, _, _, _, _⟩ := RM.arg hR' hT (k := i) (by have := HL.out; omega)
      clear hR'
      simp only [Option.some.injEq, Addr.mk.injEq, and_true] at he
      obtain ⟨rfl, rfl⟩ := he
      have hTC := Lib.hid ((hT.ext (Ext.ex w x)).part i wd)
      have hC := Lib.hid ((hR.ext (Ext.ex w x)).nodes hT.six i wd (by omega))
      rw [(RMs.get hTC.out).1] at hC
      have hCl := chunk_len T0 i wd
      have hcz : ∀ h : 0 < ((T0.drop i).take wd).length, ((T0.drop i).take wd)[0].r = (T0[i]'(by have := HL.out; omega)).r := fun h => by simp
      generalize hcc : (T0[i]'(by have := HL.out; omega)).r = c0 at d0 d1 d2 d3 hcz
      clear hcc
      generalize hCC : (T0.drop i).take wd = C at hC hCl hcz hTC
      have HCC := Lib.hid hCC
      clear hCC
      generalize (css0.drop i).take wd = cssC at hC hTC
      have hC0 := Lib.hid (show 0 < C.length by have := HL.out; omega)
      have HC0 : Hid ((C[0]'hC0.out).r = c0) := Lib.hid (hcz hC0.out)
      have HCl := Lib.hid hCl
      clear hCl hcz
      rcases (show i + wd ≤ n ∨ n < i + wd from by omega) with hm | hm
      · have HEC : Hid (wd = C.length) := Lib.hid (by have := HCl.out; have := HL.out; omega)
        have e1 : IntKind.i64.wrap ((i : Int) + wd) = (i : Int) + wd := by rw [IntKind.wrap_i64]; omega
        have e2 : 0 ≤ (i : Int) + wd := by omega
        have e3 : ((i : Int) + wd).toNat = i + wd := by omega
        have e4 : min ((i : Int) + wd) (n : Int) = (i : Int) + wd := by omega
        have e5 : (i : Int) + wd ≤ c := by omega
        have e6 : ¬ c = i := by omega
        go_wp2
        refine wp_region_held_drew (S := fun _ => True) (by kernel_rfl) trivial (fun hHeld => ?_)
        refine wpAnyH_take (i := 0) (oi := ?oi1) (v := ?v1) ?hi1 (by kernel_rfl) (by kernel_rfl) (by kernel_rfl) ?hQ1 ?hy1 (by assumption) ?_
        case hi1 => (simp only [List.getElem?_toArray, List.getElem?_cons_succ, List.getElem?_cons_zero]; rfl)
        case hQ1 => exact fun _ _ _ h => h
        case hy1 => (refine Or.inl ⟨by rfl, ?_⟩; intro wq hSw; (try dsimp only at hSw); go_simp; (try with_reducible rfl))
        (try simp only [Act.put, List.setIfInBounds_toArray, List.set_cons_zero, List.set_cons_succ])
        refine wpAnyH_take (i := 1) (oi := ?oi2) (v := ?v2) ?hi2 (by kernel_rfl) (by kernel_rfl) (by kernel_rfl) ?hQ2 ?hy2 (by assumption) ?_
        case hi2 => (simp only [List.getElem?_toArray, List.getElem?_cons_succ, List.getElem?_cons_zero]; rfl)
        case hQ2 => exact fun _ _ _ h => h
        case hy2 => (refine Or.inl ⟨by rfl, ?_⟩; intro wq hSw; (try dsimp only at hSw); go_simp; (try with_reducible rfl))
        (try simp only [Act.put, List.setIfInBounds_toArray, List.set_cons_zero, List.set_cons_succ])
        refine wpAnyH_take (i := 2) (oi := ?oi3) (v := ?v3) ?hi3 (by kernel_rfl) (by kernel_rfl) (by kernel_rfl) ?hQ3 ?hy3 (by assumption) ?_
        case hi3 => (simp only [List.getElem?_toArray, List.getElem?_cons_succ, List.getElem?_cons_zero]; rfl)
        case hQ3 => exact fun _ _ _ h => h
        case hy3 => (refine Or.inl ⟨by rfl, ?_⟩; intro wq hSw; (try dsimp only at hSw); go_simp; (try with_reducible rfl))
        (try simp only [Act.put, List.setIfInBounds_toArray, List.set_cons_zero, List.set_cons_succ])
        refine wpAnyH_take (i := 3) (oi := ?oi4) (v := ?v4) ?hi4 (by kernel_rfl) (by kernel_rfl) (by kernel_rfl) ?hQ4 ?hy4 (by assumption) ?_
        case hi4 => (simp only [List.getElem?_toArray, List.getElem?_cons_succ, List.getElem?_cons_zero]; rfl)
        case hQ4 => exact fun _ _ _ h => h
        case hy4 => (refine Or.inl ⟨by rfl, ?_⟩; intro wq hSw; (try dsimp only at hSw); go_simp; (try with_reducible rfl))
        (try simp only [Act.put, List.setIfInBounds_toArray, List.set_cons_zero, List.set_cons_succ])
        refine wpAnyH_take (i := 5) (oi := ?oi5) (v := ?v5) ?hi5 (by kernel_rfl) (by kernel_rfl) (by kernel_rfl) ?hQ5 ?hy5 (by assumption) ?_
        case hi5 => (simp only [List.getElem?_toArray, List.getElem?_cons_succ, List.getElem?_cons_zero]; rfl)
        case hQ5 => exact fun _ _ _ h => h
        case hy5 => (refine Or.inl ⟨by rfl, ?_⟩; intro wq hSw; (try dsimp only at hSw); go_simp; (try with_reducible rfl))
        (try simp only [Act.put, List.setIfInBounds_toArray, List.set_cons_zero, List.set_cons_succ])
        refine wpAnyH_take (i := 6) (oi := ?oi6) (v := ?v6) ?hi6 (by kernel_rfl) (by kernel_rfl) (by kernel_rfl) ?hQ6 ?hy6 (by assumption) ?_
        case hi6 => (simp only [List.getElem?_toArray, List.getElem?_cons_succ, List.getElem?_cons_zero]; rfl)
        case hQ6 => exact fun _ _ _ h => h
        case hy6 => (refine Or.inl ⟨by rfl, ?_⟩; intro wq hSw; (try dsimp only at hSw); go_simp; (try with_reducible rfl))
        (try simp only [Act.put, List.setIfInBounds_toArray, List.set_cons_zero, List.set_cons_succ])
        refine wpAnyH_take (i := 7) (oi := ?oi7) (v := ?v7) ?hi7 (by kernel_rfl) (by kernel_rfl) (by kernel_rfl) ?hQ7 ?hy7 (by assumption) ?_
        case hi7 => (simp only [List.getElem?_toArray, List.getElem?_cons_succ, List.getElem?_cons_zero]; rfl)
        case hQ7 => exact fun _ _ _ h => h
        case hy7 => (refine Or.inl ⟨by rfl, ?_⟩; intro wq hSw; (try dsimp only at hSw); go_simp; (try with_reducible rfl))
        (try simp only [Act.put, List.setIfInBounds_toArray, List.set_cons_zero, List.set_cons_succ])
        refine wpAnyH_take (i := 8) (oi := ?oi8) (v := ?v8) ?hi8 (by kernel_rfl) (by kernel_rfl) (by kernel_rfl) ?hQ8 ?hy8 (by assumption) ?_
        case hi8 => (simp only [List.getElem?_toArray, List.getElem?_cons_succ, List.getElem?_cons_zero]; rfl)
        case hQ8 => exact fun _ _ _ h => h
        case hy8 => (refine Or.inl ⟨by rfl, ?_⟩; intro wq hSw; (try dsimp only at hSw); go_simp; (try with_reducible rfl))
        (try simp only [Act.put, List.setIfInBounds_toArray, List.set_cons_zero, List.set_cons_succ])
        refine wpAnyH_take (i := 9) (oi := ?oi9) (v := ?v9) ?hi9 (by kernel_rfl) (by kernel_rfl) (by kernel_rfl) ?hQ9 ?hy9 (by assumption) ?_
        case hi9 => (simp only [List.getElem?_toArray, List.getElem?_cons_succ, List.getElem?_cons_zero]; rfl)
        case hQ9 => exact fun _ _ _ h => h
        case hy9 => (refine Or.inl ⟨by rfl, ?_⟩; intro wq hSw; (try dsimp only at hSw); go_simp; (try with_reducible rfl))
        (try simp only [Act.put, List.setIfInBounds_toArray, List.set_cons_zero, List.set_cons_succ])
        refine wpAnyH_take (i := 10) (oi := ?oi10) (v := ?v10) ?hi10 (by kernel_rfl) (by kernel_rfl) (by kernel_rfl) ?hQ10 ?hy10 (by assumption) ?_
        case hi10 => (simp only [List.getElem?_toArray, List.getElem?_cons_succ, List.getElem?_cons_zero]; rfl)
        case hQ10 => exact fun _ _ _ h => h
        case hy10 => (refine Or.inl ⟨by rfl, ?_⟩; intro wq hSw; (try dsimp only at hSw); go_simp; (try with_reducible rfl))
        (try simp only [Act.put, List.setIfInBounds_toArray, List.set_cons_zero, List.set_cons_succ])
        refine wpAnyH_take (i := 11) (oi := ?oi11) (v := ?v11) ?hi11 (by kernel_rfl) (by kernel_rfl) (by kernel_rfl) ?hQ11 ?hy11 (by assumption) ?_
        case hi11 => (simp only [List.getElem?_toArray, List.getElem?_cons_succ, List.getElem?_cons_zero]; rfl)
        case hQ11 => exact fun _ _ _ h => h
        case hy11 => (refine Or.inl ⟨by rfl, ?_⟩; intro wq hSw; (try dsimp only at hSw); go_simp; (try with_reducible rfl))
        (try simp only [Act.put, List.setIfInBounds_toArray, List.set_cons_zero, List.set_cons_succ])
        refine wpAnyH_take (i := 12) (oi := ?oi12) (v := ?v12) ?hi12 (by kernel_rfl) (by kernel_rfl) (by kernel_rfl) ?hQ12 ?hy12 (by assumption) ?_
        case hi12 => (simp only [List.getElem?_toArray, List.getElem?_cons_succ, List.getElem?_cons_zero]; rfl)
        case hQ12 => exact fun _ _ _ h => h
        case hy12 => (refine Or.inl ⟨by rfl, ?_⟩; intro wq hSw; (try dsimp only at hSw); go_simp; (try with_reducible rfl))
        (try simp only [Act.put, List.setIfInBounds_toArray, List.set_cons_zero, List.set_cons_succ])
        refine wpAnyH_take (i := 13) (oi := ?oi13) (v := ?v13) ?hi13 (by kernel_rfl) (by kernel_rfl) (by kernel_rfl) ?hQ13 ?hy13 (by assumption) ?_
        case hi13 => (simp only [List.getElem?_toArray, List.getElem?_cons_succ, List.getElem?_cons_zero]; rfl)
        case hQ13 => exact fun _ _ _ h => h
        case hy13 => (refine Or.inl ⟨by rfl, ?_⟩; intro wq hSw; (try dsimp only at hSw); go_simp; (try with_reducible rfl))
        (try simp only [Act.put, List.setIfInBounds_toArray, List.set_cons_zero, List.set_cons_succ])
        refine wpAnyH_ready (rs := [4, 15]) (by kernel_rfl) (by simp) ?_
        refine AllReadyH.cons (o := ?oi14) ?hi14 ?ti14 ?ri14
        case hi14 => (simp only [List.getElem?_toArray, List.getElem?_cons_succ, List.getElem?_cons_zero]; rfl)
        case ti14 =>
          intro KQ hKQ
          go_simp
          (try simp [go_sem, ↓IntWalk.iteOmega, *])
          refine hKQ.out _ _ (by trivial) (fun hHeld2 => ?_)
          clear hHeld hKQ KQ; have hHeld := hHeld2; clear hHeld2
          (try simp only [Act.put, List.setIfInBounds_toArray, List.set_cons_zero, List.set_cons_succ])
          refine wpAnyH_take (i := 14) (oi := ?oi15) (v := ?v15) ?hi15 (by kernel_rfl) (by kernel_rfl) (by kernel_rfl) ?hQ15 ?hy15 (by assumption) ?_
          case hi15 => (simp only [List.getElem?_toArray, List.getElem?_cons_succ, List.getElem?_cons_zero]; rfl)
          case hQ15 => exact fun _ _ _ h => h
          case hy15 => (refine Or.inl ⟨by rfl, ?_⟩; intro wq hSw; (try dsimp only at hSw); go_simp; (try with_reducible rfl))
          (try simp only [Act.put, List.setIfInBounds_toArray, List.set_cons_zero, List.set_cons_succ])
          refine wpAnyH_ready (rs := [15]) (by kernel_rfl) (by simp) ?_
          refine AllReadyH.cons (o := ?oi16) ?hi16 ?ti16 AllReadyH.nil
          case hi16 => (simp only [List.getElem?_toArray, List.getElem?_cons_succ, List.getElem?_cons_zero]; rfl)
          case ti16 =>
            intro KQ hKQ
            go_simp
            refine hKQ.out _ _ (by trivial) (fun hHeld2 => ?_)
            clear hHeld hKQ KQ; have hHeld := hHeld2; clear hHeld2
            (try simp only [Act.put, List.setIfInBounds_toArray, List.set_cons_zero, List.set_cons_succ])
            refine wpAnyH_ready (rs := [16]) (by kernel_rfl) (by simp) ?_
            refine AllReadyH.cons (o := ?oi17) ?hi17 ?ti17 AllReadyH.nil
            case hi17 => (simp only [List.getElem?_toArray, List.getElem?_cons_succ, List.getElem?_cons_zero]; rfl)
            case ti17 =>
              intro KQ hKQ
              go_simp
              (try simp [go_sem, ↓IntWalk.iteOmega, *])
              refine hKQ.out _ _ (by trivial) (fun hHeld2 => ?_)
              clear hHeld hKQ KQ; have hHeld := hHeld2; clear hHeld2
              (try simp only [Act.put, List.setIfInBounds_toArray, List.set_cons_zero, List.set_cons_succ])
              refine wpAnyH_done (by kernel_rfl) ?_ _
              go_wp2
              go_loopw [35] (fun q wr => ∃ k : Nat, k ≤ wd ∧ q = .int .i64 k ∧ Ext ((ext w x).alloc (.cells #[.int .i64 (rN c0 C k).1.1, .int .i64 (rN c0 C k).1.2, .int .i64 (rN c0 C k).2.1, .int .i64 (rN c0 C k).2.2, .slice none 0 0, .slice (some ⟨b, o + i * 6, none⟩) wd (c - i)] 34)) wr) (fun q _ => wd - (intOf q).toNat)
              case atStart => exact ⟨0, Nat.zero_le _, rfl, Ext.dr (Ext.refl' _)⟩
              case round =>
                obtain ⟨k, hk, rfl, hE⟩ := hrel
                obtain ⟨x2, rfl⟩ := hE.get
                clear hE
                by_cases hlt2 : k < wd
                · have hltC : k < C.length := by have := HEC.out; omega
                  obtain ⟨b', o', he, _, Ab, cb, A', c', css', f0, f1, f2, f3, f4, f5, _, _, _, _⟩ := RM.arg hC.out hTC.out hltC
                  simp only [Option.some.injEq, Addr.mk.injEq, and_true] at he
                  obtain ⟨rfl, rfl⟩ := he
                  have HJ := Lib.hid (rN_succ c0 C hltC)
                  generalize C[k].bs.length = nb at f4
                  generalize C[k].ks.length = nk at f5
                  generalize C[k].r = ck at f0 f1 f2 f3 HJ
                  generalize rN c0 C k = rk at HJ ⊢
                  have HJN := Lib.hid (fun w => around_any rk ck w)
                  go_wp2_with (go_at_call 37; refine (HJN.out _).mono ?_; rintro e w1 ⟨rfl, hb1⟩; obtain ⟨x1, rfl⟩ := hb1.get; clear hb1)
                  go_roundw
                  case rel => exact ⟨k + 1, by omega, by go_num, by rw [HJ.out]; exact (by repeat (first | exact Ext.refl' _ | assumption | apply Ext.ex' | apply Ext.al | apply Ext.drN | apply Ext.dr))⟩
                  case measure => simp [intOf]; omega
                · have HE := Lib.hid (rN_end hC0.out (show k = C.length by have := HEC.out; omega))
                  rw [HC0.out] at HE
                  generalize rN c0 C k = rk at HE ⊢
                  have HNW : Hid ((nodc rk (.slice none 0 0) (.slice (some ⟨b, o + i * 6, none⟩) wd (c - i))) = ndN b o wd n c T0 i) := Lib.hid (by unfold ndN; rw [HCC.out, ← HE.out, show min wd (n - i) = wd from by omega])
                  go_wp2_with (at_builtin; refine wpList_app _ rfl (.tmp 46) (.tmp 48) rfl elNodeR w (by repeat (first | exact Ext.refl' _ | assumption | apply Ext.ex' | apply Ext.al | apply Ext.drN | apply Ext.dr)) _ _ _ rfl (by repeat (first | exact hown | apply World.ownsRow.alloc | apply own_ext)) _ 1 1 (nodc rk (.slice none 0 0) (.slice (some ⟨b, o + i * 6, none⟩) wd (c - i))) rfl (Rd.lit _ #[.int .i64 rk.1.1, .int .i64 rk.1.2, .int .i64 rk.2.1, .int .i64 rk.2.2, .slice none 0 0, .slice (some ⟨b, o + i * 6, none⟩) wd (c - i)] _ 1 6 rfl (by simp [size_ext])) (oneCell_nodc _ _ _ rfl rfl) (by unfold maxLen; omega) (by omega) ?_; intro v' x' hown' _)
                  go_roundw
                  case rel => exact ⟨j + 1, x', css ++ [ndN b o wd n c T0 i], by omega, by rw [HS1.out]; go_num, by simp [hcl], Lib.hid (by rw [HCS.out, List.range_succ, List.map_append]; simp [HI.out]), rfl, by rw [flat_snoc, ← HNW.out]; simpa using hown'⟩
                  case measure => (have hms := HMS.out; generalize nch wd n * wd = M at hms ⊢; simp [intOf]; omega)
        case ri14 =>
          refine AllReadyH.cons (o := ?oi18) ?hi18 ?ti18 AllReadyH.nil
          case hi18 => (simp only [List.getElem?_toArray, List.getElem?_cons_succ, List.getElem?_cons_zero]; rfl)
          case ti18 =>
            intro KQ hKQ
            go_simp
            refine hKQ.out _ _ (by trivial) (fun hHeld2 => ?_)
            clear hHeld hKQ KQ; have hHeld := hHeld2; clear hHeld2
            (try simp only [Act.put, List.setIfInBounds_toArray, List.set_cons_zero, List.set_cons_succ])
            refine wpAnyH_ready (rs := [4]) (by kernel_rfl) (by simp) ?_
            refine AllReadyH.cons (o := ?oi19) ?hi19 ?ti19 AllReadyH.nil
            case hi19 => (simp only [List.getElem?_toArray, List.getElem?_cons_succ, List.getElem?_cons_zero]; rfl)
            case ti19 =>
              intro KQ hKQ
              go_simp
              (try simp [go_sem, ↓IntWalk.iteOmega, *])
              refine hKQ.out _ _ (by trivial) (fun hHeld2 => ?_)
              clear hHeld hKQ KQ; have hHeld := hHeld2; clear hHeld2
              (try simp only [Act.put, List.setIfInBounds_toArray, List.set_cons_zero, List.set_cons_succ])
              refine wpAnyH_take (i := 14) (oi := ?oi20) (v := ?v20) ?hi20 (by kernel_rfl) (by kernel_rfl) (by kernel_rfl) ?hQ20 ?hy20 (by assumption) ?_
              case hi20 => (simp only [List.getElem?_toArray, List.getElem?_cons_succ, List.getElem?_cons_zero]; rfl)
              case hQ20 => exact fun _ _ _ h => h
              case hy20 => (refine Or.inl ⟨by rfl, ?_⟩; intro wq hSw; (try dsimp only at hSw); go_simp; (try with_reducible rfl))
              (try simp only [Act.put, List.setIfInBounds_toArray, List.set_cons_zero, List.set_cons_succ])
              refine wpAnyH_ready (rs := [16]) (by kernel_rfl) (by simp) ?_
              refine AllReadyH.cons (o := ?oi21) ?hi21 ?ti21 AllReadyH.nil
              case hi21 => (simp only [List.getElem?_toArray, List.getElem?_cons_succ, List.getElem?_cons_zero]; rfl)
              case ti21 =>
                intro KQ hKQ
                go_simp
                (try simp [go_sem, ↓IntWalk.iteOmega, *])
                refine hKQ.out _ _ (by trivial) (fun hHeld2 => ?_)
                clear hHeld hKQ KQ; have hHeld := hHeld2; clear hHeld2
                (try simp only [Act.put, List.setIfInBounds_toArray, List.set_cons_zero, List.set_cons_succ])
                refine wpAnyH_done (by kernel_rfl) ?_ _
                go_wp2
                go_loopw [35] (fun q wr => ∃ k : Nat, k ≤ wd ∧ q = .int .i64 k ∧ Ext ((ext w x).alloc (.cells #[.int .i64 (rN c0 C k).1.1, .int .i64 (rN c0 C k).1.2, .int .i64 (rN c0 C k).2.1, .int .i64 (rN c0 C k).2.2, .slice none 0 0, .slice (some ⟨b, o + i * 6, none⟩) wd (c - i)] 34)) wr) (fun q _ => wd - (intOf q).toNat)
                case atStart => exact ⟨0, Nat.zero_le _, rfl, Ext.dr (Ext.refl' _)⟩
                case round =>
                  obtain ⟨k, hk, rfl, hE⟩ := hrel
                  obtain ⟨x2, rfl⟩ := hE.get
                  clear hE
                  by_cases hlt2 : k < wd
                  · have hltC : k < C.length := by have := HEC.out; omega
                    obtain ⟨b', o', he, _, Ab, cb, A', c', css', f0, f1, f2, f3, f4, f5, _, _, _, _⟩ := RM.arg hC.out hTC.out hltC
                    simp only [Option.some.injEq, Addr.mk.injEq, and_true] at he
                    obtain ⟨rfl, rfl⟩ := he
                    have HJ := Lib.hid (rN_succ c0 C hltC)
                    generalize C[k].bs.length = nb at f4
                    generalize C[k].ks.length = nk at f5
                    generalize C[k].r = ck at f0 f1 f2 f3 HJ
                    generalize rN c0 C k = rk at HJ ⊢
                    have HJN := Lib.hid (fun w => around_any rk ck w)
                    go_wp2_with (go_at_call 37; refine (HJN.out _).mono ?_; rintro e w1 ⟨rfl, hb1⟩; obtain ⟨x1, rfl⟩ := hb1.get; clear hb1)
                    go_roundw
                    case rel => exact ⟨k + 1, by omega, by go_num, by rw [HJ.out]; exact (by repeat (first | exact Ext.refl' _ | assumption | apply Ext.ex' | apply Ext.al | apply Ext.drN | apply Ext.dr))⟩
                    case measure => simp [intOf]; omega
                  · have HE := Lib.hid (rN_end hC0.out (show k = C.length by have := HEC.out; omega))
                    rw [HC0.out] at HE
                    generalize rN c0 C k = rk at HE ⊢
                    have HNW : Hid ((nodc rk (.slice none 0 0) (.slice (some ⟨b, o + i * 6, none⟩) wd (c - i))) = ndN b o wd n c T0 i) := Lib.hid (by unfold ndN; rw [HCC.out, ← HE.out, show min wd (n - i) = wd from by omega])
                    go_wp2_with (at_builtin; refine wpList_app _ rfl (.tmp 46) (.tmp 48) rfl elNodeR w (by repeat (first | exact Ext.refl' _ | assumption | apply Ext.ex' | apply Ext.al | apply Ext.drN | apply Ext.dr)) _ _ _ rfl (by repeat (first | exact hown | apply World.ownsRow.alloc | apply own_ext)) _ 1 1 (nodc rk (.slice none 0 0) (.slice (some ⟨b, o + i * 6, none⟩) wd (c - i))) rfl (Rd.lit _ #[.int .i64 rk.1.1, .int .i64 rk.1.2, .int .i64 rk.2.1, .int .i64 rk.2.2, .slice none 0 0, .slice (some ⟨b, o + i * 6, none⟩) wd (c - i)] _ 1 6 rfl (by simp [size_ext])) (oneCell_nodc _ _ _ rfl rfl) (by unfold maxLen; omega) (by omega) ?_; intro v' x' hown' _)
                    go_roundw
                    case rel => exact ⟨j + 1, x', css ++ [ndN b o wd n c T0 i], by omega, by rw [HS1.out]; go_num, by simp [hcl], Lib.hid (by rw [HCS.out, List.range_succ, List.map_append]; simp [HI.out]), rfl, by rw [flat_snoc, ← HNW.out]; simpa using hown'⟩
                    case measure => (have hms := HMS.out; generalize nch wd n * wd = M at hms ⊢; simp [intOf]; omega)
      · have HEC : Hid ((n - i) = C.length) := Lib.hid (by have := HCl.out; have := HL.out; omega)
        have e1 : IntKind.i64.wrap ((i : Int) + wd) = (i : Int) + wd := by rw [IntKind.wrap_i64]; omega
        have e2 : 0 ≤ (i : Int) + wd := by omega
        have e4 : min ((i : Int) + wd) (n : Int) = (n : Int) := by omega
        have e5 : (n : Int) ≤ c := by omega
        have e6 : ¬ c = i := by omega
        have e7 : i ≤ n := by omega
        go_wp2
        refine wp_region_held_drew (S := fun _ => True) (by kernel_rfl) trivial (fun hHeld => ?_)
        refine wpAnyH_take (i := 0) (oi := ?oi301) (v := ?v301) ?hi301 (by kernel_rfl) (by kernel_rfl) (by kernel_rfl) ?hQ301 ?hy301 (by assumption) ?_
        case hi301 => (simp only [List.getElem?_toArray, List.getElem?_cons_succ, List.getElem?_cons_zero]; rfl)
        case hQ301 => exact fun _ _ _ h => h
        case hy301 => (refine Or.inl ⟨by rfl, ?_⟩; intro wq hSw; (try dsimp only at hSw); go_simp; (try with_reducible rfl))
        (try simp only [Act.put, List.setIfInBounds_toArray, List.set_cons_zero, List.set_cons_succ])
        refine wpAnyH_take (i := 1) (oi := ?oi302) (v := ?v302) ?hi302 (by kernel_rfl) (by kernel_rfl) (by kernel_rfl) ?hQ302 ?hy302 (by assumption) ?_
        case hi302 => (simp only [List.getElem?_toArray, List.getElem?_cons_succ, List.getElem?_cons_zero]; rfl)
        case hQ302 => exact fun _ _ _ h => h
        case hy302 => (refine Or.inl ⟨by rfl, ?_⟩; intro wq hSw; (try dsimp only at hSw); go_simp; (try with_reducible rfl))
        (try simp only [Act.put, List.setIfInBounds_toArray, List.set_cons_zero, List.set_cons_succ])
        refine wpAnyH_take (i := 2) (oi := ?oi303) (v := ?v303) ?hi303 (by kernel_rfl) (by kernel_rfl) (by kernel_rfl) ?hQ303 ?hy303 (by assumption) ?_
        case hi303 => (simp only [List.getElem?_toArray, List.getElem?_cons_succ, List.getElem?_cons_zero]; rfl)
        case hQ303 => exact fun _ _ _ h => h
        case hy303 => (refine Or.inl ⟨by rfl, ?_⟩; intro wq hSw; (try dsimp only at hSw); go_simp; (try with_reducible rfl))
        (try simp only [Act.put, List.setIfInBounds_toArray, List.set_cons_zero, List.set_cons_succ])
        refine wpAnyH_take (i := 3) (oi := ?oi304) (v := ?v304) ?hi304 (by kernel_rfl) (by kernel_rfl) (by kernel_rfl) ?hQ304 ?hy304 (by assumption) ?_
        case hi304 => (simp only [List.getElem?_toArray, List.getElem?_cons_succ, List.getElem?_cons_zero]; rfl)
        case hQ304 => exact fun _ _ _ h => h
        case hy304 => (refine Or.inl ⟨by rfl, ?_⟩; intro wq hSw; (try dsimp only at hSw); go_simp; (try with_reducible rfl))
        (try simp only [Act.put, List.setIfInBounds_toArray, List.set_cons_zero, List.set_cons_succ])
        refine wpAnyH_take (i := 5) (oi := ?oi305) (v := ?v305) ?hi305 (by kernel_rfl) (by kernel_rfl) (by kernel_rfl) ?hQ305 ?hy305 (by assumption) ?_
        case hi305 => (simp only [List.getElem?_toArray, List.getElem?_cons_succ, List.getElem?_cons_zero]; rfl)
        case hQ305 => exact fun _ _ _ h => h
        case hy305 => (refine Or.inl ⟨by rfl, ?_⟩; intro wq hSw; (try dsimp only at hSw); go_simp; (try with_reducible rfl))
        (try simp only [Act.put, List.setIfInBounds_toArray, List.set_cons_zero, List.set_cons_succ])
        refine wpAnyH_take (i := 6) (oi := ?oi306) (v := ?v306) ?hi306 (by kernel_rfl) (by kernel_rfl) (by kernel_rfl) ?hQ306 ?hy306 (by assumption) ?_
        case hi306 => (simp only [List.getElem?_toArray, List.getElem?_cons_succ, List.getElem?_cons_zero]; rfl)
        case hQ306 => exact fun _ _ _ h => h
        case hy306 => (refine Or.inl ⟨by rfl, ?_⟩; intro wq hSw; (try dsimp only at hSw); go_simp; (try with_reducible rfl))
        (try simp only [Act.put, List.setIfInBounds_toArray, List.set_cons_zero, List.set_cons_succ])
        refine wpAnyH_take (i := 7) (oi := ?oi307) (v := ?v307) ?hi307 (by kernel_rfl) (by kernel_rfl) (by kernel_rfl) ?hQ307 ?hy307 (by assumption) ?_
        case hi307 => (simp only [List.getElem?_toArray, List.getElem?_cons_succ, List.getElem?_cons_zero]; rfl)
        case hQ307 => exact fun _ _ _ h => h
        case hy307 => (refine Or.inl ⟨by rfl, ?_⟩; intro wq hSw; (try dsimp only at hSw); go_simp; (try with_reducible rfl))
        (try simp only [Act.put, List.setIfInBounds_toArray, List.set_cons_zero, List.set_cons_succ])
        refine wpAnyH_take (i := 8) (oi := ?oi308) (v := ?v308) ?hi308 (by kernel_rfl) (by kernel_rfl) (by kernel_rfl) ?hQ308 ?hy308 (by assumption) ?_
        case hi308 => (simp only [List.getElem?_toArray, List.getElem?_cons_succ, List.getElem?_cons_zero]; rfl)
        case hQ308 => exact fun _ _ _ h => h
        case hy308 => (refine Or.inl ⟨by rfl, ?_⟩; intro wq hSw; (try dsimp only at hSw); go_simp; (try with_reducible rfl))
        (try simp only [Act.put, List.setIfInBounds_toArray, List.set_cons_zero, List.set_cons_succ])
        refine wpAnyH_take (i := 9) (oi := ?oi309) (v := ?v309) ?hi309 (by kernel_rfl) (by kernel_rfl) (by kernel_rfl) ?hQ309 ?hy309 (by assumption) ?_
        case hi309 => (simp only [List.getElem?_toArray, List.getElem?_cons_succ, List.getElem?_cons_zero]; rfl)
        case hQ309 => exact fun _ _ _ h => h
        case hy309 => (refine Or.inl ⟨by rfl, ?_⟩; intro wq hSw; (try dsimp only at hSw); go_simp; (try with_reducible rfl))
        (try simp only [Act.put, List.setIfInBounds_toArray, List.set_cons_zero, List.set_cons_succ])
        refine wpAnyH_take (i := 10) (oi := ?oi310) (v := ?v310) ?hi310 (by kernel_rfl) (by kernel_rfl) (by kernel_rfl) ?hQ310 ?hy310 (by assumption) ?_
        case hi310 => (simp only [List.getElem?_toArray, List.getElem?_cons_succ, List.getElem?_cons_zero]; rfl)
        case hQ310 => exact fun _ _ _ h => h
        case hy310 => (refine Or.inl ⟨by rfl, ?_⟩; intro wq hSw; (try dsimp only at hSw); go_simp; (try with_reducible rfl))
        (try simp only [Act.put, List.setIfInBounds_toArray, List.set_cons_zero, List.set_cons_succ])
        refine wpAnyH_take (i := 11) (oi := ?oi311) (v := ?v311) ?hi311 (by kernel_rfl) (by kernel_rfl) (by kernel_rfl) ?hQ311 ?hy311 (by assumption) ?_
        case hi311 => (simp only [List.getElem?_toArray, List.getElem?_cons_succ, List.getElem?_cons_zero]; rfl)
        case hQ311 => exact fun _ _ _ h => h
        case hy311 => (refine Or.inl ⟨by rfl, ?_⟩; intro wq hSw; (try dsimp only at hSw); go_simp; (try with_reducible rfl))
        (try simp only [Act.put, List.setIfInBounds_toArray, List.set_cons_zero, List.set_cons_succ])
        refine wpAnyH_take (i := 12) (oi := ?oi312) (v := ?v312) ?hi312 (by kernel_rfl) (by kernel_rfl) (by kernel_rfl) ?hQ312 ?hy312 (by assumption) ?_
        case hi312 => (simp only [List.getElem?_toArray, List.getElem?_cons_succ, List.getElem?_cons_zero]; rfl)
        case hQ312 => exact fun _ _ _ h => h
        case hy312 => (refine Or.inl ⟨by rfl, ?_⟩; intro wq hSw; (try dsimp only at hSw); go_simp; (try with_reducible rfl))
        (try simp only [Act.put, List.setIfInBounds_toArray, List.set_cons_zero, List.set_cons_succ])
        refine wpAnyH_take (i := 13) (oi := ?oi313) (v := ?v313) ?hi313 (by kernel_rfl) (by kernel_rfl) (by kernel_rfl) ?hQ313 ?hy313 (by assumption) ?_
        case hi313 => (simp only [List.getElem?_toArray, List.getElem?_cons_succ, List.getElem?_cons_zero]; rfl)
        case hQ313 => exact fun _ _ _ h => h
        case hy313 => (refine Or.inl ⟨by rfl, ?_⟩; intro wq hSw; (try dsimp only at hSw); go_simp; (try with_reducible rfl))
        (try simp only [Act.put, List.setIfInBounds_toArray, List.set_cons_zero, List.set_cons_succ])
        refine wpAnyH_ready (rs := [4, 15]) (by kernel_rfl) (by simp) ?_
        refine AllReadyH.cons (o := ?oi314) ?hi314 ?ti314 ?ri314
        case hi314 => (simp only [List.getElem?_toArray, List.getElem?_cons_succ, List.getElem?_cons_zero]; rfl)
        case ti314 =>
          intro KQ hKQ
          go_simp
          (try simp [go_sem, ↓IntWalk.iteOmega, *])
          refine hKQ.out _ _ (by trivial) (fun hHeld2 => ?_)
          clear hHeld hKQ KQ; have hHeld := hHeld2; clear hHeld2
          (try simp only [Act.put, List.setIfInBounds_toArray, List.set_cons_zero, List.set_cons_succ])
          refine wpAnyH_take (i := 14) (oi := ?oi315) (v := ?v315) ?hi315 (by kernel_rfl) (by kernel_rfl) (by kernel_rfl) ?hQ315 ?hy315 (by assumption) ?_
          case hi315 => (simp only [List.getElem?_toArray, List.getElem?_cons_succ, List.getElem?_cons_zero]; rfl)
          case hQ315 => exact fun _ _ _ h => h
          case hy315 => (refine Or.inl ⟨by rfl, ?_⟩; intro wq hSw; (try dsimp only at hSw); go_simp; (try with_reducible rfl))
          (try simp only [Act.put, List.setIfInBounds_toArray, List.set_cons_zero, List.set_cons_succ])
          refine wpAnyH_ready (rs := [15]) (by kernel_rfl) (by simp) ?_
          refine AllReadyH.cons (o := ?oi316) ?hi316 ?ti316 AllReadyH.nil
          case hi316 => (simp only [List.getElem?_toArray, List.getElem?_cons_succ, List.getElem?_cons_zero]; rfl)
          case ti316 =>
            intro KQ hKQ
            go_simp
            refine hKQ.out _ _ (by trivial) (fun hHeld2 => ?_)
            clear hHeld hKQ KQ; have hHeld := hHeld2; clear hHeld2
            (try simp only [Act.put, List.setIfInBounds_toArray, List.set_cons_zero, List.set_cons_succ])
            refine wpAnyH_ready (rs := [16]) (by kernel_rfl) (by simp) ?_
            refine AllReadyH.cons (o := ?oi317) ?hi317 ?ti317 AllReadyH.nil
            case hi317 => (simp only [List.getElem?_toArray, List.getElem?_cons_succ, List.getElem?_cons_zero]; rfl)
            case ti317 =>
              intro KQ hKQ
              go_simp
              (try simp [go_sem, ↓IntWalk.iteOmega, *])
              refine hKQ.out _ _ (by trivial) (fun hHeld2 => ?_)
              clear hHeld hKQ KQ; have hHeld := hHeld2; clear hHeld2
              (try simp only [Act.put, List.setIfInBounds_toArray, List.set_cons_zero, List.set_cons_succ])
              refine wpAnyH_done (by kernel_rfl) ?_ _
              go_wp2
              go_loopw [35] (fun q wr => ∃ k : Nat, k ≤ (n - i) ∧ q = .int .i64 k ∧ Ext ((ext w x).alloc (.cells #[.int .i64 (rN c0 C k).1.1, .int .i64 (rN c0 C k).1.2, .int .i64 (rN c0 C k).2.1, .int .i64 (rN c0 C k).2.2, .slice none 0 0, .slice (some ⟨b, o + i * 6, none⟩) (n - i) (c - i)] 34)) wr) (fun q _ => (n - i) - (intOf q).toNat)
              case atStart => exact ⟨0, Nat.zero_le _, rfl, Ext.dr (Ext.refl' _)⟩
              case round =>
                obtain ⟨k, hk, rfl, hE⟩ := hrel
                obtain ⟨x2, rfl⟩ := hE.get
                clear hE
                by_cases hlt2 : k < (n - i)
                · have hltC : k < C.length := by have := HEC.out; omega
                  obtain ⟨b', o', he, _, Ab, cb, A', c', css', f0, f1, f2, f3, f4, f5, _, _, _, _⟩ := RM.arg hC.out hTC.out hltC
                  simp only [Option.some.injEq, Addr.mk.injEq, and_true] at he
                  obtain ⟨rfl, rfl⟩ := he
                  have HJ := Lib.hid (rN_succ c0 C hltC)
                  generalize C[k].bs.length = nb at f4
                  generalize C[k].ks.length = nk at f5
                  generalize C[k].r = ck at f0 f1 f2 f3 HJ
                  generalize rN c0 C k = rk at HJ ⊢
                  have HJN := Lib.hid (fun w => around_any rk ck w)
                  go_wp2_with (go_at_call 37; refine (HJN.out _).mono ?_; rintro e w1 ⟨rfl, hb1⟩; obtain ⟨x1, rfl⟩ := hb1.get; clear hb1)
                  go_roundw
                  case rel => exact ⟨k + 1, by omega, by go_num, by rw [HJ.out]; exact (by repeat (first | exact Ext.refl' _ | assumption | apply Ext.ex' | apply Ext.al | apply Ext.drN | apply Ext.dr))⟩
                  case measure => simp [intOf]; omega
                · have HE := Lib.hid (rN_end hC0.out (show k = C.length by have := HEC.out; omega))
                  rw [HC0.out] at HE
                  generalize rN c0 C k = rk at HE ⊢
                  have HNW : Hid ((nodc rk (.slice none 0 0) (.slice (some ⟨b, o + i * 6, none⟩) (n - i) (c - i))) = ndN b o wd n c T0 i) := Lib.hid (by unfold ndN; rw [HCC.out, ← HE.out, show min wd (n - i) = (n - i) from by omega])
                  go_wp2_with (at_builtin; refine wpList_app _ rfl (.tmp 46) (.tmp 48) rfl elNodeR w (by repeat (first | exact Ext.refl' _ | assumption | apply Ext.ex' | apply Ext.al | apply Ext.drN | apply Ext.dr)) _ _ _ rfl (by repeat (first | exact hown | apply World.ownsRow.alloc | apply own_ext)) _ 1 1 (nodc rk (.slice none 0 0) (.slice (some ⟨b, o + i * 6, none⟩) (n - i) (c - i))) rfl (Rd.lit _ #[.int .i64 rk.1.1, .int .i64 rk.1.2, .int .i64 rk.2.1, .int .i64 rk.2.2, .slice none 0 0, .slice (some ⟨b, o + i * 6, none⟩) (n - i) (c - i)] _ 1 6 rfl (by simp [size_ext])) (oneCell_nodc _ _ _ rfl rfl) (by unfold maxLen; omega) (by omega) ?_; intro v' x' hown' _)
                  go_roundw
                  case rel => exact ⟨j + 1, x', css ++ [ndN b o wd n c T0 i], by omega, by rw [HS1.out]; go_num, by simp [hcl], Lib.hid (by rw [HCS.out, List.range_succ, List.map_append]; simp [HI.out]), rfl, by rw [flat_snoc, ← HNW.out]; simpa using hown'⟩
                  case measure => (have hms := HMS.out; generalize nch wd n * wd = M at hms ⊢; simp [intOf]; omega)
        case ri314 =>
          refine AllReadyH.cons (o := ?oi318) ?hi318 ?ti318 AllReadyH.nil
          case hi318 => (simp only [List.getElem?_toArray, List.getElem?_cons_succ, List.getElem?_cons_zero]; rfl)
          case ti318 =>
            intro KQ hKQ
            go_simp
            refine hKQ.out _ _ (by trivial) (fun hHeld2 => ?_)
            clear hHeld hKQ KQ; have hHeld := hHeld2; clear hHeld2
            (try simp only [Act.put, List.setIfInBounds_toArray, List.set_cons_zero, List.set_cons_succ])
            refine wpAnyH_ready (rs := [4]) (by kernel_rfl) (by simp) ?_
            refine AllReadyH.cons (o := ?oi319) ?hi319 ?ti319 AllReadyH.nil
            case hi319 => (simp only [List.getElem?_toArray, List.getElem?_cons_succ, List.getElem?_cons_zero]; rfl)
            case ti319 =>
              intro KQ hKQ
              go_simp
              (try simp [go_sem, ↓IntWalk.iteOmega, *])
              refine hKQ.out _ _ (by trivial) (fun hHeld2 => ?_)
              clear hHeld hKQ KQ; have hHeld := hHeld2; clear hHeld2
              (try simp only [Act.put, List.setIfInBounds_toArray, List.set_cons_zero, List.set_cons_succ])
              refine wpAnyH_take (i := 14) (oi := ?oi320) (v := ?v320) ?hi320 (by kernel_rfl) (by kernel_rfl) (by kernel_rfl) ?hQ320 ?hy320 (by assumption) ?_
              case hi320 => (simp only [List.getElem?_toArray, List.getElem?_cons_succ, List.getElem?_cons_zero]; rfl)
              case hQ320 => exact fun _ _ _ h => h
              case hy320 => (refine Or.inl ⟨by rfl, ?_⟩; intro wq hSw; (try dsimp only at hSw); go_simp; (try with_reducible rfl))
              (try simp only [Act.put, List.setIfInBounds_toArray, List.set_cons_zero, List.set_cons_succ])
              refine wpAnyH_ready (rs := [16]) (by kernel_rfl) (by simp) ?_
              refine AllReadyH.cons (o := ?oi321) ?hi321 ?ti321 AllReadyH.nil
              case hi321 => (simp only [List.getElem?_toArray, List.getElem?_cons_succ, List.getElem?_cons_zero]; rfl)
              case ti321 =>
                intro KQ hKQ
                go_simp
                (try simp [go_sem, ↓IntWalk.iteOmega, *])
                refine hKQ.out _ _ (by trivial) (fun hHeld2 => ?_)
                clear hHeld hKQ KQ; have hHeld := hHeld2; clear hHeld2
                (try simp only [Act.put, List.setIfInBounds_toArray, List.set_cons_zero, List.set_cons_succ])
                refine wpAnyH_done (by kernel_rfl) ?_ _
                go_wp2
                go_loopw [35] (fun q wr => ∃ k : Nat, k ≤ (n - i) ∧ q = .int .i64 k ∧ Ext ((ext w x).alloc (.cells #[.int .i64 (rN c0 C k).1.1, .int .i64 (rN c0 C k).1.2, .int .i64 (rN c0 C k).2.1, .int .i64 (rN c0 C k).2.2, .slice none 0 0, .slice (some ⟨b, o + i * 6, none⟩) (n - i) (c - i)] 34)) wr) (fun q _ => (n - i) - (intOf q).toNat)
                case atStart => exact ⟨0, Nat.zero_le _, rfl, Ext.dr (Ext.refl' _)⟩
                case round =>
                  obtain ⟨k, hk, rfl, hE⟩ := hrel
                  obtain ⟨x2, rfl⟩ := hE.get
                  clear hE
                  by_cases hlt2 : k < (n - i)
                  · have hltC : k < C.length := by have := HEC.out; omega
                    obtain ⟨b', o', he, _, Ab, cb, A', c', css', f0, f1, f2, f3, f4, f5, _, _, _, _⟩ := RM.arg hC.out hTC.out hltC
                    simp only [Option.some.injEq, Addr.mk.injEq, and_true] at he
                    obtain ⟨rfl, rfl⟩ := he
                    have HJ := Lib.hid (rN_succ c0 C hltC)
                    generalize C[k].bs.length = nb at f4
                    generalize C[k].ks.length = nk at f5
                    generalize C[k].r = ck at f0 f1 f2 f3 HJ
                    generalize rN c0 C k = rk at HJ ⊢
                    have HJN := Lib.hid (fun w => around_any rk ck w)
                    go_wp2_with (go_at_call 37; refine (HJN.out _).mono ?_; rintro e w1 ⟨rfl, hb1⟩; obtain ⟨x1, rfl⟩ := hb1.get; clear hb1)
                    go_roundw
                    case rel => exact ⟨k + 1, by omega, by go_num, by rw [HJ.out]; exact (by repeat (first | exact Ext.refl' _ | assumption | apply Ext.ex' | apply Ext.al | apply Ext.drN | apply Ext.dr))⟩
                    case measure => simp [intOf]; omega
                  · have HE := Lib.hid (rN_end hC0.out (show k = C.length by have := HEC.out; omega))
                    rw [HC0.out] at HE
                    generalize rN c0 C k = rk at HE ⊢
                    have HNW : Hid ((nodc rk (.slice none 0 0) (.slice (some ⟨b, o + i * 6, none⟩) (n - i) (c - i))) = ndN b o wd n c T0 i) := Lib.hid (by unfold ndN; rw [HCC.out, ← HE.out, show min wd (n - i) = (n - i) from by omega])
                    go_wp2_with (at_builtin; refine wpList_app _ rfl (.tmp 46) (.tmp 48) rfl elNodeR w (by repeat (first | exact Ext.refl' _ | assumption | apply Ext.ex' | apply Ext.al | apply Ext.drN | apply Ext.dr)) _ _ _ rfl (by repeat (first | exact hown | apply World.ownsRow.alloc | apply own_ext)) _ 1 1 (nodc rk (.slice none 0 0) (.slice (some ⟨b, o + i * 6, none⟩) (n - i) (c - i))) rfl (Rd.lit _ #[.int .i64 rk.1.1, .int .i64 rk.1.2, .int .i64 rk.2.1, .int .i64 rk.2.2, .slice none 0 0, .slice (some ⟨b, o + i * 6, none⟩) (n - i) (c - i)] _ 1 6 rfl (by simp [size_ext])) (oneCell_nodc _ _ _ rfl rfl) (by unfold maxLen; omega) (by omega) ?_; intro v' x' hown' _)
                    go_roundw
                    case rel => exact ⟨j + 1, x', css ++ [ndN b o wd n c T0 i], by omega, by rw [HS1.out]; go_num, by simp [hcl], Lib.hid (by rw [HCS.out, List.range_succ, List.map_append]; simp [HI.out]), rfl, by rw [flat_snoc, ← HNW.out]; simpa using hown'⟩
                    case measure => (have hms := HMS.out; generalize nch wd n * wd = M at hms ⊢; simp [intOf]; omega)
    · have hjn : j = nch wd n := by omega
      have HJN := Lib.hid hjn
      clear hjn
      have hge : n ≤ j * wd := by
        rcases Nat.lt_or_ge (j * wd) n with h | h
        · exact absurd ((lt_nch hwd).2 h) hlt
        · exact h
      generalize hi : j * wd = i at hge
      clear hi
      obtain ⟨A6, c6, rfl, hc6, hc63⟩ := Own.form hown
      go_wp2
      go_ret
      have hE : Ext w (ext w x) := Ext.ex _ _
      have hlc : css.length = (aboveF wd T0).length := by rw [hcl, HJN.out, aboveF_length, ← HL.out]
      refine ⟨A6, c6, css, by rw [← hlc]; rfl, hE, by omega, by unfold maxLen at hc63; omega, fun X hX hag hBase => ⟨?_, ?_⟩⟩
      · rw [← hlc]
        refine (Rd.of_own hown).agree fun b o hA hb => ⟨by omega, hag b ?_ hb⟩
        exact (row_block hown (r := b) (by rw [hA]; rfl)).1
      refine RMs.of hlc fun k h1 h2 => ?_
      have hk : k * wd < n := (lt_nch (n := n) hwd).1 (by have := HJN.out; omega)
      have hck : css[k] = ndN b o wd n c T0 (k * wd) := by simp only [HCS.out, List.getElem_map, List.getElem_range]
      rw [hck]
      have hCe := hBase.1.nodes hT.six (k * wd) wd (by omega)
      have hTe := hBase.2.part (k * wd) wd
      rw [(RMs.get hTe).1] at hCe
      have hlen : min wd (n - k * wd) = ((T0.drop (k * wd)).take wd).length := by rw [chunk_len, ← HL.out]
      have hne : 0 < ((T0.drop (k * wd)).take wd).length := by rw [← hlen]; omega
      rw [show (aboveF wd T0)[k] = mkN ((T0.drop (k * wd)).take wd) from by simp [aboveF, chunks]]
      unfold ndN
      rw [hlen]
      generalize (T0.drop (k * wd)).take wd = C at hCe hne hlen hTe
      cases C with
      | nil => simp at hne
      | cons q C =>
        rw [mkN, RM]
        exact ⟨_, _, _, rfl, by omega, hCe, hTe⟩

end Go.Proofs.Ytgobmiahhmajdaa
