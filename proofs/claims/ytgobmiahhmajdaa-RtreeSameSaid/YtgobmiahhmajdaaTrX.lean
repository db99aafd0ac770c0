/- Packed trees: the walk of the law RtreeBuild. -/
import Derived.Test.YtgobmiahhmajdaaTrU
import Derived.Deep.RegionHeld3
set_option linter.unusedSimpArgs false
set_option linter.unusedVariables false
namespace Go.Proofs.Ytgobmiahhmajdaa
open Go.RowKit


theorem boundsU (wd : Int) (L : List Bxs) (a : Option Addr) (n d : Int) (w : World) (hT : TreeH w a (rtE wd L) n d) : Calls Try.prog 12 #[.pointer a] w fun e w' => e = .returned (.tuple #[rx (rbF (loE wd L)).1, .bool (rbF (loE wd L)).2]) ∧ Ext w w' := by
  have h := bounds_any (rtE wd L) a n d w hT
  rw [bd_eq] at h
  exact h
set_option maxRecDepth 100000 in
set_option maxHeartbeats 16000000 in
theorem lawBuild_any (A : Option Addr) (c : Nat) (L : List Bxs) (wd : Int) (w : World) (hR : Rd w 5 A L.length (bxl L)) (hc : L.length ≤ c) (hl : L.length ≤ 9223372036854775807) (hwf : ∀ b ∈ L, (Lit.int .i64 b.2).wf = true) :
    Calls Try.prog 3 #[.slice A L.length c, .int .i64 wd] w fun e w' => e = .returned (.bool true) ∧ Ext w w' := by
  by_cases hbig : 200 < L.length
  · go_enter Try.func3, Try.ntmps3
    go_wp2_with (go_at_call 9; refine (works_any _).mono ?_; rintro e w1 ⟨rfl, hb1⟩; obtain ⟨z, rfl⟩ := hb1.get; clear hb1)
    go_ret
    exact ⟨rfl, by repeat (first | exact Ext.refl' _ | assumption | apply Ext.ex' | apply Ext.al | apply Ext.drN | apply Ext.dr)⟩
  · have h200 : L.length ≤ 200 := by omega
    have HB := Lib.hid (fun w h => buildU A L.length c wd L w rfl h (by omega) hc hwf)
    have HRB := Lib.hid (fun w h => rbuildU A L.length c wd L w rfl h (by omega) hc)
    have HBo := Lib.hid (fun a w h => boundsU wd L a ((loE wd L).length : Nat) (rdE wd L : Nat) w h)
    have HRBo := Lib.hid (fun (x : Value) w h => rbounds_any x (loE wd L) (rtE wd L) (rdE wd L : Nat) w h)
    generalize rbF (loE wd L) = bd at HBo HRBo
    generalize errF wd L = er at HB HRB
    generalize loE wd L = Lo at HB HRB HBo HRBo
    generalize rtE wd L = root at HB HRB HBo HRBo
    generalize ((rdE wd L : Nat) : Int) = d0 at HB HRB HBo HRBo
    obtain ⟨rc, okb⟩ := bd
    go_enter Try.func3, Try.ntmps3
    go_wp2_with fail
    refine Calls.mono (HB.out _ (hR.ext (by repeat (first | exact Ext.refl' _ | assumption | apply Ext.ex' | apply Ext.al | apply Ext.drN | apply Ext.dr)))) ?_
    rintro e w1 ⟨a, rfl, hb1, hT, hne1, hne2⟩
    have hE1 : Ext w w1 := hb1
    clear hb1
    go_wp2_with fail
    refine Calls.mono (HRB.out _ ((hR.ext (by repeat (first | exact Ext.refl' _ | assumption | apply Ext.ex' | apply Ext.al | apply Ext.drN | apply Ext.dr))).ext hE1)) ?_
    rintro e w2 ⟨x, rfl, hb2, hX⟩
    have hT2 := hT.ext hb2
    have hE2 : Ext w w2 := hE1.tr hb2
    have hX' := hX
    obtain ⟨wx, Ax, cx, rxx, ux, vx, rfl, hLx, _, _, ⟨Au, nu, cu, rfl⟩, Av, nv, cv, rfl⟩ := hX'
    clear hT hb2 hE1
    have HRBo := Lib.hid (HRBo.out (treeg wx Ax Lo.length cx rxx (.slice Au nu cu) (.slice Av nv cv) d0))
    have hd : (∃ b, a = some b ∧ ((er : Int) == 0) = true ∧ decide (er = 0) = true) ∨ a = none ∧ ((er : Int) == 0) = false ∧ decide (er = 0) = false := by
      by_cases h0 : er = 0
      · have := hne1 h0
        cases a with
        | none => exact absurd rfl this
        | some b => exact .inl ⟨b, rfl, by simp [h0], by simp [h0]⟩
      · exact .inr ⟨hne2 h0, by simp [h0], by simp [h0]⟩
    clear hne1 hne2
    have HT := Lib.hid hT2
    clear hT2
    have key : Calls Try.prog 12 #[.pointer a] (w2.alloc (.cells #[.int .i64 wx, .slice Ax Lo.length cx, .int .i64 rxx.1.1, .int .i64 rxx.1.2, .int .i64 rxx.2.1, .int .i64 rxx.2.2, .slice Au nu cu, .slice Av nv cv, .int .i64 d0] 36)) fun e w' => e = .returned (.tuple #[rx rc, .bool okb]) ∧ Ext (w2.alloc (.cells #[.int .i64 wx, .slice Ax Lo.length cx, .int .i64 rxx.1.1, .int .i64 rxx.1.2, .int .i64 rxx.2.1, .int .i64 rxx.2.2, .slice Au nu cu, .slice Av nv cv, .int .i64 d0] 36)) w' := HBo.out a _ (HT.out.ext (by repeat (first | exact Ext.refl' _ | assumption | apply Ext.ex' | apply Ext.al | apply Ext.drN | apply Ext.dr)))
    rcases hd with ⟨b, rfl, h1, h1'⟩ | ⟨rfl, h1, h1'⟩
    · go_wp2_with fail
      refine Calls.mono key ?_
      clear key
      rintro e w3 ⟨rfl, hb3⟩
      have hsz1 : w2.heap.size < w3.heap.size := by have h1 := hb3.size; simp at h1; omega
      have x0 : w3.cell? ⟨w2.heap.size, 0, none⟩ = some (.int .i64 wx) := hb3.cell' (by simp [go_sem, ↓IntWalk.iteOmega])
      have x1 : w3.cell? ⟨w2.heap.size, 1, none⟩ = some (.slice Ax Lo.length cx) := hb3.cell' (by simp [go_sem, ↓IntWalk.iteOmega])
      have x2 : w3.cell? ⟨w2.heap.size, 2, none⟩ = some (.int .i64 rxx.1.1) := hb3.cell' (by simp [go_sem, ↓IntWalk.iteOmega])
      have x3 : w3.cell? ⟨w2.heap.size, 3, none⟩ = some (.int .i64 rxx.1.2) := hb3.cell' (by simp [go_sem, ↓IntWalk.iteOmega])
      have x4 : w3.cell? ⟨w2.heap.size, 4, none⟩ = some (.int .i64 rxx.2.1) := hb3.cell' (by simp [go_sem, ↓IntWalk.iteOmega])
      have x5 : w3.cell? ⟨w2.heap.size, 5, none⟩ = some (.int .i64 rxx.2.2) := hb3.cell' (by simp [go_sem, ↓IntWalk.iteOmega])
      have x6 : w3.cell? ⟨w2.heap.size, 6, none⟩ = some (.slice Au nu cu) := hb3.cell' (by simp [go_sem, ↓IntWalk.iteOmega])
      have x7 : w3.cell? ⟨w2.heap.size, 7, none⟩ = some (.slice Av nv cv) := hb3.cell' (by simp [go_sem, ↓IntWalk.iteOmega])
      have x8 : w3.cell? ⟨w2.heap.size, 8, none⟩ = some (.int .i64 d0) := hb3.cell' (by simp [go_sem, ↓IntWalk.iteOmega])
      go_wp2_with fail
      refine Calls.mono (HRBo.out _ ((hX.ext (by repeat (first | exact Ext.refl' _ | assumption | apply Ext.ex' | apply Ext.al | apply Ext.drN | apply Ext.dr))).ext (hb3.tr (by repeat (first | exact Ext.refl' _ | assumption | apply Ext.ex' | apply Ext.al | apply Ext.drN | apply Ext.dr))))) ?_
      rintro e w4 ⟨rfl, hb4⟩
      have hE34 := hb3.tr (Ext.tr (by repeat (first | exact Ext.refl' _ | assumption | apply Ext.ex' | apply Ext.al | apply Ext.drN | apply Ext.dr)) hb4)
      have hE0 : Ext w w4 := hE2.tr (Ext.tr (by repeat (first | exact Ext.refl' _ | assumption | apply Ext.ex' | apply Ext.al | apply Ext.drN | apply Ext.dr)) hE34)
      have hT4 := HT.out.ext (Ext.tr (by repeat (first | exact Ext.refl' _ | assumption | apply Ext.ex' | apply Ext.al | apply Ext.drN | apply Ext.dr)) hE34)
      have z0 : w4.cell? ⟨w2.heap.size, 0, none⟩ = some (.int .i64 wx) := hb4.cell' (by simp [go_sem, ↓IntWalk.iteOmega, x0])
      have z1 : w4.cell? ⟨w2.heap.size, 1, none⟩ = some (.slice Ax Lo.length cx) := hb4.cell' (by simp [go_sem, ↓IntWalk.iteOmega, x1])
      have z2 : w4.cell? ⟨w2.heap.size, 2, none⟩ = some (.int .i64 rxx.1.1) := hb4.cell' (by simp [go_sem, ↓IntWalk.iteOmega, x2])
      have z3 : w4.cell? ⟨w2.heap.size, 3, none⟩ = some (.int .i64 rxx.1.2) := hb4.cell' (by simp [go_sem, ↓IntWalk.iteOmega, x3])
      have z4 : w4.cell? ⟨w2.heap.size, 4, none⟩ = some (.int .i64 rxx.2.1) := hb4.cell' (by simp [go_sem, ↓IntWalk.iteOmega, x4])
      have z5 : w4.cell? ⟨w2.heap.size, 5, none⟩ = some (.int .i64 rxx.2.2) := hb4.cell' (by simp [go_sem, ↓IntWalk.iteOmega, x5])
      have z6 : w4.cell? ⟨w2.heap.size, 6, none⟩ = some (.slice Au nu cu) := hb4.cell' (by simp [go_sem, ↓IntWalk.iteOmega, x6])
      have z7 : w4.cell? ⟨w2.heap.size, 7, none⟩ = some (.slice Av nv cv) := hb4.cell' (by simp [go_sem, ↓IntWalk.iteOmega, x7])
      have z8 : w4.cell? ⟨w2.heap.size, 8, none⟩ = some (.int .i64 d0) := hb4.cell' (by simp [go_sem, ↓IntWalk.iteOmega, x8])
      have b0 : w4.cell? ⟨w3.heap.size, 0, none⟩ = some (.int .i64 rc.1.1) := hb4.cell' (by simp [go_sem, ↓IntWalk.iteOmega])
      have b1 : w4.cell? ⟨w3.heap.size, 1, none⟩ = some (.int .i64 rc.1.2) := hb4.cell' (by simp [go_sem, ↓IntWalk.iteOmega])
      have b2 : w4.cell? ⟨w3.heap.size, 2, none⟩ = some (.int .i64 rc.2.1) := hb4.cell' (by simp [go_sem, ↓IntWalk.iteOmega])
      have b3 : w4.cell? ⟨w3.heap.size, 3, none⟩ = some (.int .i64 rc.2.2) := hb4.cell' (by simp [go_sem, ↓IntWalk.iteOmega])
      have hsz : w2.heap.size < w3.heap.size ∧ w3.heap.size < w4.heap.size := by have h1 := hb3.size; have h2 := hb4.size; simp at h1 h2; omega
      clear hb3 hb4 hE34 hsz1 x0 x1 x2 x3 x4 x5 x6 x7 x8
      go_wp2
      refine wp_region_held_drew (S := (fun w' => w'.cell? ⟨w2.heap.size, 0, none⟩ = some (.int .i64 wx) ∧ w'.cell? ⟨w2.heap.size, 1, none⟩ = some (.slice Ax Lo.length cx) ∧ w'.cell? ⟨w2.heap.size, 2, none⟩ = some (.int .i64 rxx.1.1) ∧ w'.cell? ⟨w2.heap.size, 3, none⟩ = some (.int .i64 rxx.1.2) ∧ w'.cell? ⟨w2.heap.size, 4, none⟩ = some (.int .i64 rxx.2.1) ∧ w'.cell? ⟨w2.heap.size, 5, none⟩ = some (.int .i64 rxx.2.2) ∧ w'.cell? ⟨w2.heap.size, 6, none⟩ = some (.slice Au nu cu) ∧ w'.cell? ⟨w2.heap.size, 7, none⟩ = some (.slice Av nv cv) ∧ w'.cell? ⟨w2.heap.size, 8, none⟩ = some (.int .i64 d0) ∧ w'.cell? ⟨w3.heap.size, 0, none⟩ = some (.int .i64 rc.1.1) ∧ w'.cell? ⟨w3.heap.size, 1, none⟩ = some (.int .i64 rc.1.2) ∧ w'.cell? ⟨w3.heap.size, 2, none⟩ = some (.int .i64 rc.2.1) ∧ w'.cell? ⟨w3.heap.size, 3, none⟩ = some (.int .i64 rc.2.2) ∧ w'.cell? ⟨w4.heap.size, 0, none⟩ = some (.int .i64 rc.1.1) ∧ w'.cell? ⟨w4.heap.size, 1, none⟩ = some (.int .i64 rc.1.2) ∧ w'.cell? ⟨w4.heap.size, 2, none⟩ = some (.int .i64 rc.2.1) ∧ w'.cell? ⟨w4.heap.size, 3, none⟩ = some (.int .i64 rc.2.2))) (by kernel_rfl) (by simp [go_sem, ↓IntWalk.iteOmega, *]) (fun hHeld => ?_)
      refine wpAnyH_take (i := 0) (oi := ?oi1) (v := ?v1) ?hi1 (by kernel_rfl) (by kernel_rfl) (by kernel_rfl) ?hQ1 ?hy1 (by assumption) ?_
      case hi1 => (simp only [List.getElem?_toArray, List.getElem?_cons_succ, List.getElem?_cons_zero]; rfl)
      case hQ1 => exact fun _ _ _ h => h
      case hy1 => (refine Or.inl ⟨by rfl, ?_⟩; intro wq hSw; (try dsimp only at hSw); go_simp; (try with_reducible rfl))
      (try simp only [Act.put, List.setIfInBounds_toArray, List.set_cons_zero, List.set_cons_succ])
      refine wpAnyH_take (i := 2) (oi := ?oi2) (v := ?v2) ?hi2 (by kernel_rfl) (by kernel_rfl) (by kernel_rfl) ?hQ2 ?hy2 (by assumption) ?_
      case hi2 => (simp only [List.getElem?_toArray, List.getElem?_cons_succ, List.getElem?_cons_zero]; rfl)
      case hQ2 => exact fun _ _ _ h => h
      case hy2 => (refine Or.inl ⟨by rfl, ?_⟩; intro wq hSw; (try dsimp only at hSw); go_simp; (try with_reducible rfl))
      (try simp only [Act.put, List.setIfInBounds_toArray, List.set_cons_zero, List.set_cons_succ])
      refine wpAnyH_take (i := 3) (oi := ?oi3) (v := ?v3) ?hi3 (by kernel_rfl) (by kernel_rfl) (by kernel_rfl) ?hQ3 ?hy3 (by assumption) ?_
      case hi3 => (simp only [List.getElem?_toArray, List.getElem?_cons_succ, List.getElem?_cons_zero]; rfl)
      case hQ3 => exact fun _ _ _ h => h
      case hy3 => (refine Or.inl ⟨by rfl, ?_⟩; intro wq hSw; (try dsimp only at hSw); go_simp; (try with_reducible rfl))
      (try simp only [Act.put, List.setIfInBounds_toArray, List.set_cons_zero, List.set_cons_succ])
      refine wpAnyH_take (i := 4) (oi := ?oi4) (v := ?v4) ?hi4 (by kernel_rfl) (by kernel_rfl) (by kernel_rfl) ?hQ4 ?hy4 (by assumption) ?_
      case hi4 => (simp only [List.getElem?_toArray, List.getElem?_cons_succ, List.getElem?_cons_zero]; rfl)
      case hQ4 => exact fun _ _ _ h => h
      case hy4 => (refine Or.inl ⟨by rfl, ?_⟩; intro wq hSw; (try dsimp only at hSw); go_simp; (try with_reducible rfl))
      (try simp only [Act.put, List.setIfInBounds_toArray, List.set_cons_zero, List.set_cons_succ])
      refine wpAnyH_ready (rs := [1]) (by kernel_rfl) (by simp) ?_
      refine AllReadyH.cons (o := ?oi5) ?hi5 ?ti5 AllReadyH.nil
      case hi5 => (simp only [List.getElem?_toArray, List.getElem?_cons_succ, List.getElem?_cons_zero]; rfl)
      case ti5 =>
        intro KQ hKQ
        go_simp
        (go_at_call 14; refine (len_any _ _ _ _ _ (hT4.ext (by repeat (first | exact Ext.refl' _ | assumption | apply Ext.ex' | apply Ext.al | apply Ext.drN | apply Ext.dr)))).mono ?_; rintro e w1 ⟨rfl, rfl⟩)
        refine hKQ.out _ _ (by simp [go_sem, ↓IntWalk.iteOmega, *]) (fun hHeld2 => ?_)
        clear hHeld hKQ KQ; have hHeld := hHeld2; clear hHeld2
        (try simp only [Act.put, List.setIfInBounds_toArray, List.set_cons_zero, List.set_cons_succ])
        refine wpAnyH_take (i := 5) (oi := ?oi6) (v := ?v6) ?hi6 (by kernel_rfl) (by kernel_rfl) (by kernel_rfl) ?hQ6 ?hy6 (by assumption) ?_
        case hi6 => (simp only [List.getElem?_toArray, List.getElem?_cons_succ, List.getElem?_cons_zero]; rfl)
        case hQ6 => exact fun _ _ _ h => h
        case hy6 => (refine Or.inl ⟨by rfl, ?_⟩; intro wq hSw; (try dsimp only at hSw); go_simp; (try with_reducible rfl))
        (try simp only [Act.put, List.setIfInBounds_toArray, List.set_cons_zero, List.set_cons_succ])
        refine wpAnyH_take (i := 6) (oi := ?oi7) (v := ?v7) ?hi7 (by kernel_rfl) (by kernel_rfl) (by kernel_rfl) ?hQ7 ?hy7 (by assumption) ?_
        case hi7 => (simp only [List.getElem?_toArray, List.getElem?_cons_succ, List.getElem?_cons_zero]; rfl)
        case hQ7 => exact fun _ _ _ h => h
        case hy7 => (refine Or.inl ⟨by rfl, ?_⟩; intro wq hSw; (try dsimp only at hSw); go_simp; (try with_reducible rfl))
        (try simp only [Act.put, List.setIfInBounds_toArray, List.set_cons_zero, List.set_cons_succ])
        refine wpAnyH_take (i := 7) (oi := ?oi8) (v := ?v8) ?hi8 (by kernel_rfl) (by kernel_rfl) (by kernel_rfl) ?hQ8 ?hy8 (by assumption) ?_
        case hi8 => (simp only [List.getElem?_toArray, List.getElem?_cons_succ, List.getElem?_cons_zero]; rfl)
        case hQ8 => exact fun _ _ _ h => h
        case hy8 => (refine Or.inl ⟨by rfl, ?_⟩; intro wq hSw; (try dsimp only at hSw); go_simp; (try with_reducible rfl))
        (try simp only [Act.put, List.setIfInBounds_toArray, List.set_cons_zero, List.set_cons_succ])
        refine wpAnyH_take (i := 9) (oi := ?oi9) (v := ?v9) ?hi9 (by kernel_rfl) (by kernel_rfl) (by kernel_rfl) ?hQ9 ?hy9 (by assumption) ?_
        case hi9 => (simp only [List.getElem?_toArray, List.getElem?_cons_succ, List.getElem?_cons_zero]; rfl)
        case hQ9 => exact fun _ _ _ h => h
        case hy9 => (refine Or.inl ⟨by rfl, ?_⟩; intro wq hSw; (try dsimp only at hSw); go_simp; (try with_reducible rfl))
        (try simp only [Act.put, List.setIfInBounds_toArray, List.set_cons_zero, List.set_cons_succ])
        refine wpAnyH_take (i := 10) (oi := ?oi10) (v := ?v10) ?hi10 (by kernel_rfl) (by kernel_rfl) (by kernel_rfl) ?hQ10 ?hy10 (by assumption) ?_
        case hi10 => (simp only [List.getElem?_toArray, List.getElem?_cons_succ, List.getElem?_cons_zero]; rfl)
        case hQ10 => exact fun _ _ _ h => h
        case hy10 => (refine Or.inl ⟨by rfl, ?_⟩; intro wq hSw; (try dsimp only at hSw); go_simp; (try with_reducible rfl))
        (try simp only [Act.put, List.setIfInBounds_toArray, List.set_cons_zero, List.set_cons_succ])
        refine wpAnyH_ready (rs := [8]) (by kernel_rfl) (by simp) ?_
        refine AllReadyH.cons (o := ?oi11) ?hi11 ?ti11 AllReadyH.nil
        case hi11 => (simp only [List.getElem?_toArray, List.getElem?_cons_succ, List.getElem?_cons_zero]; rfl)
        case ti11 =>
          intro KQ hKQ
          go_simp
          (go_at_call 15; refine (depth_any _ _ _ _ _ (hT4.ext (by repeat (first | exact Ext.refl' _ | assumption | apply Ext.ex' | apply Ext.al | apply Ext.drN | apply Ext.dr)))).mono ?_; rintro e w1 ⟨rfl, rfl⟩)
          refine hKQ.out _ _ (by simp [go_sem, ↓IntWalk.iteOmega, *]) (fun hHeld2 => ?_)
          clear hHeld hKQ KQ; have hHeld := hHeld2; clear hHeld2
          (try simp only [Act.put, List.setIfInBounds_toArray, List.set_cons_zero, List.set_cons_succ])
          refine wpAnyH_take (i := 11) (oi := ?oi12) (v := ?v12) ?hi12 (by kernel_rfl) (by kernel_rfl) (by kernel_rfl) ?hQ12 ?hy12 (by assumption) ?_
          case hi12 => (simp only [List.getElem?_toArray, List.getElem?_cons_succ, List.getElem?_cons_zero]; rfl)
          case hQ12 => exact fun _ _ _ h => h
          case hy12 => (refine Or.inl ⟨by rfl, ?_⟩; intro wq hSw; (try dsimp only at hSw); go_simp; (try with_reducible rfl))
          (try simp only [Act.put, List.setIfInBounds_toArray, List.set_cons_zero, List.set_cons_succ])
          refine wpAnyH_take (i := 12) (oi := ?oi13) (v := ?v13) ?hi13 (by kernel_rfl) (by kernel_rfl) (by kernel_rfl) ?hQ13 ?hy13 (by assumption) ?_
          case hi13 => (simp only [List.getElem?_toArray, List.getElem?_cons_succ, List.getElem?_cons_zero]; rfl)
          case hQ13 => exact fun _ _ _ h => h
          case hy13 => (refine Or.inl ⟨by rfl, ?_⟩; intro wq hSw; (try dsimp only at hSw); go_simp; (try with_reducible rfl))
          (try simp only [Act.put, List.setIfInBounds_toArray, List.set_cons_zero, List.set_cons_succ])
          refine wpAnyH_take (i := 13) (oi := ?oi14) (v := ?v14) ?hi14 (by kernel_rfl) (by kernel_rfl) (by kernel_rfl) ?hQ14 ?hy14 (by assumption) ?_
          case hi14 => (simp only [List.getElem?_toArray, List.getElem?_cons_succ, List.getElem?_cons_zero]; rfl)
          case hQ14 => exact fun _ _ _ h => h
          case hy14 => (refine Or.inl ⟨by rfl, ?_⟩; intro wq hSw; (try dsimp only at hSw); go_simp; (try with_reducible rfl))
          (try simp only [Act.put, List.setIfInBounds_toArray, List.set_cons_zero, List.set_cons_succ])
          refine wpAnyH_take (i := 14) (oi := ?oi15) (v := ?v15) ?hi15 (by kernel_rfl) (by kernel_rfl) (by kernel_rfl) ?hQ15 ?hy15 (by assumption) ?_
          case hi15 => (simp only [List.getElem?_toArray, List.getElem?_cons_succ, List.getElem?_cons_zero]; rfl)
          case hQ15 => exact fun _ _ _ h => h
          case hy15 => (refine Or.inl ⟨by rfl, ?_⟩; intro wq hSw; (try dsimp only at hSw); go_simp; (try with_reducible rfl))
          (try simp only [Act.put, List.setIfInBounds_toArray, List.set_cons_zero, List.set_cons_succ])
          refine wpAnyH_take (i := 15) (oi := ?oi16) (v := ?v16) ?hi16 (by kernel_rfl) (by kernel_rfl) (by kernel_rfl) ?hQ16 ?hy16 (by assumption) ?_
          case hi16 => (simp only [List.getElem?_toArray, List.getElem?_cons_succ, List.getElem?_cons_zero]; rfl)
          case hQ16 => exact fun _ _ _ h => h
          case hy16 => (refine Or.inl ⟨by rfl, ?_⟩; intro wq hSw; (try dsimp only at hSw); go_simp; (try with_reducible rfl))
          (try simp only [Act.put, List.setIfInBounds_toArray, List.set_cons_zero, List.set_cons_succ])
          refine wpAnyH_take (i := 16) (oi := ?oi17) (v := ?v17) ?hi17 (by kernel_rfl) (by kernel_rfl) (by kernel_rfl) ?hQ17 ?hy17 (by assumption) ?_
          case hi17 => (simp only [List.getElem?_toArray, List.getElem?_cons_succ, List.getElem?_cons_zero]; rfl)
          case hQ17 => exact fun _ _ _ h => h
          case hy17 => (refine Or.inl ⟨by rfl, ?_⟩; intro wq hSw; (try dsimp only at hSw); go_simp; (try with_reducible rfl))
          (try simp only [Act.put, List.setIfInBounds_toArray, List.set_cons_zero, List.set_cons_succ])
          refine wpAnyH_take (i := 17) (oi := ?oi18) (v := ?v18) ?hi18 (by kernel_rfl) (by kernel_rfl) (by kernel_rfl) ?hQ18 ?hy18 (by assumption) ?_
          case hi18 => (simp only [List.getElem?_toArray, List.getElem?_cons_succ, List.getElem?_cons_zero]; rfl)
          case hQ18 => exact fun _ _ _ h => h
          case hy18 => (refine Or.inl ⟨by rfl, ?_⟩; intro wq hSw; (try dsimp only at hSw); go_simp; (try with_reducible rfl))
          (try simp only [Act.put, List.setIfInBounds_toArray, List.set_cons_zero, List.set_cons_succ])
          refine wpAnyH_take (i := 18) (oi := ?oi19) (v := ?v19) ?hi19 (by kernel_rfl) (by kernel_rfl) (by kernel_rfl) ?hQ19 ?hy19 (by assumption) ?_
          case hi19 => (simp only [List.getElem?_toArray, List.getElem?_cons_succ, List.getElem?_cons_zero]; rfl)
          case hQ19 => exact fun _ _ _ h => h
          case hy19 => (refine Or.inl ⟨by rfl, ?_⟩; intro wq hSw; (try dsimp only at hSw); go_simp; (try with_reducible rfl))
          (try simp only [Act.put, List.setIfInBounds_toArray, List.set_cons_zero, List.set_cons_succ])
          refine wpAnyH_take (i := 19) (oi := ?oi20) (v := ?v20) ?hi20 (by kernel_rfl) (by kernel_rfl) (by kernel_rfl) ?hQ20 ?hy20 (by assumption) ?_
          case hi20 => (simp only [List.getElem?_toArray, List.getElem?_cons_succ, List.getElem?_cons_zero]; rfl)
          case hQ20 => exact fun _ _ _ h => h
          case hy20 => (refine Or.inl ⟨by rfl, ?_⟩; intro wq hSw; (try dsimp only at hSw); go_simp; (try with_reducible rfl))
          (try simp only [Act.put, List.setIfInBounds_toArray, List.set_cons_zero, List.set_cons_succ])
          refine wpAnyH_take (i := 20) (oi := ?oi21) (v := ?v21) ?hi21 (by kernel_rfl) (by kernel_rfl) (by kernel_rfl) ?hQ21 ?hy21 (by assumption) ?_
          case hi21 => (simp only [List.getElem?_toArray, List.getElem?_cons_succ, List.getElem?_cons_zero]; rfl)
          case hQ21 => exact fun _ _ _ h => h
          case hy21 => (refine Or.inl ⟨by rfl, ?_⟩; intro wq hSw; (try dsimp only at hSw); go_simp; (try with_reducible rfl))
          (try simp only [Act.put, List.setIfInBounds_toArray, List.set_cons_zero, List.set_cons_succ])
          refine wpAnyH_take (i := 21) (oi := ?oi22) (v := ?v22) ?hi22 (by kernel_rfl) (by kernel_rfl) (by kernel_rfl) ?hQ22 ?hy22 (by assumption) ?_
          case hi22 => (simp only [List.getElem?_toArray, List.getElem?_cons_succ, List.getElem?_cons_zero]; rfl)
          case hQ22 => exact fun _ _ _ h => h
          case hy22 => (refine Or.inl ⟨by rfl, ?_⟩; intro wq hSw; (try dsimp only at hSw); go_simp; (try with_reducible rfl))
          (try simp only [Act.put, List.setIfInBounds_toArray, List.set_cons_zero, List.set_cons_succ])
          refine wpAnyH_take (i := 22) (oi := ?oi23) (v := ?v23) ?hi23 (by kernel_rfl) (by kernel_rfl) (by kernel_rfl) ?hQ23 ?hy23 (by assumption) ?_
          case hi23 => (simp only [List.getElem?_toArray, List.getElem?_cons_succ, List.getElem?_cons_zero]; rfl)
          case hQ23 => exact fun _ _ _ h => h
          case hy23 => (refine Or.inl ⟨by rfl, ?_⟩; intro wq hSw; (try dsimp only at hSw); go_simp; (try with_reducible rfl))
          (try simp only [Act.put, List.setIfInBounds_toArray, List.set_cons_zero, List.set_cons_succ])
          refine wpAnyH_take (i := 23) (oi := ?oi24) (v := ?v24) ?hi24 (by kernel_rfl) (by kernel_rfl) (by kernel_rfl) ?hQ24 ?hy24 (by assumption) ?_
          case hi24 => (simp only [List.getElem?_toArray, List.getElem?_cons_succ, List.getElem?_cons_zero]; rfl)
          case hQ24 => exact fun _ _ _ h => h
          case hy24 => (refine Or.inl ⟨by rfl, ?_⟩; intro wq hSw; (try dsimp only at hSw); go_simp; (try with_reducible rfl))
          (try simp only [Act.put, List.setIfInBounds_toArray, List.set_cons_zero, List.set_cons_succ])
          refine wpAnyH_ready (rs := [24]) (by kernel_rfl) (by simp) ?_
          refine AllReadyH.cons (o := ?oi25) ?hi25 ?ti25 AllReadyH.nil
          case hi25 => (simp only [List.getElem?_toArray, List.getElem?_cons_succ, List.getElem?_cons_zero]; rfl)
          case ti25 =>
            intro KQ hKQ
            go_simp
            (go_at_call 9; refine (works_any _).mono ?_; rintro e w1 ⟨rfl, hb1⟩; obtain ⟨z, rfl⟩ := hb1.get; clear hb1)
            refine hKQ.out _ _ (by simp [go_sem, ↓IntWalk.iteOmega, *]) (fun hHeld2 => ?_)
            clear hHeld hKQ KQ; have hHeld := hHeld2; clear hHeld2
            (try simp only [Act.put, List.setIfInBounds_toArray, List.set_cons_zero, List.set_cons_succ])
            refine wpAnyH_take (i := 25) (oi := ?oi26) (v := ?v26) ?hi26 (by kernel_rfl) (by kernel_rfl) (by kernel_rfl) ?hQ26 ?hy26 (by assumption) ?_
            case hi26 => (simp only [List.getElem?_toArray, List.getElem?_cons_succ, List.getElem?_cons_zero]; rfl)
            case hQ26 => exact fun _ _ _ h => h
            case hy26 => (refine Or.inl ⟨by rfl, ?_⟩; intro wq hSw; (try dsimp only at hSw); go_simp; (try with_reducible rfl))
            (try simp only [Act.put, List.setIfInBounds_toArray, List.set_cons_zero, List.set_cons_succ])
            refine wpAnyH_take (i := 26) (oi := ?oi27) (v := ?v27) ?hi27 (by kernel_rfl) (by kernel_rfl) (by kernel_rfl) ?hQ27 ?hy27 (by assumption) ?_
            case hi27 => (simp only [List.getElem?_toArray, List.getElem?_cons_succ, List.getElem?_cons_zero]; rfl)
            case hQ27 => exact fun _ _ _ h => h
            case hy27 => (refine Or.inl ⟨by rfl, ?_⟩; intro wq hSw; (try dsimp only at hSw); go_simp; (try with_reducible rfl))
            (try simp only [Act.put, List.setIfInBounds_toArray, List.set_cons_zero, List.set_cons_succ])
            refine wpAnyH_done (by kernel_rfl) ?_ _
            go_wp2
            go_ret
            exact ⟨rfl, hE0.tr (by repeat (first | exact Ext.refl' _ | assumption | apply Ext.ex' | apply Ext.al | apply Ext.drN | apply Ext.dr))⟩
    · go_wp2_with fail
      refine Calls.mono key ?_
      clear key
      rintro e w3 ⟨rfl, hb3⟩
      have hsz1 : w2.heap.size < w3.heap.size := by have h1 := hb3.size; simp at h1; omega
      have x0 : w3.cell? ⟨w2.heap.size, 0, none⟩ = some (.int .i64 wx) := hb3.cell' (by simp [go_sem, ↓IntWalk.iteOmega])
      have x1 : w3.cell? ⟨w2.heap.size, 1, none⟩ = some (.slice Ax Lo.length cx) := hb3.cell' (by simp [go_sem, ↓IntWalk.iteOmega])
      have x2 : w3.cell? ⟨w2.heap.size, 2, none⟩ = some (.int .i64 rxx.1.1) := hb3.cell' (by simp [go_sem, ↓IntWalk.iteOmega])
      have x3 : w3.cell? ⟨w2.heap.size, 3, none⟩ = some (.int .i64 rxx.1.2) := hb3.cell' (by simp [go_sem, ↓IntWalk.iteOmega])
      have x4 : w3.cell? ⟨w2.heap.size, 4, none⟩ = some (.int .i64 rxx.2.1) := hb3.cell' (by simp [go_sem, ↓IntWalk.iteOmega])
      have x5 : w3.cell? ⟨w2.heap.size, 5, none⟩ = some (.int .i64 rxx.2.2) := hb3.cell' (by simp [go_sem, ↓IntWalk.iteOmega])
      have x6 : w3.cell? ⟨w2.heap.size, 6, none⟩ = some (.slice Au nu cu) := hb3.cell' (by simp [go_sem, ↓IntWalk.iteOmega])
      have x7 : w3.cell? ⟨w2.heap.size, 7, none⟩ = some (.slice Av nv cv) := hb3.cell' (by simp [go_sem, ↓IntWalk.iteOmega])
      have x8 : w3.cell? ⟨w2.heap.size, 8, none⟩ = some (.int .i64 d0) := hb3.cell' (by simp [go_sem, ↓IntWalk.iteOmega])
      go_wp2_with fail
      refine Calls.mono (HRBo.out _ ((hX.ext (by repeat (first | exact Ext.refl' _ | assumption | apply Ext.ex' | apply Ext.al | apply Ext.drN | apply Ext.dr))).ext (hb3.tr (by repeat (first | exact Ext.refl' _ | assumption | apply Ext.ex' | apply Ext.al | apply Ext.drN | apply Ext.dr))))) ?_
      rintro e w4 ⟨rfl, hb4⟩
      have hE34 := hb3.tr (Ext.tr (by repeat (first | exact Ext.refl' _ | assumption | apply Ext.ex' | apply Ext.al | apply Ext.drN | apply Ext.dr)) hb4)
      have hE0 : Ext w w4 := hE2.tr (Ext.tr (by repeat (first | exact Ext.refl' _ | assumption | apply Ext.ex' | apply Ext.al | apply Ext.drN | apply Ext.dr)) hE34)
      have hT4 := HT.out.ext (Ext.tr (by repeat (first | exact Ext.refl' _ | assumption | apply Ext.ex' | apply Ext.al | apply Ext.drN | apply Ext.dr)) hE34)
      have z0 : w4.cell? ⟨w2.heap.size, 0, none⟩ = some (.int .i64 wx) := hb4.cell' (by simp [go_sem, ↓IntWalk.iteOmega, x0])
      have z1 : w4.cell? ⟨w2.heap.size, 1, none⟩ = some (.slice Ax Lo.length cx) := hb4.cell' (by simp [go_sem, ↓IntWalk.iteOmega, x1])
      have z2 : w4.cell? ⟨w2.heap.size, 2, none⟩ = some (.int .i64 rxx.1.1) := hb4.cell' (by simp [go_sem, ↓IntWalk.iteOmega, x2])
      have z3 : w4.cell? ⟨w2.heap.size, 3, none⟩ = some (.int .i64 rxx.1.2) := hb4.cell' (by simp [go_sem, ↓IntWalk.iteOmega, x3])
      have z4 : w4.cell? ⟨w2.heap.size, 4, none⟩ = some (.int .i64 rxx.2.1) := hb4.cell' (by simp [go_sem, ↓IntWalk.iteOmega, x4])
      have z5 : w4.cell? ⟨w2.heap.size, 5, none⟩ = some (.int .i64 rxx.2.2) := hb4.cell' (by simp [go_sem, ↓IntWalk.iteOmega, x5])
      have z6 : w4.cell? ⟨w2.heap.size, 6, none⟩ = some (.slice Au nu cu) := hb4.cell' (by simp [go_sem, ↓IntWalk.iteOmega, x6])
      have z7 : w4.cell? ⟨w2.heap.size, 7, none⟩ = some (.slice Av nv cv) := hb4.cell' (by simp [go_sem, ↓IntWalk.iteOmega, x7])
      have z8 : w4.cell? ⟨w2.heap.size, 8, none⟩ = some (.int .i64 d0) := hb4.cell' (by simp [go_sem, ↓IntWalk.iteOmega, x8])
      have b0 : w4.cell? ⟨w3.heap.size, 0, none⟩ = some (.int .i64 rc.1.1) := hb4.cell' (by simp [go_sem, ↓IntWalk.iteOmega])
      have b1 : w4.cell? ⟨w3.heap.size, 1, none⟩ = some (.int .i64 rc.1.2) := hb4.cell' (by simp [go_sem, ↓IntWalk.iteOmega])
      have b2 : w4.cell? ⟨w3.heap.size, 2, none⟩ = some (.int .i64 rc.2.1) := hb4.cell' (by simp [go_sem, ↓IntWalk.iteOmega])
      have b3 : w4.cell? ⟨w3.heap.size, 3, none⟩ = some (.int .i64 rc.2.2) := hb4.cell' (by simp [go_sem, ↓IntWalk.iteOmega])
      have hsz : w2.heap.size < w3.heap.size ∧ w3.heap.size < w4.heap.size := by have h1 := hb3.size; have h2 := hb4.size; simp at h1 h2; omega
      clear hb3 hb4 hE34 hsz1 x0 x1 x2 x3 x4 x5 x6 x7 x8
      go_wp2
      refine wp_region_held_drew (S := (fun w' => w'.cell? ⟨w2.heap.size, 0, none⟩ = some (.int .i64 wx) ∧ w'.cell? ⟨w2.heap.size, 1, none⟩ = some (.slice Ax Lo.length cx) ∧ w'.cell? ⟨w2.heap.size, 2, none⟩ = some (.int .i64 rxx.1.1) ∧ w'.cell? ⟨w2.heap.size, 3, none⟩ = some (.int .i64 rxx.1.2) ∧ w'.cell? ⟨w2.heap.size, 4, none⟩ = some (.int .i64 rxx.2.1) ∧ w'.cell? ⟨w2.heap.size, 5, none⟩ = some (.int .i64 rxx.2.2) ∧ w'.cell? ⟨w2.heap.size, 6, none⟩ = some (.slice Au nu cu) ∧ w'.cell? ⟨w2.heap.size, 7, none⟩ = some (.slice Av nv cv) ∧ w'.cell? ⟨w2.heap.size, 8, none⟩ = some (.int .i64 d0) ∧ w'.cell? ⟨w3.heap.size, 0, none⟩ = some (.int .i64 rc.1.1) ∧ w'.cell? ⟨w3.heap.size, 1, none⟩ = some (.int .i64 rc.1.2) ∧ w'.cell? ⟨w3.heap.size, 2, none⟩ = some (.int .i64 rc.2.1) ∧ w'.cell? ⟨w3.heap.size, 3, none⟩ = some (.int .i64 rc.2.2) ∧ w'.cell? ⟨w4.heap.size, 0, none⟩ = some (.int .i64 rc.1.1) ∧ w'.cell? ⟨w4.heap.size, 1, none⟩ = some (.int .i64 rc.1.2) ∧ w'.cell? ⟨w4.heap.size, 2, none⟩ = some (.int .i64 rc.2.1) ∧ w'.cell? ⟨w4.heap.size, 3, none⟩ = some (.int .i64 rc.2.2))) (by kernel_rfl) (by simp [go_sem, ↓IntWalk.iteOmega, *]) (fun hHeld => ?_)
      refine wpAnyH_take (i := 0) (oi := ?oi1001) (v := ?v1001) ?hi1001 (by kernel_rfl) (by kernel_rfl) (by kernel_rfl) ?hQ1001 ?hy1001 (by assumption) ?_
      case hi1001 => (simp only [List.getElem?_toArray, List.getElem?_cons_succ, List.getElem?_cons_zero]; rfl)
      case hQ1001 => exact fun _ _ _ h => h
      case hy1001 => (refine Or.inl ⟨by rfl, ?_⟩; intro wq hSw; (try dsimp only at hSw); go_simp; (try with_reducible rfl))
      (try simp only [Act.put, List.setIfInBounds_toArray, List.set_cons_zero, List.set_cons_succ])
      refine wpAnyH_take (i := 2) (oi := ?oi1002) (v := ?v1002) ?hi1002 (by kernel_rfl) (by kernel_rfl) (by kernel_rfl) ?hQ1002 ?hy1002 (by assumption) ?_
      case hi1002 => (simp only [List.getElem?_toArray, List.getElem?_cons_succ, List.getElem?_cons_zero]; rfl)
      case hQ1002 => exact fun _ _ _ h => h
      case hy1002 => (refine Or.inl ⟨by rfl, ?_⟩; intro wq hSw; (try dsimp only at hSw); go_simp; (try with_reducible rfl))
      (try simp only [Act.put, List.setIfInBounds_toArray, List.set_cons_zero, List.set_cons_succ])
      refine wpAnyH_take (i := 3) (oi := ?oi1003) (v := ?v1003) ?hi1003 (by kernel_rfl) (by kernel_rfl) (by kernel_rfl) ?hQ1003 ?hy1003 (by assumption) ?_
      case hi1003 => (simp only [List.getElem?_toArray, List.getElem?_cons_succ, List.getElem?_cons_zero]; rfl)
      case hQ1003 => exact fun _ _ _ h => h
      case hy1003 => (refine Or.inl ⟨by rfl, ?_⟩; intro wq hSw; (try dsimp only at hSw); go_simp; (try with_reducible rfl))
      (try simp only [Act.put, List.setIfInBounds_toArray, List.set_cons_zero, List.set_cons_succ])
      refine wpAnyH_take (i := 4) (oi := ?oi1004) (v := ?v1004) ?hi1004 (by kernel_rfl) (by kernel_rfl) (by kernel_rfl) ?hQ1004 ?hy1004 (by assumption) ?_
      case hi1004 => (simp only [List.getElem?_toArray, List.getElem?_cons_succ, List.getElem?_cons_zero]; rfl)
      case hQ1004 => exact fun _ _ _ h => h
      case hy1004 => (refine Or.inl ⟨by rfl, ?_⟩; intro wq hSw; (try dsimp only at hSw); go_simp; (try with_reducible rfl))
      (try simp only [Act.put, List.setIfInBounds_toArray, List.set_cons_zero, List.set_cons_succ])
      refine wpAnyH_ready (rs := [1]) (by kernel_rfl) (by simp) ?_
      refine AllReadyH.cons (o := ?oi1005) ?hi1005 ?ti1005 AllReadyH.nil
      case hi1005 => (simp only [List.getElem?_toArray, List.getElem?_cons_succ, List.getElem?_cons_zero]; rfl)
      case ti1005 =>
        intro KQ hKQ
        go_simp
        (go_at_call 14; refine (len_any _ _ _ _ _ (hT4.ext (by repeat (first | exact Ext.refl' _ | assumption | apply Ext.ex' | apply Ext.al | apply Ext.drN | apply Ext.dr)))).mono ?_; rintro e w1 ⟨rfl, rfl⟩)
        refine hKQ.out _ _ (by simp [go_sem, ↓IntWalk.iteOmega, *]) (fun hHeld2 => ?_)
        clear hHeld hKQ KQ; have hHeld := hHeld2; clear hHeld2
        (try simp only [Act.put, List.setIfInBounds_toArray, List.set_cons_zero, List.set_cons_succ])
        refine wpAnyH_take (i := 5) (oi := ?oi1006) (v := ?v1006) ?hi1006 (by kernel_rfl) (by kernel_rfl) (by kernel_rfl) ?hQ1006 ?hy1006 (by assumption) ?_
        case hi1006 => (simp only [List.getElem?_toArray, List.getElem?_cons_succ, List.getElem?_cons_zero]; rfl)
        case hQ1006 => exact fun _ _ _ h => h
        case hy1006 => (refine Or.inl ⟨by rfl, ?_⟩; intro wq hSw; (try dsimp only at hSw); go_simp; (try with_reducible rfl))
        (try simp only [Act.put, List.setIfInBounds_toArray, List.set_cons_zero, List.set_cons_succ])
        refine wpAnyH_take (i := 6) (oi := ?oi1007) (v := ?v1007) ?hi1007 (by kernel_rfl) (by kernel_rfl) (by kernel_rfl) ?hQ1007 ?hy1007 (by assumption) ?_
        case hi1007 => (simp only [List.getElem?_toArray, List.getElem?_cons_succ, List.getElem?_cons_zero]; rfl)
        case hQ1007 => exact fun _ _ _ h => h
        case hy1007 => (refine Or.inl ⟨by rfl, ?_⟩; intro wq hSw; (try dsimp only at hSw); go_simp; (try with_reducible rfl))
        (try simp only [Act.put, List.setIfInBounds_toArray, List.set_cons_zero, List.set_cons_succ])
        refine wpAnyH_take (i := 7) (oi := ?oi1008) (v := ?v1008) ?hi1008 (by kernel_rfl) (by kernel_rfl) (by kernel_rfl) ?hQ1008 ?hy1008 (by assumption) ?_
        case hi1008 => (simp only [List.getElem?_toArray, List.getElem?_cons_succ, List.getElem?_cons_zero]; rfl)
        case hQ1008 => exact fun _ _ _ h => h
        case hy1008 => (refine Or.inl ⟨by rfl, ?_⟩; intro wq hSw; (try dsimp only at hSw); go_simp; (try with_reducible rfl))
        (try simp only [Act.put, List.setIfInBounds_toArray, List.set_cons_zero, List.set_cons_succ])
        refine wpAnyH_take (i := 9) (oi := ?oi1009) (v := ?v1009) ?hi1009 (by kernel_rfl) (by kernel_rfl) (by kernel_rfl) ?hQ1009 ?hy1009 (by assumption) ?_
        case hi1009 => (simp only [List.getElem?_toArray, List.getElem?_cons_succ, List.getElem?_cons_zero]; rfl)
        case hQ1009 => exact fun _ _ _ h => h
        case hy1009 => (refine Or.inl ⟨by rfl, ?_⟩; intro wq hSw; (try dsimp only at hSw); go_simp; (try with_reducible rfl))
        (try simp only [Act.put, List.setIfInBounds_toArray, List.set_cons_zero, List.set_cons_succ])
        refine wpAnyH_take (i := 10) (oi := ?oi1010) (v := ?v1010) ?hi1010 (by kernel_rfl) (by kernel_rfl) (by kernel_rfl) ?hQ1010 ?hy1010 (by assumption) ?_
        case hi1010 => (simp only [List.getElem?_toArray, List.getElem?_cons_succ, List.getElem?_cons_zero]; rfl)
        case hQ1010 => exact fun _ _ _ h => h
        case hy1010 => (refine Or.inl ⟨by rfl, ?_⟩; intro wq hSw; (try dsimp only at hSw); go_simp; (try with_reducible rfl))
        (try simp only [Act.put, List.setIfInBounds_toArray, List.set_cons_zero, List.set_cons_succ])
        refine wpAnyH_ready (rs := [8]) (by kernel_rfl) (by simp) ?_
        refine AllReadyH.cons (o := ?oi1011) ?hi1011 ?ti1011 AllReadyH.nil
        case hi1011 => (simp only [List.getElem?_toArray, List.getElem?_cons_succ, List.getElem?_cons_zero]; rfl)
        case ti1011 =>
          intro KQ hKQ
          go_simp
          (go_at_call 15; refine (depth_any _ _ _ _ _ (hT4.ext (by repeat (first | exact Ext.refl' _ | assumption | apply Ext.ex' | apply Ext.al | apply Ext.drN | apply Ext.dr)))).mono ?_; rintro e w1 ⟨rfl, rfl⟩)
          refine hKQ.out _ _ (by simp [go_sem, ↓IntWalk.iteOmega, *]) (fun hHeld2 => ?_)
          clear hHeld hKQ KQ; have hHeld := hHeld2; clear hHeld2
          (try simp only [Act.put, List.setIfInBounds_toArray, List.set_cons_zero, List.set_cons_succ])
          refine wpAnyH_take (i := 11) (oi := ?oi1012) (v := ?v1012) ?hi1012 (by kernel_rfl) (by kernel_rfl) (by kernel_rfl) ?hQ1012 ?hy1012 (by assumption) ?_
          case hi1012 => (simp only [List.getElem?_toArray, List.getElem?_cons_succ, List.getElem?_cons_zero]; rfl)
          case hQ1012 => exact fun _ _ _ h => h
          case hy1012 => (refine Or.inl ⟨by rfl, ?_⟩; intro wq hSw; (try dsimp only at hSw); go_simp; (try with_reducible rfl))
          (try simp only [Act.put, List.setIfInBounds_toArray, List.set_cons_zero, List.set_cons_succ])
          refine wpAnyH_take (i := 12) (oi := ?oi1013) (v := ?v1013) ?hi1013 (by kernel_rfl) (by kernel_rfl) (by kernel_rfl) ?hQ1013 ?hy1013 (by assumption) ?_
          case hi1013 => (simp only [List.getElem?_toArray, List.getElem?_cons_succ, List.getElem?_cons_zero]; rfl)
          case hQ1013 => exact fun _ _ _ h => h
          case hy1013 => (refine Or.inl ⟨by rfl, ?_⟩; intro wq hSw; (try dsimp only at hSw); go_simp; (try with_reducible rfl))
          (try simp only [Act.put, List.setIfInBounds_toArray, List.set_cons_zero, List.set_cons_succ])
          refine wpAnyH_take (i := 13) (oi := ?oi1014) (v := ?v1014) ?hi1014 (by kernel_rfl) (by kernel_rfl) (by kernel_rfl) ?hQ1014 ?hy1014 (by assumption) ?_
          case hi1014 => (simp only [List.getElem?_toArray, List.getElem?_cons_succ, List.getElem?_cons_zero]; rfl)
          case hQ1014 => exact fun _ _ _ h => h
          case hy1014 => (refine Or.inl ⟨by rfl, ?_⟩; intro wq hSw; (try dsimp only at hSw); go_simp; (try with_reducible rfl))
          (try simp only [Act.put, List.setIfInBounds_toArray, List.set_cons_zero, List.set_cons_succ])
          refine wpAnyH_take (i := 14) (oi := ?oi1015) (v := ?v1015) ?hi1015 (by kernel_rfl) (by kernel_rfl) (by kernel_rfl) ?hQ1015 ?hy1015 (by assumption) ?_
          case hi1015 => (simp only [List.getElem?_toArray, List.getElem?_cons_succ, List.getElem?_cons_zero]; rfl)
          case hQ1015 => exact fun _ _ _ h => h
          case hy1015 => (refine Or.inl ⟨by rfl, ?_⟩; intro wq hSw; (try dsimp only at hSw); go_simp; (try with_reducible rfl))
          (try simp only [Act.put, List.setIfInBounds_toArray, List.set_cons_zero, List.set_cons_succ])
          refine wpAnyH_take (i := 15) (oi := ?oi1016) (v := ?v1016) ?hi1016 (by kernel_rfl) (by kernel_rfl) (by kernel_rfl) ?hQ1016 ?hy1016 (by assumption) ?_
          case hi1016 => (simp only [List.getElem?_toArray, List.getElem?_cons_succ, List.getElem?_cons_zero]; rfl)
          case hQ1016 => exact fun _ _ _ h => h
          case hy1016 => (refine Or.inl ⟨by rfl, ?_⟩; intro wq hSw; (try dsimp only at hSw); go_simp; (try with_reducible rfl))
          (try simp only [Act.put, List.setIfInBounds_toArray, List.set_cons_zero, List.set_cons_succ])
          refine wpAnyH_take (i := 16) (oi := ?oi1017) (v := ?v1017) ?hi1017 (by kernel_rfl) (by kernel_rfl) (by kernel_rfl) ?hQ1017 ?hy1017 (by assumption) ?_
          case hi1017 => (simp only [List.getElem?_toArray, List.getElem?_cons_succ, List.getElem?_cons_zero]; rfl)
          case hQ1017 => exact fun _ _ _ h => h
          case hy1017 => (refine Or.inl ⟨by rfl, ?_⟩; intro wq hSw; (try dsimp only at hSw); go_simp; (try with_reducible rfl))
          (try simp only [Act.put, List.setIfInBounds_toArray, List.set_cons_zero, List.set_cons_succ])
          refine wpAnyH_take (i := 17) (oi := ?oi1018) (v := ?v1018) ?hi1018 (by kernel_rfl) (by kernel_rfl) (by kernel_rfl) ?hQ1018 ?hy1018 (by assumption) ?_
          case hi1018 => (simp only [List.getElem?_toArray, List.getElem?_cons_succ, List.getElem?_cons_zero]; rfl)
          case hQ1018 => exact fun _ _ _ h => h
          case hy1018 => (refine Or.inl ⟨by rfl, ?_⟩; intro wq hSw; (try dsimp only at hSw); go_simp; (try with_reducible rfl))
          (try simp only [Act.put, List.setIfInBounds_toArray, List.set_cons_zero, List.set_cons_succ])
          refine wpAnyH_take (i := 18) (oi := ?oi1019) (v := ?v1019) ?hi1019 (by kernel_rfl) (by kernel_rfl) (by kernel_rfl) ?hQ1019 ?hy1019 (by assumption) ?_
          case hi1019 => (simp only [List.getElem?_toArray, List.getElem?_cons_succ, List.getElem?_cons_zero]; rfl)
          case hQ1019 => exact fun _ _ _ h => h
          case hy1019 => (refine Or.inl ⟨by rfl, ?_⟩; intro wq hSw; (try dsimp only at hSw); go_simp; (try with_reducible rfl))
          (try simp only [Act.put, List.setIfInBounds_toArray, List.set_cons_zero, List.set_cons_succ])
          refine wpAnyH_take (i := 19) (oi := ?oi1020) (v := ?v1020) ?hi1020 (by kernel_rfl) (by kernel_rfl) (by kernel_rfl) ?hQ1020 ?hy1020 (by assumption) ?_
          case hi1020 => (simp only [List.getElem?_toArray, List.getElem?_cons_succ, List.getElem?_cons_zero]; rfl)
          case hQ1020 => exact fun _ _ _ h => h
          case hy1020 => (refine Or.inl ⟨by rfl, ?_⟩; intro wq hSw; (try dsimp only at hSw); go_simp; (try with_reducible rfl))
          (try simp only [Act.put, List.setIfInBounds_toArray, List.set_cons_zero, List.set_cons_succ])
          refine wpAnyH_take (i := 20) (oi := ?oi1021) (v := ?v1021) ?hi1021 (by kernel_rfl) (by kernel_rfl) (by kernel_rfl) ?hQ1021 ?hy1021 (by assumption) ?_
          case hi1021 => (simp only [List.getElem?_toArray, List.getElem?_cons_succ, List.getElem?_cons_zero]; rfl)
          case hQ1021 => exact fun _ _ _ h => h
          case hy1021 => (refine Or.inl ⟨by rfl, ?_⟩; intro wq hSw; (try dsimp only at hSw); go_simp; (try with_reducible rfl))
          (try simp only [Act.put, List.setIfInBounds_toArray, List.set_cons_zero, List.set_cons_succ])
          refine wpAnyH_take (i := 21) (oi := ?oi1022) (v := ?v1022) ?hi1022 (by kernel_rfl) (by kernel_rfl) (by kernel_rfl) ?hQ1022 ?hy1022 (by assumption) ?_
          case hi1022 => (simp only [List.getElem?_toArray, List.getElem?_cons_succ, List.getElem?_cons_zero]; rfl)
          case hQ1022 => exact fun _ _ _ h => h
          case hy1022 => (refine Or.inl ⟨by rfl, ?_⟩; intro wq hSw; (try dsimp only at hSw); go_simp; (try with_reducible rfl))
          (try simp only [Act.put, List.setIfInBounds_toArray, List.set_cons_zero, List.set_cons_succ])
          refine wpAnyH_take (i := 22) (oi := ?oi1023) (v := ?v1023) ?hi1023 (by kernel_rfl) (by kernel_rfl) (by kernel_rfl) ?hQ1023 ?hy1023 (by assumption) ?_
          case hi1023 => (simp only [List.getElem?_toArray, List.getElem?_cons_succ, List.getElem?_cons_zero]; rfl)
          case hQ1023 => exact fun _ _ _ h => h
          case hy1023 => (refine Or.inl ⟨by rfl, ?_⟩; intro wq hSw; (try dsimp only at hSw); go_simp; (try with_reducible rfl))
          (try simp only [Act.put, List.setIfInBounds_toArray, List.set_cons_zero, List.set_cons_succ])
          refine wpAnyH_take (i := 23) (oi := ?oi1024) (v := ?v1024) ?hi1024 (by kernel_rfl) (by kernel_rfl) (by kernel_rfl) ?hQ1024 ?hy1024 (by assumption) ?_
          case hi1024 => (simp only [List.getElem?_toArray, List.getElem?_cons_succ, List.getElem?_cons_zero]; rfl)
          case hQ1024 => exact fun _ _ _ h => h
          case hy1024 => (refine Or.inl ⟨by rfl, ?_⟩; intro wq hSw; (try dsimp only at hSw); go_simp; (try with_reducible rfl))
          (try simp only [Act.put, List.setIfInBounds_toArray, List.set_cons_zero, List.set_cons_succ])
          refine wpAnyH_ready (rs := [24]) (by kernel_rfl) (by simp) ?_
          refine AllReadyH.cons (o := ?oi1025) ?hi1025 ?ti1025 AllReadyH.nil
          case hi1025 => (simp only [List.getElem?_toArray, List.getElem?_cons_succ, List.getElem?_cons_zero]; rfl)
          case ti1025 =>
            intro KQ hKQ
            go_simp
            (go_at_call 9; refine (works_any _).mono ?_; rintro e w1 ⟨rfl, hb1⟩; obtain ⟨z, rfl⟩ := hb1.get; clear hb1)
            refine hKQ.out _ _ (by simp [go_sem, ↓IntWalk.iteOmega, *]) (fun hHeld2 => ?_)
            clear hHeld hKQ KQ; have hHeld := hHeld2; clear hHeld2
            (try simp only [Act.put, List.setIfInBounds_toArray, List.set_cons_zero, List.set_cons_succ])
            refine wpAnyH_take (i := 25) (oi := ?oi1026) (v := ?v1026) ?hi1026 (by kernel_rfl) (by kernel_rfl) (by kernel_rfl) ?hQ1026 ?hy1026 (by assumption) ?_
            case hi1026 => (simp only [List.getElem?_toArray, List.getElem?_cons_succ, List.getElem?_cons_zero]; rfl)
            case hQ1026 => exact fun _ _ _ h => h
            case hy1026 => (refine Or.inl ⟨by rfl, ?_⟩; intro wq hSw; (try dsimp only at hSw); go_simp; (try with_reducible rfl))
            (try simp only [Act.put, List.setIfInBounds_toArray, List.set_cons_zero, List.set_cons_succ])
            refine wpAnyH_take (i := 26) (oi := ?oi1027) (v := ?v1027) ?hi1027 (by kernel_rfl) (by kernel_rfl) (by kernel_rfl) ?hQ1027 ?hy1027 (by assumption) ?_
            case hi1027 => (simp only [List.getElem?_toArray, List.getElem?_cons_succ, List.getElem?_cons_zero]; rfl)
            case hQ1027 => exact fun _ _ _ h => h
            case hy1027 => (refine Or.inl ⟨by rfl, ?_⟩; intro wq hSw; (try dsimp only at hSw); go_simp; (try with_reducible rfl))
            (try simp only [Act.put, List.setIfInBounds_toArray, List.set_cons_zero, List.set_cons_succ])
            refine wpAnyH_done (by kernel_rfl) ?_ _
            go_wp2
            go_ret
            exact ⟨rfl, hE0.tr (by repeat (first | exact Ext.refl' _ | assumption | apply Ext.ex' | apply Ext.al | apply Ext.drN | apply Ext.dr))⟩

end Go.Proofs.Ytgobmiahhmajdaa
