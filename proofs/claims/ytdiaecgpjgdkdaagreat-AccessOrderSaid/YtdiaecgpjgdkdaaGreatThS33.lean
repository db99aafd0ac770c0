/- Lemmas for the rows: TrB. -/
import Derived.Test.YtdiaecgpjgdkdaaGreatThS14
import Derived.Test.YtdiaecgpjgdkdaaGreatThS02
import Derived.Shelf.SlSortCmp.InsertionK
import Derived.Test.YtdiaecgpjgdkdaaGreatThS05
set_option linter.unusedSimpArgs false
set_option linter.unusedVariables false
namespace Go.Proofs.YtdiaecgpjgdkdaaGreat
open Go.Shelf Go.RowKit Go.Lib Go.Sort

set_option maxHeartbeats 2000000 in
theorem join_anyT (a b : Rct) (w : World) : Calls Tryz.prog 97 #[rx a, rx b] w fun e w' => e = .returned (rx (jn a b)) ∧ Ext w w' := by
 go_enter Tryz.func97, Tryz.ntmps97
 go_wp2
 go_region_held3 (fun w' => w'.cell? ⟨w.heap.size, 0, none⟩ = some (.int .i64 a.1.1) ∧ w'.cell? ⟨w.heap.size, 1, none⟩ = some (.int .i64 a.1.2) ∧ w'.cell? ⟨w.heap.size, 2, none⟩ = some (.int .i64 a.2.1) ∧ w'.cell? ⟨w.heap.size, 3, none⟩ = some (.int .i64 a.2.2) ∧ w'.cell? ⟨w.heap.size + 1, 0, none⟩ = some (.int .i64 b.1.1) ∧ w'.cell? ⟨w.heap.size + 1, 1, none⟩ = some (.int .i64 b.1.2) ∧ w'.cell? ⟨w.heap.size + 1, 2, none⟩ = some (.int .i64 b.2.1) ∧ w'.cell? ⟨w.heap.size + 1, 3, none⟩ = some (.int .i64 b.2.2)) (simp [go_sem, ↓IntWalk.iteOmega, *]) ((go_at_call 136; refine (hull_any _ _ _).mono ?_; rintro e w1 ⟨rfl, hb1⟩; obtain ⟨x1, rfl⟩ := hb1.get; clear hb1))
 all_goals go_wp2
 all_goals refine bodyPost_ret (v := rx (jn a b)) ?_ rfl ⟨rfl, ex_⟩
 all_goals simp [results, Tryz.results97, go_sem, ↓IntWalk.iteOmega, jn]

def cfX (x y : Bxs) : Int := orF [pcmpI x.1.1 y.1.1, pcmpI x.1.2 y.1.2, cmpI x.2 y.2]
theorem cfX_neg (x y : Bxs) : decide (cfX x y < 0) = ltB x y := by
 unfold ltB
 rw [decide_eq_decide]
 unfold cfX pcmpI cmpI ltX
 simp only [orF]
 split <;> split <;> (repeat' split) <;> omega
theorem swoX : SWO (ltOf cfX) where
 irrefl x := by unfold ltOf; rw [cfX_neg, ltB]; simp [ltX_irrefl]
 trans x y z h1 h2 := by
  unfold ltOf at *; rw [cfX_neg, ltB, decide_eq_true_eq] at *; exact ltX_trans h1 h2
 ntrans x y z h1 h2 := by
  unfold ltOf at *; rw [cfX_neg, ltB, decide_eq_false_iff_not] at *
  intro h
  rcases ltX_tri x y with k | k | k
  ·
   exact h1 k
  ·
   subst k; exact h2 h
  ·
   exact h2 (ltX_trans k h)

set_option maxRecDepth 100000 in
set_option maxHeartbeats 8000000 in
theorem beforeX_any (x y : Bxs) (W : World) : Calls Tryz.prog 57 #[bxg x, bxg y] W fun e w' => e = .returned (.int .i64 (cfX x y)) ∧ ∃ q os', w' = grow (W.drewN q) os' := by
 have HV : Hid (cfX x y = orF [pcmpI x.1.1 y.1.1, pcmpI x.1.2 y.1.2, cmpI x.2 y.2]) := Lib.hid rfl
 have HO := Lib.hid (fun A w h => or_any A [pcmpI x.1.1 y.1.1, pcmpI x.1.2 y.1.2, cmpI x.2 y.2] 3 w h (by simp))
 have H1 := Lib.hid (fun w => pcompare_any x.1.1 y.1.1 w)
 have H2 := Lib.hid (fun w => pcompare_any x.1.2 y.1.2 w)
 have H3 := Lib.hid (fun w => cmpI_any x.2 y.2 w)
 generalize pcmpI x.1.1 y.1.1 = c1 at HV HO H1
 generalize pcmpI x.1.2 y.1.2 = c2 at HV HO H2
 generalize cmpI x.2 y.2 = c3 at HV HO H3
 rw [← HV.out] at HO
 generalize cfX x y = c at HO ⊢
 go_enter Tryz.func57, Tryz.ntmps57
 go_wp2_with fail
 refine wp_region_held_drew (S := (fun w' => w'.cell? ⟨W.heap.size, 0, none⟩ = some (.int .i64 x.1.1.1) ∧ w'.cell? ⟨W.heap.size, 1, none⟩ = some (.int .i64 x.1.1.2) ∧ w'.cell? ⟨W.heap.size, 2, none⟩ = some (.int .i64 x.1.2.1) ∧ w'.cell? ⟨W.heap.size, 3, none⟩ = some (.int .i64 x.1.2.2) ∧ w'.cell? ⟨W.heap.size, 4, none⟩ = some (.int .i64 x.2) ∧ w'.cell? ⟨W.heap.size + 1, 0, none⟩ = some (.int .i64 y.1.1.1) ∧ w'.cell? ⟨W.heap.size + 1, 1, none⟩ = some (.int .i64 y.1.1.2) ∧ w'.cell? ⟨W.heap.size + 1, 2, none⟩ = some (.int .i64 y.1.2.1) ∧ w'.cell? ⟨W.heap.size + 1, 3, none⟩ = some (.int .i64 y.1.2.2) ∧ w'.cell? ⟨W.heap.size + 1, 4, none⟩ = some (.int .i64 y.2))) (by kernel_rfl) (by simp [go_sem, ↓IntWalk.iteOmega, *]) (fun hHeld => ?_)
 refine tkH 0 ?oi1 (?v1) ?hi1 ?hy1 ?_
 case hi1 => (simp only [gA, gS, gZ]; rfl)
 case hy1 => (refine Or.inl ⟨by rfl, ?_⟩; intro wq hSw; (try dsimp only at hSw); go_simp; (try with_reducible rfl))
 (try simp only [Act.put, pA, pZ, pS])
 refine tkH 1 ?oi2 (?v2) ?hi2 ?hy2 ?_
 case hi2 => (simp only [gA, gS, gZ]; rfl)
 case hy2 => (refine Or.inl ⟨by rfl, ?_⟩; intro wq hSw; (try dsimp only at hSw); go_simp; (try with_reducible rfl))
 (try simp only [Act.put, pA, pZ, pS])
 refine tkH 2 ?oi3 (?v3) ?hi3 ?hy3 ?_
 case hi3 => (simp only [gA, gS, gZ]; rfl)
 case hy3 => (refine Or.inl ⟨by rfl, ?_⟩; intro wq hSw; (try dsimp only at hSw); go_simp; (try with_reducible rfl))
 (try simp only [Act.put, pA, pZ, pS])
 refine tkH 3 ?oi4 (?v4) ?hi4 ?hy4 ?_
 case hi4 => (simp only [gA, gS, gZ]; rfl)
 case hy4 => (refine Or.inl ⟨by rfl, ?_⟩; intro wq hSw; (try dsimp only at hSw); go_simp; (try with_reducible rfl))
 (try simp only [Act.put, pA, pZ, pS])
 refine tkH 4 ?oi5 (?v5) ?hi5 ?hy5 ?_
 case hi5 => (simp only [gA, gS, gZ]; rfl)
 case hy5 => (refine Or.inl ⟨by rfl, ?_⟩; intro wq hSw; (try dsimp only at hSw); go_simp; (try with_reducible rfl))
 (try simp only [Act.put, pA, pZ, pS])
 refine tkH 5 ?oi6 (?v6) ?hi6 ?hy6 ?_
 case hi6 => (simp only [gA, gS, gZ]; rfl)
 case hy6 => (refine Or.inl ⟨by rfl, ?_⟩; intro wq hSw; (try dsimp only at hSw); go_simp; (try with_reducible rfl))
 (try simp only [Act.put, pA, pZ, pS])
 refine tkH 7 ?oi7 (?v7) ?hi7 ?hy7 ?_
 case hi7 => (simp only [gA, gS, gZ]; rfl)
 case hy7 => (refine Or.inl ⟨by rfl, ?_⟩; intro wq hSw; (try dsimp only at hSw); go_simp; (try with_reducible rfl))
 (try simp only [Act.put, pA, pZ, pS])
 refine tkH 8 ?oi8 (?v8) ?hi8 ?hy8 ?_
 case hi8 => (simp only [gA, gS, gZ]; rfl)
 case hy8 => (refine Or.inl ⟨by rfl, ?_⟩; intro wq hSw; (try dsimp only at hSw); go_simp; (try with_reducible rfl))
 (try simp only [Act.put, pA, pZ, pS])
 refine tkH 9 ?oi9 (?v9) ?hi9 ?hy9 ?_
 case hi9 => (simp only [gA, gS, gZ]; rfl)
 case hy9 => (refine Or.inl ⟨by rfl, ?_⟩; intro wq hSw; (try dsimp only at hSw); go_simp; (try with_reducible rfl))
 (try simp only [Act.put, pA, pZ, pS])
 refine tkH 10 ?oi10 (?v10) ?hi10 ?hy10 ?_
 case hi10 => (simp only [gA, gS, gZ]; rfl)
 case hy10 => (refine Or.inl ⟨by rfl, ?_⟩; intro wq hSw; (try dsimp only at hSw); go_simp; (try with_reducible rfl))
 (try simp only [Act.put, pA, pZ, pS])
 refine tkH 11 ?oi11 (?v11) ?hi11 ?hy11 ?_
 case hi11 => (simp only [gA, gS, gZ]; rfl)
 case hy11 => (refine Or.inl ⟨by rfl, ?_⟩; intro wq hSw; (try dsimp only at hSw); go_simp; (try with_reducible rfl))
 (try simp only [Act.put, pA, pZ, pS])
 refine tkH 12 ?oi12 (?v12) ?hi12 ?hy12 ?_
 case hi12 => (simp only [gA, gS, gZ]; rfl)
 case hy12 => (refine Or.inl ⟨by rfl, ?_⟩; intro wq hSw; (try dsimp only at hSw); go_simp; (try with_reducible rfl))
 (try simp only [Act.put, pA, pZ, pS])
 refine tkH 14 ?oi13 (?v13) ?hi13 ?hy13 ?_
 case hi13 => (simp only [gA, gS, gZ]; rfl)
 case hy13 => (refine Or.inl ⟨by rfl, ?_⟩; intro wq hSw; (try dsimp only at hSw); go_simp; (try with_reducible rfl))
 (try simp only [Act.put, pA, pZ, pS])
 refine tkH 15 ?oi14 (?v14) ?hi14 ?hy14 ?_
 case hi14 => (simp only [gA, gS, gZ]; rfl)
 case hy14 => (refine Or.inl ⟨by rfl, ?_⟩; intro wq hSw; (try dsimp only at hSw); go_simp; (try with_reducible rfl))
 (try simp only [Act.put, pA, pZ, pS])
 refine tkH 16 ?oi15 (?v15) ?hi15 ?hy15 ?_
 case hi15 => (simp only [gA, gS, gZ]; rfl)
 case hy15 => (refine Or.inl ⟨by rfl, ?_⟩; intro wq hSw; (try dsimp only at hSw); go_simp; (try with_reducible rfl))
 (try simp only [Act.put, pA, pZ, pS])
 refine tkH 17 ?oi16 (?v16) ?hi16 ?hy16 ?_
 case hi16 => (simp only [gA, gS, gZ]; rfl)
 case hy16 => (refine Or.inl ⟨by rfl, ?_⟩; intro wq hSw; (try dsimp only at hSw); go_simp; (try with_reducible rfl))
 (try simp only [Act.put, pA, pZ, pS])
 refine wpAnyH_ready (rs := [6]) (by kernel_rfl) (by simp) ?_
 refine AllReadyH.cons (o := ?oi17) ?hi17 ?ti17 AllReadyH.nil
 case hi17 => (simp only [gA, gS, gZ]; rfl)
 case ti17 =>
  intro KQ hKQ
  go_simp
  (go_at_call 96; (refine (H1.out _).mono ?_); rintro e w1 ⟨rfl, rfl⟩)
  refine hKQ.out _ _ (by simp [go_sem, ↓IntWalk.iteOmega, *]) (fun hHeld2 => ?_)
  clear hHeld hKQ KQ; have hHeld := hHeld2; clear hHeld2
  (try simp only [Act.put, pA, pZ, pS])
  refine wpAnyH_ready (rs := [13]) (by kernel_rfl) (by simp) ?_
  refine AllReadyH.cons (o := ?oi18) ?hi18 ?ti18 AllReadyH.nil
  case hi18 => (simp only [gA, gS, gZ]; rfl)
  case ti18 =>
   intro KQ hKQ
   go_simp
   (go_at_call 96; (refine (H2.out _).mono ?_); rintro e w1 ⟨rfl, rfl⟩)
   refine hKQ.out _ _ (by simp [go_sem, ↓IntWalk.iteOmega, *]) (fun hHeld2 => ?_)
   clear hHeld hKQ KQ; have hHeld := hHeld2; clear hHeld2
   (try simp only [Act.put, pA, pZ, pS])
   refine wpAnyH_ready (rs := [18]) (by kernel_rfl) (by simp) ?_
   refine AllReadyH.cons (o := ?oi19) ?hi19 ?ti19 AllReadyH.nil
   case hi19 => (simp only [gA, gS, gZ]; rfl)
   case ti19 =>
    intro KQ hKQ
    go_simp
    (go_at_call 46; (refine (H3.out _).mono ?_); rintro e w1 ⟨rfl, rfl⟩)
    refine hKQ.out _ _ (by simp [go_sem, ↓IntWalk.iteOmega, *]) (fun hHeld2 => ?_)
    clear hHeld hKQ KQ; have hHeld := hHeld2; clear hHeld2
    (try simp only [Act.put, pA, pZ, pS])
    refine wpAnyH_ready (rs := [19]) (by kernel_rfl) (by simp) ?_
    refine AllReadyH.cons (o := ?oi20) ?hi20 ?ti20 AllReadyH.nil
    case hi20 => (simp only [gA, gS, gZ]; rfl)
    case ti20 =>
     intro KQ hKQ
     go_simp
     refine hKQ.out _ _ (by simp [go_sem, ↓IntWalk.iteOmega, *]) (fun hHeld2 => ?_)
     clear hHeld hKQ KQ; have hHeld := hHeld2; clear hHeld2
     (try simp only [Act.put, pA, pZ, pS])
     refine wpAnyH_ready (rs := [20]) (by kernel_rfl) (by simp) ?_
     refine AllReadyH.cons (o := ?oi21) ?hi21 ?ti21 AllReadyH.nil
     case hi21 => (simp only [gA, gS, gZ]; rfl)
     case ti21 =>
      intro KQ hKQ
      go_simp
      go_at_call 45
      refine Calls.mono (HO.out _ _ (Rd.lit _ #[.int .i64 c1, .int .i64 c2, .int .i64 c3] _ 3 1 rfl ?hbq)) ?_
      case hbq => first | rfl | simp [go_sem, size_ext]
      rintro e w1 ⟨rfl, rfl⟩
      refine hKQ.out _ _ (by simp [go_sem, ↓IntWalk.iteOmega, *]) (fun hHeld2 => ?_)
      clear hHeld hKQ KQ; have hHeld := hHeld2; clear hHeld2
      (try simp only [Act.put, pA, pZ, pS])
      refine tkH 21 ?oi22 (?v22) ?hi22 ?hy22 ?_
      case hi22 => (simp only [gA, gS, gZ]; rfl)
      case hy22 => (refine Or.inl ⟨by rfl, ?_⟩; intro wq hSw; (try dsimp only at hSw); go_simp; (try with_reducible rfl))
      (try simp only [Act.put, pA, pZ, pS])
      refine wpAnyH_done (by kernel_rfl) ?_ _
      go_wp2
      go_ret
      exact ⟨rfl, 1, _, by simp only [alloc_eq_grow, grow_grow]; rfl⟩
theorem cmpX_lays (blk off size : Nat) (w : World) : CmpLays Tryz.prog 57 #[] encX 5 cfX blk off size w :=
 fun _ _ _ _ x y => beforeX_any x y _

end Go.Proofs.YtdiaecgpjgdkdaaGreat
