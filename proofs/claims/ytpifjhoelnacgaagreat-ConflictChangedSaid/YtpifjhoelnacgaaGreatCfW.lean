/- The chapter's examples: version, works. -/
import Derived.Test.YtpifjhoelnacgaaGreatCfX
import Derived.Test.YtpifjhoelnacgaaGreatCfO
import Derived.Deep.RegionHeld3
import Derived.Deep.DeepCutAuto
set_option linter.unusedSimpArgs false
set_option linter.unusedVariables false
namespace Go.Proofs.YtpifjhoelnacgaaGreat
open Go.RowKit


set_option maxRecDepth 100000 in
theorem version_any (n a b s u : Int) (w : World) : Calls Tryz.prog 19 #[.int .i64 n, .int .i64 a, .int .i64 b, .int .i64 s, .int .i64 u] w fun e w' => ∃ g, e = .returned (evg ⟨0, 0, some ⟨g, 0, none⟩, 1, 1, (a, b), (s, u), 0, 0⟩) ∧ Ext w w' ∧ g < w'.heap.size ∧ VROk w' (⟨0, 0, some ⟨g, 0, none⟩, 1, 1, (a, b), (s, u), 0, 0⟩, [⟨1, n, ⟨#[]⟩⟩]) := by
  go_enter Tryz.func19, Tryz.ntmps19
  go_wp2
  refine bodyPost_ret (v := evg ⟨0, 0, some ⟨w.heap.size + 1, 0, none⟩, 1, 1, (a, b), (s, u), 0, 0⟩) ?_ rfl ⟨_, rfl, by repeat (first | exact Ext.refl' _ | assumption | apply Ext.ex' | apply Ext.al | apply Ext.drN | apply Ext.dr), by simp, rfl, ?_, by simp⟩
  · simp [results, Tryz.results19, go_sem, ↓IntWalk.iteOmega]
  · exact Rd.lit _ #[.int .i64 1, .int .i64 n, .string ⟨#[]⟩] _ 1 3 rfl (by simp)
abbrev tB : ByteArray := ⟨#[116]⟩
abbrev sB : ByteArray := ⟨#[115]⟩
def wV (g1 g2 g3 : Nat) : List VR := [(⟨0, 0, some ⟨g1, 0, none⟩, 1, 1, (0, 5), (10, 20), 0, 0⟩, [⟨1, 1, ⟨#[]⟩⟩]), (⟨0, 0, some ⟨g2, 0, none⟩, 1, 1, (0, 2), (20, 1099511627776), 0, 0⟩, [⟨1, 2, ⟨#[]⟩⟩]), (⟨0, 0, some ⟨g3, 0, none⟩, 1, 1, (2, 5), (20, 1099511627776), 0, 0⟩, [⟨1, 1, ⟨#[]⟩⟩])]
theorem canT_w1 : CanT [(sB, ((1, 2) : Int × Int)), (tB, (0, 5)), (tB, (7, 9))] := ⟨by decide +kernel, by decide +kernel⟩
theorem canT_w2 : CanT [(tB, ((3, 5) : Int × Int))] := ⟨by decide +kernel, by decide +kernel⟩
theorem canT_w3 : CanT [(tB, ((0, 2) : Int × Int))] := ⟨by decide +kernel, by decide +kernel⟩
theorem wMerge : Stands [(tB, ((0, 3) : Int × Int)), (tB, (3, 5)), (sB, (1, 2)), (tB, (7, 9))] [(sB, ((1, 2) : Int × Int)), (tB, (0, 5)), (tB, (7, 9))] := by
  refine ⟨canT_w1, fun t x => ?_⟩
  by_cases h1 : [116] = t
  · subst h1
    rw [Bool.eq_iff_iff]
    simp [inT, tb, tB, sB, inP, pvB]
    omega
  · by_cases h2 : [115] = t
    · subst h2
      rw [Bool.eq_iff_iff]
      simp [inT, tb, tB, sB, inP, pvB]
    · simp [inT, tb, tB, sB, h1, h2]
theorem wOver : Common [(tB, ((0, 5) : Int × Int))] [(tB, ((3, 9) : Int × Int))] [(tB, ((3, 5) : Int × Int))] := by
  refine ⟨canT_w2, fun t x => ?_⟩
  by_cases h1 : [116] = t
  · subst h1
    rw [Bool.eq_iff_iff]
    simp [inT, tb, tB, inP, pvB]
    omega
  · simp [inT, tb, tB, h1]
theorem wSt3 : Stands [(tB, ((0, 2) : Int × Int))] [(tB, ((0, 2) : Int × Int))] := ⟨canT_w3, fun _ _ => rfl⟩
theorem wChg15 (g1 g2 g3 : Nat) : chgL tB (wV g1 g2 g3) 15 = [(tB, (0, 2))] := by kernel_rfl
theorem wChg20 (g1 g2 g3 : Nat) : chgL tB (wV g1 g2 g3) 20 = [] := by kernel_rfl


set_option maxRecDepth 100000 in
set_option maxHeartbeats 4000000 in
theorem works_any (w : World) : Calls Tryz.prog 7 #[] w fun e w' => e = .returned (.bool true) ∧ Ext w w' := by
  have HWL : Hid (∀ a ∈ [(tB, ((0, 3) : Int × Int)), (tB, (3, 5)), (sB, (1, 2)), (tB, (7, 9))], a.1.size ≤ maxLen) := Lib.hid (by decide)
  have HW1 : Hid (∀ a ∈ [(tB, ((0, 5) : Int × Int))], a.1.size ≤ maxLen) := Lib.hid (by decide)
  have HW2 : Hid (∀ a ∈ [(tB, ((3, 9) : Int × Int))], a.1.size ≤ maxLen) := Lib.hid (by decide)
  go_enter Tryz.func7, Tryz.ntmps7
  go_wp2_with (first | (go_at_call 19; (with_reducible refine Calls.mono (version_any 1 0 5 10 20 _) ?_); rintro e w1 ⟨g1, rfl, hb1, hg1, hv1⟩; obtain ⟨y1, rfl⟩ := hb1.get; clear hb1) | (go_at_call 19; (with_reducible refine Calls.mono (version_any 2 0 2 20 1099511627776 _) ?_); rintro e w1 ⟨g2, rfl, hb1, hg2, hv2⟩; obtain ⟨y2, rfl⟩ := hb1.get; clear hb1) | (go_at_call 19; (with_reducible refine Calls.mono (version_any 1 2 5 20 1099511627776 _) ?_); rintro e w1 ⟨g3, rfl, hb1, hg3, hv3⟩; obtain ⟨y3, rfl⟩ := hb1.get; clear hb1) | (go_at_call 20; (with_reducible refine Calls.mono (cregion_any _ _ _ _) ?_); rintro e w1 ⟨rfl, hb1⟩; obtain ⟨y, rfl⟩ := hb1.get; clear hb1) | (go_at_call 13; (refine Calls.mono (merge_any _ 4 4 [(tB, ((0, 3) : Int × Int)), (tB, (3, 5)), (sB, (1, 2)), (tB, (7, 9))] _ rfl (Rd.lit _ #[.string ⟨#[116]⟩, .int .i64 0, .int .i64 3, .string ⟨#[116]⟩, .int .i64 3, .int .i64 5, .string ⟨#[115]⟩, .int .i64 1, .int .i64 2, .string ⟨#[116]⟩, .int .i64 7, .int .i64 9] _ 4 3 rfl ?hbq) (by decide) HWL.out) ?_); (case hbq => simp [size_ext]); rintro e w1 ⟨A2, c2, r2, rfl, hbm, hR2, hst⟩))
  refine Calls.mono (overlap_any _ _ 1 1 1 1 [(tB, ((0, 5) : Int × Int))] [(tB, ((3, 9) : Int × Int))] _ rfl rfl ?hRA (Rd.lit _ #[.string ⟨#[116]⟩, .int .i64 3, .int .i64 9] _ 1 3 rfl ?hbq2) (by decide) (by decide) HW1.out HW2.out) ?_
  case hRA =>
    refine Rd.ext ?hq0 (Ext.al (Ext.ex' (Ext.refl' _) _) _)
    exact Rd.lit _ #[.string ⟨#[116]⟩, .int .i64 0, .int .i64 5] _ 1 3 rfl (by simp [size_ext])
  case hbq2 => simp [size_ext]
  rintro e w2 ⟨r3, hc3, he, hb3⟩
  obtain rfl := hc3.eq wOver
  have he2 : e = .returned (.tuple #[acg (tB, ((3, 5) : Int × Int)), .bool true]) := he
  clear he
  subst he2
  go_wp2_with (first | (go_at_call 19; (with_reducible refine Calls.mono (version_any 1 0 5 10 20 _) ?_); rintro e w1 ⟨g1, rfl, hb1, hg1, hv1⟩; obtain ⟨y1, rfl⟩ := hb1.get; clear hb1) | (go_at_call 19; (with_reducible refine Calls.mono (version_any 2 0 2 20 1099511627776 _) ?_); rintro e w1 ⟨g2, rfl, hb1, hg2, hv2⟩; obtain ⟨y2, rfl⟩ := hb1.get; clear hb1) | (go_at_call 19; (with_reducible refine Calls.mono (version_any 1 2 5 20 1099511627776 _) ?_); rintro e w1 ⟨g3, rfl, hb1, hg3, hv3⟩; obtain ⟨y3, rfl⟩ := hb1.get; clear hb1) | (go_at_call 20; (with_reducible refine Calls.mono (cregion_any _ _ _ _) ?_); rintro e w1 ⟨rfl, hb1⟩; obtain ⟨y, rfl⟩ := hb1.get; clear hb1) | (go_at_call 13; (refine Calls.mono (merge_any _ 4 4 [(tB, ((0, 3) : Int × Int)), (tB, (3, 5)), (sB, (1, 2)), (tB, (7, 9))] _ rfl (Rd.lit _ #[.string ⟨#[116]⟩, .int .i64 0, .int .i64 3, .string ⟨#[116]⟩, .int .i64 3, .int .i64 5, .string ⟨#[115]⟩, .int .i64 1, .int .i64 2, .string ⟨#[116]⟩, .int .i64 7, .int .i64 9] _ 4 3 rfl ?hbq) (by decide) HWL.out) ?_); (case hbq => simp [size_ext]); rintro e w1 ⟨A2, c2, r2, rfl, hbm, hR2, hst⟩))
  have hRV : Rd ((ext (ext (ext w y1) y2) y3).alloc (.cells #[.int .i64 0, .int .i64 0, .slice (some ⟨g1, 0, none⟩) 1 1, .int .i64 0, .int .i64 5, .int .i64 10, .int .i64 20, .int .i64 0, .int .i64 0, .int .i64 0, .int .i64 0, .slice (some ⟨g2, 0, none⟩) 1 1, .int .i64 0, .int .i64 2, .int .i64 20, .int .i64 1099511627776, .int .i64 0, .int .i64 0, .int .i64 0, .int .i64 0, .slice (some ⟨g3, 0, none⟩) 1 1, .int .i64 2, .int .i64 5, .int .i64 20, .int .i64 1099511627776, .int .i64 0, .int .i64 0] 41)) 9 (some ⟨w.heap.size + y1.n + y2.n + y3.n, 0, none⟩) 3 (vev (wV g1 g2 g3)) := Rd.lit _ #[.int .i64 0, .int .i64 0, .slice (some ⟨g1, 0, none⟩) 1 1, .int .i64 0, .int .i64 5, .int .i64 10, .int .i64 20, .int .i64 0, .int .i64 0, .int .i64 0, .int .i64 0, .slice (some ⟨g2, 0, none⟩) 1 1, .int .i64 0, .int .i64 2, .int .i64 20, .int .i64 1099511627776, .int .i64 0, .int .i64 0, .int .i64 0, .int .i64 0, .slice (some ⟨g3, 0, none⟩) 1 1, .int .i64 2, .int .i64 5, .int .i64 20, .int .i64 1099511627776, .int .i64 0, .int .i64 0] _ 3 9 rfl (by simp [size_ext])
  have hE1 : Ext ((ext (ext (ext w y1) y2) y3).alloc (.cells #[.int .i64 0, .int .i64 0, .slice (some ⟨g1, 0, none⟩) 1 1, .int .i64 0, .int .i64 5, .int .i64 10, .int .i64 20, .int .i64 0, .int .i64 0, .int .i64 0, .int .i64 0, .slice (some ⟨g2, 0, none⟩) 1 1, .int .i64 0, .int .i64 2, .int .i64 20, .int .i64 1099511627776, .int .i64 0, .int .i64 0, .int .i64 0, .int .i64 0, .slice (some ⟨g3, 0, none⟩) 1 1, .int .i64 2, .int .i64 5, .int .i64 20, .int .i64 1099511627776, .int .i64 0, .int .i64 0] 41)) w2 := Ext.tr (Ext.tr (by repeat (first | exact Ext.refl' _ | assumption | apply Ext.ex' | apply Ext.al | apply Ext.drN | apply Ext.dr)) hbm) (Ext.tr (by repeat (first | exact Ext.refl' _ | assumption | apply Ext.ex' | apply Ext.al | apply Ext.drN | apply Ext.dr)) hb3)
  have hE0 : Ext w w2 := Ext.tr (by repeat (first | exact Ext.refl' _ | assumption | apply Ext.ex' | apply Ext.al | apply Ext.drN | apply Ext.dr)) hE1
  have hE2 : Ext w1 w2 := Ext.tr (by repeat (first | exact Ext.refl' _ | assumption | apply Ext.ex' | apply Ext.al | apply Ext.drN | apply Ext.dr)) hb3
  have hOK : ∀ p ∈ wV g1 g2 g3, VROk w2 p := by
    intro p hp
    simp only [wV, List.mem_cons, List.not_mem_nil, or_false] at hp
    rcases hp with rfl | rfl | rfl
    · exact hv1.ext (Ext.tr (by repeat (first | exact Ext.refl' _ | assumption | apply Ext.ex' | apply Ext.al | apply Ext.drN | apply Ext.dr)) hE1)
    · exact hv2.ext (Ext.tr (by repeat (first | exact Ext.refl' _ | assumption | apply Ext.ex' | apply Ext.al | apply Ext.drN | apply Ext.dr)) hE1)
    · exact hv3.ext (Ext.tr (by repeat (first | exact Ext.refl' _ | assumption | apply Ext.ex' | apply Ext.al | apply Ext.drN | apply Ext.dr)) hE1)
  replace hRV := hRV.ext hE1
  obtain rfl := hst.eq wMerge
  replace hR2 := hR2.ext hE2
  clear hst hc3 hv1 hv2 hv3 hg1 hg2 hg3 hE1 hbm hE2 hb3
  generalize w.heap.size + y1.n + y2.n + y3.n = bV at hRV ⊢
  refine wp_region_held_drew (S := (fun w' => w'.cell? ⟨w2.heap.size, 0, none⟩ = some (.string tB) ∧ w'.cell? ⟨w2.heap.size, 1, none⟩ = some (.int .i64 3) ∧ w'.cell? ⟨w2.heap.size, 2, none⟩ = some (.int .i64 5))) (by kernel_rfl) (by simp [go_sem, ↓IntWalk.iteOmega, *]) (fun hHeld => ?_)
  refine wpAnyH_take (i := 0) (oi := ?oi1) (v := ?v1) ?hi1 (by kernel_rfl) (by kernel_rfl) (by kernel_rfl) ?hQ1 ?hy1 (by assumption) ?_
  case hi1 => (simp only [List.getElem?_toArray, List.getElem?_cons_succ, List.getElem?_cons_zero]; try rfl)
  case hQ1 => exact fun _ _ _ h => h
  case hy1 => (refine Or.inl ⟨by rfl, ?_⟩; intro wq hSw; (try dsimp only at hSw); go_simp; (try with_reducible rfl))
  (try simp only [Act.put, List.setIfInBounds_toArray, List.set_cons_zero, List.set_cons_succ])
  refine wpAnyH_ready (rs := [1]) (by kernel_rfl) (by simp) ?_
  refine AllReadyH.cons (o := ?oi2) ?hi2 ?ti2 AllReadyH.nil
  case hi2 => (simp only [List.getElem?_toArray, List.getElem?_cons_succ, List.getElem?_cons_zero]; try rfl)
  case ti2 =>
    intro KQ hKQ
    go_simp
    go_at_call 20
    refine Calls.mono (cregion_any _ _ _ _) ?_
    rintro e w1 ⟨rfl, hb1⟩
    obtain ⟨x1, rfl⟩ := hb1.get
    clear hb1
    refine hKQ.out _ _ (by simp [go_sem, ↓IntWalk.iteOmega, *]) (fun hHeld2 => ?_)
    clear hHeld hKQ KQ; have hHeld := hHeld2; clear hHeld2
    (try simp only [Act.put, List.setIfInBounds_toArray, List.set_cons_zero, List.set_cons_succ])
    refine wpAnyH_ready (rs := [2]) (by kernel_rfl) (by simp) ?_
    refine AllReadyH.cons (o := ?oi3) ?hi3 ?ti3 AllReadyH.nil
    case hi3 => (simp only [List.getElem?_toArray, List.getElem?_cons_succ, List.getElem?_cons_zero]; try rfl)
    case ti3 =>
      intro KQ hKQ
      go_simp
      go_at_call 20
      refine Calls.mono (cregion_any _ _ _ _) ?_
      rintro e w1 ⟨rfl, hb1⟩
      obtain ⟨x2, rfl⟩ := hb1.get
      clear hb1
      refine hKQ.out _ _ (by simp [go_sem, ↓IntWalk.iteOmega, *]) (fun hHeld2 => ?_)
      clear hHeld hKQ KQ; have hHeld := hHeld2; clear hHeld2
      (try simp only [Act.put, List.setIfInBounds_toArray, List.set_cons_zero, List.set_cons_succ])
      refine wpAnyH_ready (rs := [3]) (by kernel_rfl) (by simp) ?_
      refine AllReadyH.cons (o := ?oi4) ?hi4 ?ti4 AllReadyH.nil
      case hi4 => (simp only [List.getElem?_toArray, List.getElem?_cons_succ, List.getElem?_cons_zero]; try rfl)
      case ti4 =>
        intro KQ hKQ
        go_simp
        go_at_call 20
        refine Calls.mono (cregion_any _ _ _ _) ?_
        rintro e w1 ⟨rfl, hb1⟩
        obtain ⟨x3, rfl⟩ := hb1.get
        clear hb1
        refine hKQ.out _ _ (by simp [go_sem, ↓IntWalk.iteOmega, *]) (fun hHeld2 => ?_)
        clear hHeld hKQ KQ; have hHeld := hHeld2; clear hHeld2
        (try simp only [Act.put, List.setIfInBounds_toArray, List.set_cons_zero, List.set_cons_succ])
        refine wpAnyH_ready (rs := [4]) (by kernel_rfl) (by simp) ?_
        refine AllReadyH.cons (o := ?oi5) ?hi5 ?ti5 AllReadyH.nil
        case hi5 => (simp only [List.getElem?_toArray, List.getElem?_cons_succ, List.getElem?_cons_zero]; try rfl)
        case ti5 =>
          intro KQ hKQ
          go_simp
          refine hKQ.out _ _ (by simp [go_sem, ↓IntWalk.iteOmega, *]) (fun hHeld2 => ?_)
          clear hHeld hKQ KQ; have hHeld := hHeld2; clear hHeld2
          (try simp only [Act.put, List.setIfInBounds_toArray, List.set_cons_zero, List.set_cons_succ])
          refine wpAnyH_ready (rs := [5]) (by kernel_rfl) (by simp) ?_
          refine AllReadyH.cons (o := ?oi6) ?hi6 ?ti6 AllReadyH.nil
          case hi6 => (simp only [List.getElem?_toArray, List.getElem?_cons_succ, List.getElem?_cons_zero]; try rfl)
          case ti6 =>
            intro KQ hKQ
            go_simp
            go_at_call 8
            refine Calls.mono (sameA_any _ _ 3 3 _ _ [(sB, ((1, 2) : Int × Int)), (tB, (0, 5)), (tB, (7, 9))] [(sB, ((1, 2) : Int × Int)), (tB, (0, 5)), (tB, (7, 9))] _ rfl rfl (hR2.ext (by repeat (first | exact Ext.refl' _ | assumption | apply Ext.ex' | apply Ext.al | apply Ext.drN | apply Ext.dr))) (Rd.lit _ #[.string ⟨#[115]⟩, .int .i64 1, .int .i64 2, .string ⟨#[116]⟩, .int .i64 0, .int .i64 5, .string ⟨#[116]⟩, .int .i64 7, .int .i64 9] _ 3 3 rfl ?hbq) (by decide) (by decide)) ?_
            case hbq => simp [size_ext]
            rintro e w1 ⟨he, hb1⟩
            rw [decide_eq_true rfl] at he
            subst he
            obtain ⟨x5, rfl⟩ := hb1.get
            clear hb1
            refine hKQ.out _ _ (by simp [go_sem, ↓IntWalk.iteOmega, *]) (fun hHeld2 => ?_)
            clear hHeld hKQ KQ; have hHeld := hHeld2; clear hHeld2
            (try simp only [Act.put, List.setIfInBounds_toArray, List.set_cons_zero, List.set_cons_succ])
            refine wpAnyH_take (i := 6) (oi := ?oi7) (v := ?v7) ?hi7 (by kernel_rfl) (by kernel_rfl) (by kernel_rfl) ?hQ7 ?hy7 (by assumption) ?_
            case hi7 => (simp only [List.getElem?_toArray, List.getElem?_cons_succ, List.getElem?_cons_zero]; try rfl)
            case hQ7 => exact fun _ _ _ h => h
            case hy7 => (refine Or.inl ⟨by rfl, ?_⟩; intro wq hSw; (try dsimp only at hSw); go_simp; (try with_reducible rfl))
            (try simp only [Act.put, List.setIfInBounds_toArray, List.set_cons_zero, List.set_cons_succ])
            refine wpAnyH_take (i := 7) (oi := ?oi8) (v := ?v8) ?hi8 (by kernel_rfl) (by kernel_rfl) (by kernel_rfl) ?hQ8 ?hy8 (by assumption) ?_
            case hi8 => (simp only [List.getElem?_toArray, List.getElem?_cons_succ, List.getElem?_cons_zero]; try rfl)
            case hQ8 => exact fun _ _ _ h => h
            case hy8 => (refine Or.inl ⟨by rfl, ?_⟩; intro wq hSw; (try dsimp only at hSw); go_simp; (try with_reducible rfl))
            (try simp only [Act.put, List.setIfInBounds_toArray, List.set_cons_zero, List.set_cons_succ])
            refine wpAnyH_ready (rs := [8]) (by kernel_rfl) (by simp) ?_
            refine AllReadyH.cons (o := ?oi9) ?hi9 ?ti9 AllReadyH.nil
            case hi9 => (simp only [List.getElem?_toArray, List.getElem?_cons_succ, List.getElem?_cons_zero]; try rfl)
            case ti9 =>
              intro KQ hKQ
              go_simp
              go_at_call 9
              refine Calls.mono (changed_any tB _ 3 3 (wV g1 g2 g3) 15 _ rfl (hRV.ext (by repeat (first | exact Ext.refl' _ | assumption | apply Ext.ex' | apply Ext.al | apply Ext.drN | apply Ext.dr))) (fun p hp => (hOK p hp).ext (by repeat (first | exact Ext.refl' _ | assumption | apply Ext.ex' | apply Ext.al | apply Ext.drN | apply Ext.dr))) (by simp [wV]) (by decide)) ?_
              rintro e w1 ⟨A8, c8, r8, rfl, hb1, hR8, hst⟩
              rw [wChg15] at hst
              obtain rfl := hst.eq wSt3
              clear hst
              obtain ⟨x8, rfl⟩ := hb1.get
              clear hb1
              refine hKQ.out _ _ (by simp [go_sem, ↓IntWalk.iteOmega, *]) (fun hHeld2 => ?_)
              clear hHeld hKQ KQ; have hHeld := hHeld2; clear hHeld2
              (try simp only [Act.put, List.setIfInBounds_toArray, List.set_cons_zero, List.set_cons_succ])
              refine wpAnyH_ready (rs := [9]) (by kernel_rfl) (by simp) ?_
              refine AllReadyH.cons (o := ?oi10) ?hi10 ?ti10 AllReadyH.nil
              case hi10 => (simp only [List.getElem?_toArray, List.getElem?_cons_succ, List.getElem?_cons_zero]; try rfl)
              case ti10 =>
                intro KQ hKQ
                go_simp
                go_at_call 20
                refine Calls.mono (cregion_any _ _ _ _) ?_
                rintro e w1 ⟨rfl, hb1⟩
                obtain ⟨x9, rfl⟩ := hb1.get
                clear hb1
                refine hKQ.out _ _ (by simp [go_sem, ↓IntWalk.iteOmega, *]) (fun hHeld2 => ?_)
                clear hHeld hKQ KQ; have hHeld := hHeld2; clear hHeld2
                (try simp only [Act.put, List.setIfInBounds_toArray, List.set_cons_zero, List.set_cons_succ])
                refine wpAnyH_ready (rs := [10]) (by kernel_rfl) (by simp) ?_
                refine AllReadyH.cons (o := ?oi11) ?hi11 ?ti11 AllReadyH.nil
                case hi11 => (simp only [List.getElem?_toArray, List.getElem?_cons_succ, List.getElem?_cons_zero]; try rfl)
                case ti11 =>
                  intro KQ hKQ
                  go_simp
                  refine hKQ.out _ _ (by simp [go_sem, ↓IntWalk.iteOmega, *]) (fun hHeld2 => ?_)
                  clear hHeld hKQ KQ; have hHeld := hHeld2; clear hHeld2
                  (try simp only [Act.put, List.setIfInBounds_toArray, List.set_cons_zero, List.set_cons_succ])
                  refine wpAnyH_ready (rs := [11]) (by kernel_rfl) (by simp) ?_
                  refine AllReadyH.cons (o := ?oi12) ?hi12 ?ti12 AllReadyH.nil
                  case hi12 => (simp only [List.getElem?_toArray, List.getElem?_cons_succ, List.getElem?_cons_zero]; try rfl)
                  case ti12 =>
                    intro KQ hKQ
                    go_simp
                    go_at_call 8
                    refine Calls.mono (sameA_any _ _ 1 1 _ _ [(tB, ((0, 2) : Int × Int))] [(tB, ((0, 2) : Int × Int))] _ rfl rfl (hR8.ext (by repeat (first | exact Ext.refl' _ | assumption | apply Ext.ex' | apply Ext.al | apply Ext.drN | apply Ext.dr))) (Rd.lit _ #[.string ⟨#[116]⟩, .int .i64 0, .int .i64 2] _ 1 3 rfl ?hbq) (by decide) (by decide)) ?_
                    case hbq => simp [size_ext]
                    rintro e w1 ⟨he, hb1⟩
                    rw [decide_eq_true rfl] at he
                    subst he
                    obtain ⟨x11, rfl⟩ := hb1.get
                    clear hb1
                    refine hKQ.out _ _ (by simp [go_sem, ↓IntWalk.iteOmega, *]) (fun hHeld2 => ?_)
                    clear hHeld hKQ KQ; have hHeld := hHeld2; clear hHeld2
                    (try simp only [Act.put, List.setIfInBounds_toArray, List.set_cons_zero, List.set_cons_succ])
                    refine wpAnyH_take (i := 12) (oi := ?oi13) (v := ?v13) ?hi13 (by kernel_rfl) (by kernel_rfl) (by kernel_rfl) ?hQ13 ?hy13 (by assumption) ?_
                    case hi13 => (simp only [List.getElem?_toArray, List.getElem?_cons_succ, List.getElem?_cons_zero]; try rfl)
                    case hQ13 => exact fun _ _ _ h => h
                    case hy13 => (refine Or.inl ⟨by rfl, ?_⟩; intro wq hSw; (try dsimp only at hSw); go_simp; (try with_reducible rfl))
                    (try simp only [Act.put, List.setIfInBounds_toArray, List.set_cons_zero, List.set_cons_succ])
                    refine wpAnyH_take (i := 13) (oi := ?oi14) (v := ?v14) ?hi14 (by kernel_rfl) (by kernel_rfl) (by kernel_rfl) ?hQ14 ?hy14 (by assumption) ?_
                    case hi14 => (simp only [List.getElem?_toArray, List.getElem?_cons_succ, List.getElem?_cons_zero]; try rfl)
                    case hQ14 => exact fun _ _ _ h => h
                    case hy14 => (refine Or.inl ⟨by rfl, ?_⟩; intro wq hSw; (try dsimp only at hSw); go_simp; (try with_reducible rfl))
                    (try simp only [Act.put, List.setIfInBounds_toArray, List.set_cons_zero, List.set_cons_succ])
                    refine wpAnyH_take (i := 14) (oi := ?oi15) (v := ?v15) ?hi15 (by kernel_rfl) (by kernel_rfl) (by kernel_rfl) ?hQ15 ?hy15 (by assumption) ?_
                    case hi15 => (simp only [List.getElem?_toArray, List.getElem?_cons_succ, List.getElem?_cons_zero]; try rfl)
                    case hQ15 => exact fun _ _ _ h => h
                    case hy15 => (refine Or.inl ⟨by rfl, ?_⟩; intro wq hSw; (try dsimp only at hSw); go_simp; (try with_reducible rfl))
                    (try simp only [Act.put, List.setIfInBounds_toArray, List.set_cons_zero, List.set_cons_succ])
                    refine wpAnyH_ready (rs := [15]) (by kernel_rfl) (by simp) ?_
                    refine AllReadyH.cons (o := ?oi16) ?hi16 ?ti16 AllReadyH.nil
                    case hi16 => (simp only [List.getElem?_toArray, List.getElem?_cons_succ, List.getElem?_cons_zero]; try rfl)
                    case ti16 =>
                      intro KQ hKQ
                      go_simp
                      go_at_call 9
                      refine Calls.mono (changed_any tB _ 3 3 (wV g1 g2 g3) 20 _ rfl (hRV.ext (by repeat (first | exact Ext.refl' _ | assumption | apply Ext.ex' | apply Ext.al | apply Ext.drN | apply Ext.dr))) (fun p hp => (hOK p hp).ext (by repeat (first | exact Ext.refl' _ | assumption | apply Ext.ex' | apply Ext.al | apply Ext.drN | apply Ext.dr))) (by simp [wV]) (by decide)) ?_
                      rintro e w1 ⟨A15, c15, r15, rfl, hb1, hR15, hst⟩
                      rw [wChg20] at hst
                      obtain rfl := List.eq_nil_of_length_eq_zero (Nat.le_zero.1 hst.le)
                      clear hst
                      obtain ⟨x15, rfl⟩ := hb1.get
                      clear hb1
                      refine hKQ.out _ _ (by simp [go_sem, ↓IntWalk.iteOmega, *]) (fun hHeld2 => ?_)
                      clear hHeld hKQ KQ; have hHeld := hHeld2; clear hHeld2
                      (try simp only [Act.put, List.setIfInBounds_toArray, List.set_cons_zero, List.set_cons_succ])
                      refine wpAnyH_take (i := 16) (oi := ?oi17) (v := ?v17) ?hi17 (by kernel_rfl) (by kernel_rfl) (by kernel_rfl) ?hQ17 ?hy17 (by assumption) ?_
                      case hi17 => (simp only [List.getElem?_toArray, List.getElem?_cons_succ, List.getElem?_cons_zero]; try rfl)
                      case hQ17 => exact fun _ _ _ h => h
                      case hy17 => (refine Or.inl ⟨by rfl, ?_⟩; intro wq hSw; (try dsimp only at hSw); go_simp; (try with_reducible rfl))
                      (try simp only [Act.put, List.setIfInBounds_toArray, List.set_cons_zero, List.set_cons_succ])
                      refine wpAnyH_take (i := 17) (oi := ?oi18) (v := ?v18) ?hi18 (by kernel_rfl) (by kernel_rfl) (by kernel_rfl) ?hQ18 ?hy18 (by assumption) ?_
                      case hi18 => (simp only [List.getElem?_toArray, List.getElem?_cons_succ, List.getElem?_cons_zero]; try rfl)
                      case hQ18 => exact fun _ _ _ h => h
                      case hy18 => (refine Or.inl ⟨by rfl, ?_⟩; intro wq hSw; (try dsimp only at hSw); go_simp; (try with_reducible rfl))
                      (try simp only [Act.put, List.setIfInBounds_toArray, List.set_cons_zero, List.set_cons_succ])
                      refine wpAnyH_take (i := 18) (oi := ?oi19) (v := ?v19) ?hi19 (by kernel_rfl) (by kernel_rfl) (by kernel_rfl) ?hQ19 ?hy19 (by assumption) ?_
                      case hi19 => (simp only [List.getElem?_toArray, List.getElem?_cons_succ, List.getElem?_cons_zero]; try rfl)
                      case hQ19 => exact fun _ _ _ h => h
                      case hy19 => (refine Or.inl ⟨by rfl, ?_⟩; intro wq hSw; (try dsimp only at hSw); go_simp; (try with_reducible rfl))
                      (try simp only [Act.put, List.setIfInBounds_toArray, List.set_cons_zero, List.set_cons_succ])
                      refine wpAnyH_take (i := 19) (oi := ?oi20) (v := ?v20) ?hi20 (by kernel_rfl) (by kernel_rfl) (by kernel_rfl) ?hQ20 ?hy20 (by assumption) ?_
                      case hi20 => (simp only [List.getElem?_toArray, List.getElem?_cons_succ, List.getElem?_cons_zero]; try rfl)
                      case hQ20 => exact fun _ _ _ h => h
                      case hy20 => (refine Or.inl ⟨by rfl, ?_⟩; intro wq hSw; (try dsimp only at hSw); go_simp; (try with_reducible rfl))
                      (try simp only [Act.put, List.setIfInBounds_toArray, List.set_cons_zero, List.set_cons_succ])
                      refine wpAnyH_take (i := 20) (oi := ?oi21) (v := ?v21) ?hi21 (by kernel_rfl) (by kernel_rfl) (by kernel_rfl) ?hQ21 ?hy21 (by assumption) ?_
                      case hi21 => (simp only [List.getElem?_toArray, List.getElem?_cons_succ, List.getElem?_cons_zero]; try rfl)
                      case hQ21 => exact fun _ _ _ h => h
                      case hy21 => (refine Or.inl ⟨by rfl, ?_⟩; intro wq hSw; (try dsimp only at hSw); go_simp; (try with_reducible rfl))
                      (try simp only [Act.put, List.setIfInBounds_toArray, List.set_cons_zero, List.set_cons_succ])
                      refine wpAnyH_take (i := 21) (oi := ?oi22) (v := ?v22) ?hi22 (by kernel_rfl) (by kernel_rfl) (by kernel_rfl) ?hQ22 ?hy22 (by assumption) ?_
                      case hi22 => (simp only [List.getElem?_toArray, List.getElem?_cons_succ, List.getElem?_cons_zero]; try rfl)
                      case hQ22 => exact fun _ _ _ h => h
                      case hy22 => (refine Or.inl ⟨by rfl, ?_⟩; intro wq hSw; (try dsimp only at hSw); go_simp; (try with_reducible rfl))
                      (try simp only [Act.put, List.setIfInBounds_toArray, List.set_cons_zero, List.set_cons_succ])
                      refine wpAnyH_take (i := 22) (oi := ?oi23) (v := ?v23) ?hi23 (by kernel_rfl) (by kernel_rfl) (by kernel_rfl) ?hQ23 ?hy23 (by assumption) ?_
                      case hi23 => (simp only [List.getElem?_toArray, List.getElem?_cons_succ, List.getElem?_cons_zero]; try rfl)
                      case hQ23 => exact fun _ _ _ h => h
                      case hy23 => (refine Or.inl ⟨by rfl, ?_⟩; intro wq hSw; (try dsimp only at hSw); go_simp; (try with_reducible rfl))
                      (try simp only [Act.put, List.setIfInBounds_toArray, List.set_cons_zero, List.set_cons_succ])
                      refine wpAnyH_take (i := 23) (oi := ?oi24) (v := ?v24) ?hi24 (by kernel_rfl) (by kernel_rfl) (by kernel_rfl) ?hQ24 ?hy24 (by assumption) ?_
                      case hi24 => (simp only [List.getElem?_toArray, List.getElem?_cons_succ, List.getElem?_cons_zero]; try rfl)
                      case hQ24 => exact fun _ _ _ h => h
                      case hy24 => (refine Or.inl ⟨by rfl, ?_⟩; intro wq hSw; (try dsimp only at hSw); go_simp; (try with_reducible rfl))
                      (try simp only [Act.put, List.setIfInBounds_toArray, List.set_cons_zero, List.set_cons_succ])
                      refine wpAnyH_ready (rs := [24]) (by kernel_rfl) (by simp) ?_
                      refine AllReadyH.cons (o := ?oi25) ?hi25 ?ti25 AllReadyH.nil
                      case hi25 => (simp only [List.getElem?_toArray, List.getElem?_cons_succ, List.getElem?_cons_zero]; try rfl)
                      case ti25 =>
                        intro KQ hKQ
                        go_simp
                        go_at_call 20
                        refine Calls.mono (cregion_any _ _ _ _) ?_
                        rintro e w1 ⟨rfl, hb1⟩
                        obtain ⟨x24, rfl⟩ := hb1.get
                        clear hb1
                        refine hKQ.out _ _ (by simp [go_sem, ↓IntWalk.iteOmega, *]) (fun hHeld2 => ?_)
                        clear hHeld hKQ KQ; have hHeld := hHeld2; clear hHeld2
                        (try simp only [Act.put, List.setIfInBounds_toArray, List.set_cons_zero, List.set_cons_succ])
                        refine wpAnyH_take (i := 25) (oi := ?oi26) (v := ?v26) ?hi26 (by kernel_rfl) (by kernel_rfl) (by kernel_rfl) ?hQ26 ?hy26 (by assumption) ?_
                        case hi26 => (simp only [List.getElem?_toArray, List.getElem?_cons_succ, List.getElem?_cons_zero]; try rfl)
                        case hQ26 => exact fun _ _ _ h => h
                        case hy26 => (refine Or.inl ⟨by rfl, ?_⟩; intro wq hSw; (try dsimp only at hSw); go_simp; (try with_reducible rfl))
                        (try simp only [Act.put, List.setIfInBounds_toArray, List.set_cons_zero, List.set_cons_succ])
                        refine wpAnyH_take (i := 26) (oi := ?oi27) (v := ?v27) ?hi27 (by kernel_rfl) (by kernel_rfl) (by kernel_rfl) ?hQ27 ?hy27 (by assumption) ?_
                        case hi27 => (simp only [List.getElem?_toArray, List.getElem?_cons_succ, List.getElem?_cons_zero]; try rfl)
                        case hQ27 => exact fun _ _ _ h => h
                        case hy27 => (refine Or.inl ⟨by rfl, ?_⟩; intro wq hSw; (try dsimp only at hSw); go_simp; (try with_reducible rfl))
                        (try simp only [Act.put, List.setIfInBounds_toArray, List.set_cons_zero, List.set_cons_succ])
                        refine wpAnyH_take (i := 27) (oi := ?oi28) (v := ?v28) ?hi28 (by kernel_rfl) (by kernel_rfl) (by kernel_rfl) ?hQ28 ?hy28 (by assumption) ?_
                        case hi28 => (simp only [List.getElem?_toArray, List.getElem?_cons_succ, List.getElem?_cons_zero]; try rfl)
                        case hQ28 => exact fun _ _ _ h => h
                        case hy28 => (refine Or.inl ⟨by rfl, ?_⟩; intro wq hSw; (try dsimp only at hSw); go_simp; (try with_reducible rfl))
                        (try simp only [Act.put, List.setIfInBounds_toArray, List.set_cons_zero, List.set_cons_succ])
                        refine wpAnyH_take (i := 28) (oi := ?oi29) (v := ?v29) ?hi29 (by kernel_rfl) (by kernel_rfl) (by kernel_rfl) ?hQ29 ?hy29 (by assumption) ?_
                        case hi29 => (simp only [List.getElem?_toArray, List.getElem?_cons_succ, List.getElem?_cons_zero]; try rfl)
                        case hQ29 => exact fun _ _ _ h => h
                        case hy29 => (refine Or.inl ⟨by rfl, ?_⟩; intro wq hSw; (try dsimp only at hSw); go_simp; (try with_reducible rfl))
                        (try simp only [Act.put, List.setIfInBounds_toArray, List.set_cons_zero, List.set_cons_succ])
                        refine wpAnyH_ready (rs := [29]) (by kernel_rfl) (by simp) ?_
                        refine AllReadyH.cons (o := ?oi30) ?hi30 ?ti30 AllReadyH.nil
                        case hi30 => (simp only [List.getElem?_toArray, List.getElem?_cons_succ, List.getElem?_cons_zero]; try rfl)
                        case ti30 =>
                          intro KQ hKQ
                          go_simp
                          go_at_call 17
                          refine Calls.mono (touches_any _ 3 _ [(sB, ((1, 2) : Int × Int)), (tB, (0, 5)), (tB, (7, 9))] ⟨#[115]⟩ _ rfl (hR2.ext (by repeat (first | exact Ext.refl' _ | assumption | apply Ext.ex' | apply Ext.al | apply Ext.drN | apply Ext.dr))) (by decide)) ?_
                          rintro e w1 ⟨he, hb1⟩
                          have he2 : e = .returned (.bool true) := he.trans (by kernel_rfl)
                          clear he
                          subst he2
                          obtain ⟨x29, rfl⟩ := hb1.get
                          clear hb1
                          refine hKQ.out _ _ (by simp [go_sem, ↓IntWalk.iteOmega, *]) (fun hHeld2 => ?_)
                          clear hHeld hKQ KQ; have hHeld := hHeld2; clear hHeld2
                          (try simp only [Act.put, List.setIfInBounds_toArray, List.set_cons_zero, List.set_cons_succ])
                          refine wpAnyH_take (i := 30) (oi := ?oi31) (v := ?v31) ?hi31 (by kernel_rfl) (by kernel_rfl) (by kernel_rfl) ?hQ31 ?hy31 (by assumption) ?_
                          case hi31 => (simp only [List.getElem?_toArray, List.getElem?_cons_succ, List.getElem?_cons_zero]; try rfl)
                          case hQ31 => exact fun _ _ _ h => h
                          case hy31 => (refine Or.inl ⟨by rfl, ?_⟩; intro wq hSw; (try dsimp only at hSw); go_simp; (try with_reducible rfl))
                          (try simp only [Act.put, List.setIfInBounds_toArray, List.set_cons_zero, List.set_cons_succ])
                          refine wpAnyH_take (i := 31) (oi := ?oi32) (v := ?v32) ?hi32 (by kernel_rfl) (by kernel_rfl) (by kernel_rfl) ?hQ32 ?hy32 (by assumption) ?_
                          case hi32 => (simp only [List.getElem?_toArray, List.getElem?_cons_succ, List.getElem?_cons_zero]; try rfl)
                          case hQ32 => exact fun _ _ _ h => h
                          case hy32 => (refine Or.inl ⟨by rfl, ?_⟩; intro wq hSw; (try dsimp only at hSw); go_simp; (try with_reducible rfl))
                          (try simp only [Act.put, List.setIfInBounds_toArray, List.set_cons_zero, List.set_cons_succ])
                          refine wpAnyH_done (by kernel_rfl) ?_ _
                          go_wp2
                          go_ret
                          exact ⟨rfl, hE0.tr (by repeat (first | exact Ext.refl' _ | assumption | apply Ext.ex' | apply Ext.al | apply Ext.drN | apply Ext.dr))⟩

end Go.Proofs.YtpifjhoelnacgaaGreat
