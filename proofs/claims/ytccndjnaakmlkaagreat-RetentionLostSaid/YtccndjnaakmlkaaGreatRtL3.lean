/- The reference Lost; the walk of the law RetentionLost. -/
import Derived.Test.YtccndjnaakmlkaaGreatRtI
import Derived.Test.YtccndjnaakmlkaaGreatRtG
set_option linter.unusedSimpArgs false
set_option linter.unusedVariables false
namespace Go.Proofs.YtccndjnaakmlkaaGreat
open Go.RowKit


theorem psOf_r {w : World} {Z : List VP} : rectsV (vsOf Z) = Z.map (·.1.r) := by simp [rectsV, vsOf]
set_option maxHeartbeats 2000000 in
theorem rlost_any (h : Int) (L H : Option Addr) (cl ch : Nat) (Z : List VP) (hs : List Rct) (w : World) (hl : Rd w 9 L Z.length (verc (vsOf Z))) (hh : Rd w 4 H hs.length (rcl hs)) (nl : Z.length ≤ 30) (nh : hs.length ≤ 12) :
    Calls Tryz.prog 19 #[.slice L Z.length cl, .int .i64 h, .slice H hs.length ch] w (RdP 4 (lostF h (vsOf Z) hs).length (rcl (lostF h (vsOf Z) hs)) w) := by
  have HK := Lib.hid (fun w h1 => rkept_any h H ch hs w h1 (by omega))
  have hkl : (regF ofK (keptF h hs) []).length ≤ 50000 := by have := kept_len (h := h) nh; omega
  have hfl : (rectsV (vsOf Z)).length ≤ 50000 := by rw [rectsV_length]; simp; omega
  have HG := Lib.hid (fun A B ca cb w h1 h2 => rsubtractR_any A B ca cb (rectsV (vsOf Z)) (regF ofK (keptF h hs) []) w h1 h2 hfl hkl)
  have HF : Hid (regF subK (rectsV (vsOf Z)) (regF ofK (keptF h hs) []) = lostF h (vsOf Z) hs) := Lib.hid (lostF_kept h (vsOf Z) hs)
  generalize lostF h (vsOf Z) hs = R at HF ⊢
  generalize regF ofK (keptF h hs) [] = K at HK HG HF hkl
  rw [HF.out] at HG
  clear HF
  go_enter Tryz.func19, Tryz.ntmps19
  go_wp2
  go_loopw [7, 8] (fun s7 s8 wr => ∃ (k : Nat) (acc : List Rct) (x : Add), k ≤ Z.length ∧ acc.length ≤ k ∧ s8 = .int .i64 k ∧ Hid (rectsV (vsOf Z) = acc ++ rectsV (vsOf (Z.drop k))) ∧ wr = ext w x ∧ Own w x 27 4 s7 acc.length (rcl acc)) (fun _ s8 _ => Z.length - (intOf s8).toNat)
  case atStart =>
    obtain ⟨x, hx⟩ := (Ext.refl' w).get
    exact ⟨0, [], x, by omega, by simp, rfl, Lib.hid (by simp), hx, own_nil _ _ _ _⟩
  case round =>
    obtain ⟨k, acc, x, hk, hal, rfl, HC, rfl, hown⟩ := hrel
    by_cases hlt : k < Z.length
    · obtain ⟨vx, HVX, gb, ob, rfl, hgb, d0, d1, d2, d3, d4, d5, d6, d7, d8⟩ := hl.verAt rfl hlt
      have HE : Hid (rectsV (vsOf Z) = acc ++ [vx.r] ++ rectsV (vsOf (Z.drop (k + 1)))) := Lib.hid (by rw [HC.out, List.drop_eq_getElem_cons hlt, HVX.out, List.append_assoc]; rfl)
      clear HC
      have hal' : acc.length ≤ 30 := by omega
      go_wp2_with (first | (go_at_call 23; refine (rrect33_any vx _).mono ?_; rintro e w1 ⟨rfl, hb1⟩; obtain ⟨x1, rfl⟩ := hb1.get; clear hb1) | (at_builtin; refine wpList_app _ rfl (.tmp 15) (.tmp 21) rfl elRect w (by repeat (first | exact Ext.refl' _ | assumption | apply Ext.ex' | apply Ext.al | apply Ext.drN | apply Ext.dr)) _ _ _ rfl (by repeat (first | exact hown | apply World.ownsRow.alloc | apply own_ext)) _ 1 1 [.int .i64 vx.r.1.1, .int .i64 vx.r.1.2, .int .i64 vx.r.2.1, .int .i64 vx.r.2.2] rfl (Rd.lit _ _ _ 1 4 rfl (by simp [size_ext])) (oneCell_rcl [vx.r]) (by unfold maxLen; omega) (by omega) ?_; intro v' x' hown' _))
      go_roundw
      case rel => exact ⟨k + 1, acc ++ [vx.r], x', by omega, by simp; omega, by go_num, HE, rfl, by rw [List.length_append, rcl_append]; exact hown'⟩
      case measure => simp [intOf]; omega
    · have H0 : Hid (rectsV (vsOf Z) = acc) := Lib.hid (by rw [HC.out, List.drop_eq_nil_of_le (Nat.le_of_not_lt hlt)]; simp [rectsV])
      rw [H0.out] at HG
      obtain ⟨A7, c7, rfl, _, _⟩ := Own.form hown
      have hR7 := Rd.of_own hown
      go_wp2_with (first | (go_at_call 37; refine (HK.out _ (hh.ext (by repeat (first | exact Ext.refl' _ | assumption | apply Ext.ex' | apply Ext.al | apply Ext.drN | apply Ext.dr)))).mono ?_; rintro e w1 ⟨Ak, ck, rfl, hb1, hRk⟩; obtain ⟨xk, rfl⟩ := hb1.get; clear hb1) | (go_at_call 36; refine (HG.out _ _ _ _ _ (hR7.ext (by repeat (first | exact Ext.refl' _ | assumption | apply Ext.ex' | apply Ext.al | apply Ext.drN | apply Ext.dr))) hRk).mono ?_; rintro e w1 ⟨A3, c3, rfl, hb1, hR3⟩; obtain ⟨x3, rfl⟩ := hb1.get; clear hb1))
      go_ret
      exact ⟨A3, c3, rfl, by repeat (first | exact Ext.refl' _ | assumption | apply Ext.ex' | apply Ext.al | apply Ext.drN | apply Ext.dr), hR3⟩
theorem tlostZ_any (h : Int) (L H : Option Addr) (cl ch : Nat) (Z : List VP) (hs : List Rct) (w : World) (hl : Rd w 9 L Z.length (verc (vsOf Z))) (hh : Rd w 4 H hs.length (rcl hs)) (nl : Z.length ≤ 30) (nh : hs.length ≤ 12) :
    Calls Tryz.prog 18 #[.slice L Z.length cl, .int .i64 h, .slice H hs.length ch] w (RdP 4 (lostF h (vsOf Z) hs).length (rcl (lostF h (vsOf Z) hs)) w) := by
  have e : (vsOf Z).length = Z.length := by simp
  have hk := tlost_any h L H cl ch (vsOf Z) hs w (by rw [e]; exact hl) hh (by omega) nh
  rwa [e] at hk
theorem lost_len {h : Int} {Z : List VP} {hs : List Rct} (nl : Z.length ≤ 30) (nh : hs.length ≤ 12) : (lostF h (vsOf Z) hs).length ≤ 9223372036854775807 := by
  unfold lostF
  refine regF_big ?_ ?_
  · have := List.length_filter_le rvB (rectsV (vsOf Z)); rw [rectsV_length] at this; simp at this; omega
  · rw [keepF_length]; omega


set_option maxRecDepth 100000 in
set_option maxHeartbeats 8000000 in
theorem lawLost_any (LA HA : Option Addr) (lc hc : Nat) (Z : List VP) (hs : List Rct) (h la : Int) (r : Rct) (v t : Int) (w : World) (hl : Rd w 9 LA Z.length (verc (vsOf Z))) (hz : ∀ z ∈ Z, VerIs w z.1 z.2) (hh : Rd w 4 HA hs.length (rcl hs)) (nl : Z.length ≤ 9223372036854775807) (nh : hs.length ≤ 9223372036854775807) (nr : ∀ z ∈ Z, z.1.rn ≤ 9223372036854775807) :
    Calls Tryz.prog 6 #[.agg #[.slice LA Z.length lc, .int .i64 h, .int .i64 la, .slice HA hs.length hc, .int .i64 r.1.1, .int .i64 r.1.2, .int .i64 r.2.1, .int .i64 r.2.2, .int .i64 v, .int .i64 t]] w fun e w' => e = .returned (.bool true) ∧ Ext w w' := by
  have HL := Lib.hid (fun w h1 => rlargeZ_any LA HA lc hc Z hs w h1 nl nh nr)
  rcases hlg : largeB (vsOf Z) hs with _ | _
  · obtain ⟨nl', nh', nr'⟩ := large_no hlg
    rw [hlg] at HL
    clear hlg
    have HT := Lib.hid (fun w h1 h2 => tlostZ_any h LA HA lc hc Z hs w h1 h2 nl' nh')
    have HR := Lib.hid (fun w h1 h2 => rlost_any h LA HA lc hc Z hs w h1 h2 nl' nh')
    have hRl := lost_len (h := h) nl' nh'
    generalize lostF h (vsOf Z) hs = R at HT HR hRl
    go_enter Tryz.func6, Tryz.ntmps6
    go_wp2_with fail
    refine Calls.mono (HL.out _ (hl.ext (by repeat (first | exact Ext.refl' _ | assumption | apply Ext.ex' | apply Ext.al | apply Ext.drN | apply Ext.dr)))) ?_
    rintro e W1 ⟨rfl, HE⟩
    have hE1 : Ext w W1 := Ext.tr (by repeat (first | exact Ext.refl' _ | assumption | apply Ext.ex' | apply Ext.al | apply Ext.drN | apply Ext.dr)) HE
    have hs1 := HE.size
    simp only [size_ext, World.size_alloc] at hs1
    have k0 : W1.cell? ⟨w.heap.size, 0, none⟩ = some (.slice LA Z.length lc) := HE.cell' (by simp [go_sem, ↓IntWalk.iteOmega])
    have k1 : W1.cell? ⟨w.heap.size, 1, none⟩ = some (.int .i64 h) := HE.cell' (by simp [go_sem, ↓IntWalk.iteOmega])
    have k2 : W1.cell? ⟨w.heap.size, 2, none⟩ = some (.int .i64 la) := HE.cell' (by simp [go_sem, ↓IntWalk.iteOmega])
    have k3 : W1.cell? ⟨w.heap.size, 3, none⟩ = some (.slice HA hs.length hc) := HE.cell' (by simp [go_sem, ↓IntWalk.iteOmega])
    have k4 : W1.cell? ⟨w.heap.size, 4, none⟩ = some (.int .i64 r.1.1) := HE.cell' (by simp [go_sem, ↓IntWalk.iteOmega])
    have k5 : W1.cell? ⟨w.heap.size, 5, none⟩ = some (.int .i64 r.1.2) := HE.cell' (by simp [go_sem, ↓IntWalk.iteOmega])
    have k6 : W1.cell? ⟨w.heap.size, 6, none⟩ = some (.int .i64 r.2.1) := HE.cell' (by simp [go_sem, ↓IntWalk.iteOmega])
    have k7 : W1.cell? ⟨w.heap.size, 7, none⟩ = some (.int .i64 r.2.2) := HE.cell' (by simp [go_sem, ↓IntWalk.iteOmega])
    have k8 : W1.cell? ⟨w.heap.size, 8, none⟩ = some (.int .i64 v) := HE.cell' (by simp [go_sem, ↓IntWalk.iteOmega])
    have k9 : W1.cell? ⟨w.heap.size, 9, none⟩ = some (.int .i64 t) := HE.cell' (by simp [go_sem, ↓IntWalk.iteOmega])
    clear HE
    have hl1 := hl.ext hE1
    have hh1 := hh.ext hE1
    clear hl hh
    go_wp2_with fail
    refine wp_region_held_drew (S := (fun w' => w'.cell? ⟨w.heap.size, 0, none⟩ = some (.slice LA Z.length lc) ∧ w'.cell? ⟨w.heap.size, 1, none⟩ = some (.int .i64 h) ∧ w'.cell? ⟨w.heap.size, 3, none⟩ = some (.slice HA hs.length hc))) (by kernel_rfl) (by simp [go_sem, ↓IntWalk.iteOmega, *]) (fun hHeld => ?_)
    refine wpAnyH_take (i := 0) (oi := ?oi1) (v := ?v1) ?hi1 (by kernel_rfl) (by kernel_rfl) (by kernel_rfl) ?hQ1 ?hy1 (by assumption) ?_
    case hi1 => (simp only [List.getElem?_toArray, List.getElem?_cons_succ, List.getElem?_cons_zero]; rfl)
    case hQ1 => exact fun _ _ _ h => h
    case hy1 => (refine Or.inl ⟨by rfl, ?_⟩; intro wq hSw; (try dsimp only at hSw); go_simp; (try with_reducible rfl))
    (try simp only [Act.put, List.setIfInBounds_toArray, List.set_cons_zero, List.set_cons_succ])
    refine wpAnyH_take (i := 1) (oi := ?oi2) (v := ?v2) ?hi2 (by kernel_rfl) (by kernel_rfl) (by kernel_rfl) ?hQ2 ?hy2 (by assumption) ?_
    case hi2 => (simp only [List.getElem?_toArray, List.getElem?_cons_succ, List.getElem?_cons_zero]; rfl)
    case hQ2 => exact fun _ _ _ h => h
    case hy2 => (refine Or.inl ⟨by rfl, ?_⟩; intro wq hSw; (try dsimp only at hSw); go_simp; (try with_reducible rfl))
    (try simp only [Act.put, List.setIfInBounds_toArray, List.set_cons_zero, List.set_cons_succ])
    refine wpAnyH_take (i := 2) (oi := ?oi3) (v := ?v3) ?hi3 (by kernel_rfl) (by kernel_rfl) (by kernel_rfl) ?hQ3 ?hy3 (by assumption) ?_
    case hi3 => (simp only [List.getElem?_toArray, List.getElem?_cons_succ, List.getElem?_cons_zero]; rfl)
    case hQ3 => exact fun _ _ _ h => h
    case hy3 => (refine Or.inl ⟨by rfl, ?_⟩; intro wq hSw; (try dsimp only at hSw); go_simp; (try with_reducible rfl))
    (try simp only [Act.put, List.setIfInBounds_toArray, List.set_cons_zero, List.set_cons_succ])
    refine wpAnyH_take (i := 3) (oi := ?oi4) (v := ?v4) ?hi4 (by kernel_rfl) (by kernel_rfl) (by kernel_rfl) ?hQ4 ?hy4 (by assumption) ?_
    case hi4 => (simp only [List.getElem?_toArray, List.getElem?_cons_succ, List.getElem?_cons_zero]; rfl)
    case hQ4 => exact fun _ _ _ h => h
    case hy4 => (refine Or.inl ⟨by rfl, ?_⟩; intro wq hSw; (try dsimp only at hSw); go_simp; (try with_reducible rfl))
    (try simp only [Act.put, List.setIfInBounds_toArray, List.set_cons_zero, List.set_cons_succ])
    refine wpAnyH_take (i := 4) (oi := ?oi5) (v := ?v5) ?hi5 (by kernel_rfl) (by kernel_rfl) (by kernel_rfl) ?hQ5 ?hy5 (by assumption) ?_
    case hi5 => (simp only [List.getElem?_toArray, List.getElem?_cons_succ, List.getElem?_cons_zero]; rfl)
    case hQ5 => exact fun _ _ _ h => h
    case hy5 => (refine Or.inl ⟨by rfl, ?_⟩; intro wq hSw; (try dsimp only at hSw); go_simp; (try with_reducible rfl))
    (try simp only [Act.put, List.setIfInBounds_toArray, List.set_cons_zero, List.set_cons_succ])
    refine wpAnyH_take (i := 5) (oi := ?oi6) (v := ?v6) ?hi6 (by kernel_rfl) (by kernel_rfl) (by kernel_rfl) ?hQ6 ?hy6 (by assumption) ?_
    case hi6 => (simp only [List.getElem?_toArray, List.getElem?_cons_succ, List.getElem?_cons_zero]; rfl)
    case hQ6 => exact fun _ _ _ h => h
    case hy6 => (refine Or.inl ⟨by rfl, ?_⟩; intro wq hSw; (try dsimp only at hSw); go_simp; (try with_reducible rfl))
    (try simp only [Act.put, List.setIfInBounds_toArray, List.set_cons_zero, List.set_cons_succ])
    refine wpAnyH_take (i := 7) (oi := ?oi7) (v := ?v7) ?hi7 (by kernel_rfl) (by kernel_rfl) (by kernel_rfl) ?hQ7 ?hy7 (by assumption) ?_
    case hi7 => (simp only [List.getElem?_toArray, List.getElem?_cons_succ, List.getElem?_cons_zero]; rfl)
    case hQ7 => exact fun _ _ _ h => h
    case hy7 => (refine Or.inl ⟨by rfl, ?_⟩; intro wq hSw; (try dsimp only at hSw); go_simp; (try with_reducible rfl))
    (try simp only [Act.put, List.setIfInBounds_toArray, List.set_cons_zero, List.set_cons_succ])
    refine wpAnyH_take (i := 8) (oi := ?oi8) (v := ?v8) ?hi8 (by kernel_rfl) (by kernel_rfl) (by kernel_rfl) ?hQ8 ?hy8 (by assumption) ?_
    case hi8 => (simp only [List.getElem?_toArray, List.getElem?_cons_succ, List.getElem?_cons_zero]; rfl)
    case hQ8 => exact fun _ _ _ h => h
    case hy8 => (refine Or.inl ⟨by rfl, ?_⟩; intro wq hSw; (try dsimp only at hSw); go_simp; (try with_reducible rfl))
    (try simp only [Act.put, List.setIfInBounds_toArray, List.set_cons_zero, List.set_cons_succ])
    refine wpAnyH_take (i := 9) (oi := ?oi9) (v := ?v9) ?hi9 (by kernel_rfl) (by kernel_rfl) (by kernel_rfl) ?hQ9 ?hy9 (by assumption) ?_
    case hi9 => (simp only [List.getElem?_toArray, List.getElem?_cons_succ, List.getElem?_cons_zero]; rfl)
    case hQ9 => exact fun _ _ _ h => h
    case hy9 => (refine Or.inl ⟨by rfl, ?_⟩; intro wq hSw; (try dsimp only at hSw); go_simp; (try with_reducible rfl))
    (try simp only [Act.put, List.setIfInBounds_toArray, List.set_cons_zero, List.set_cons_succ])
    refine wpAnyH_take (i := 10) (oi := ?oi10) (v := ?v10) ?hi10 (by kernel_rfl) (by kernel_rfl) (by kernel_rfl) ?hQ10 ?hy10 (by assumption) ?_
    case hi10 => (simp only [List.getElem?_toArray, List.getElem?_cons_succ, List.getElem?_cons_zero]; rfl)
    case hQ10 => exact fun _ _ _ h => h
    case hy10 => (refine Or.inl ⟨by rfl, ?_⟩; intro wq hSw; (try dsimp only at hSw); go_simp; (try with_reducible rfl))
    (try simp only [Act.put, List.setIfInBounds_toArray, List.set_cons_zero, List.set_cons_succ])
    refine wpAnyH_take (i := 11) (oi := ?oi11) (v := ?v11) ?hi11 (by kernel_rfl) (by kernel_rfl) (by kernel_rfl) ?hQ11 ?hy11 (by assumption) ?_
    case hi11 => (simp only [List.getElem?_toArray, List.getElem?_cons_succ, List.getElem?_cons_zero]; rfl)
    case hQ11 => exact fun _ _ _ h => h
    case hy11 => (refine Or.inl ⟨by rfl, ?_⟩; intro wq hSw; (try dsimp only at hSw); go_simp; (try with_reducible rfl))
    (try simp only [Act.put, List.setIfInBounds_toArray, List.set_cons_zero, List.set_cons_succ])
    refine wpAnyH_take (i := 12) (oi := ?oi12) (v := ?v12) ?hi12 (by kernel_rfl) (by kernel_rfl) (by kernel_rfl) ?hQ12 ?hy12 (by assumption) ?_
    case hi12 => (simp only [List.getElem?_toArray, List.getElem?_cons_succ, List.getElem?_cons_zero]; rfl)
    case hQ12 => exact fun _ _ _ h => h
    case hy12 => (refine Or.inl ⟨by rfl, ?_⟩; intro wq hSw; (try dsimp only at hSw); go_simp; (try with_reducible rfl))
    (try simp only [Act.put, List.setIfInBounds_toArray, List.set_cons_zero, List.set_cons_succ])
    refine wpAnyH_ready (rs := [6]) (by kernel_rfl) (by simp) ?_
    refine AllReadyH.cons (o := ?oi13) ?hi13 ?ti13 AllReadyH.nil
    case hi13 => (simp only [List.getElem?_toArray, List.getElem?_cons_succ, List.getElem?_cons_zero]; rfl)
    case ti13 =>
      intro K hK
      go_simp
      go_at_call 18
      refine Calls.mono (HT.out _ (hl1.ext (by repeat (first | exact Ext.refl' _ | assumption | apply Ext.ex' | apply Ext.al | apply Ext.drN | apply Ext.dr))) (hh1.ext (by repeat (first | exact Ext.refl' _ | assumption | apply Ext.ex' | apply Ext.al | apply Ext.drN | apply Ext.dr)))) ?_
      rintro e w1 ⟨A1, c1, rfl, hb1, hR1⟩
      obtain ⟨x1, rfl⟩ := hb1.get
      clear hb1
      refine hK.out _ _ (by simp [go_sem, ↓IntWalk.iteOmega, *]) (fun hHeld2 => ?_)
      clear hHeld hK K; have hHeld := hHeld2; clear hHeld2
      (try simp only [Act.put, List.setIfInBounds_toArray, List.set_cons_zero, List.set_cons_succ])
      refine wpAnyH_ready (rs := [13]) (by kernel_rfl) (by simp) ?_
      refine AllReadyH.cons (o := ?oi14) ?hi14 ?ti14 AllReadyH.nil
      case hi14 => (simp only [List.getElem?_toArray, List.getElem?_cons_succ, List.getElem?_cons_zero]; rfl)
      case ti14 =>
        intro K hK
        go_simp
        go_at_call 19
        refine Calls.mono (HR.out _ (hl1.ext (by repeat (first | exact Ext.refl' _ | assumption | apply Ext.ex' | apply Ext.al | apply Ext.drN | apply Ext.dr))) (hh1.ext (by repeat (first | exact Ext.refl' _ | assumption | apply Ext.ex' | apply Ext.al | apply Ext.drN | apply Ext.dr)))) ?_
        rintro e w1 ⟨A2, c2, rfl, hb1, hR2⟩
        obtain ⟨x2, rfl⟩ := hb1.get
        clear hb1
        refine hK.out _ _ (by simp [go_sem, ↓IntWalk.iteOmega, *]) (fun hHeld2 => ?_)
        clear hHeld hK K; have hHeld := hHeld2; clear hHeld2
        (try simp only [Act.put, List.setIfInBounds_toArray, List.set_cons_zero, List.set_cons_succ])
        refine wpAnyH_ready (rs := [14]) (by kernel_rfl) (by simp) ?_
        refine AllReadyH.cons (o := ?oi15) ?hi15 ?ti15 AllReadyH.nil
        case hi15 => (simp only [List.getElem?_toArray, List.getElem?_cons_succ, List.getElem?_cons_zero]; rfl)
        case ti15 =>
          intro K hK
          go_simp
          go_at_call 17
          refine Calls.mono (rects_yes _ _ _ _ R.length R rfl _ (hR1.ext (by repeat (first | exact Ext.refl' _ | assumption | apply Ext.ex' | apply Ext.al | apply Ext.drN | apply Ext.dr))) hR2 hRl) ?_
          rintro e w1 ⟨rfl, hb1⟩
          obtain ⟨x3, rfl⟩ := hb1.get
          clear hb1
          refine hK.out _ _ (by simp [go_sem, ↓IntWalk.iteOmega, *]) (fun hHeld2 => ?_)
          clear hHeld hK K; have hHeld := hHeld2; clear hHeld2
          (try simp only [Act.put, List.setIfInBounds_toArray, List.set_cons_zero, List.set_cons_succ])
          refine wpAnyH_take (i := 15) (oi := ?oi16) (v := ?v16) ?hi16 (by kernel_rfl) (by kernel_rfl) (by kernel_rfl) ?hQ16 ?hy16 (by assumption) ?_
          case hi16 => (simp only [List.getElem?_toArray, List.getElem?_cons_succ, List.getElem?_cons_zero]; rfl)
          case hQ16 => exact fun _ _ _ h => h
          case hy16 => (refine Or.inl ⟨by rfl, ?_⟩; intro wq hSw; (try dsimp only at hSw); go_simp; (try with_reducible rfl))
          (try simp only [Act.put, List.setIfInBounds_toArray, List.set_cons_zero, List.set_cons_succ])
          refine wpAnyH_ready (rs := [16]) (by kernel_rfl) (by simp) ?_
          refine AllReadyH.cons (o := ?oi17) ?hi17 ?ti17 AllReadyH.nil
          case hi17 => (simp only [List.getElem?_toArray, List.getElem?_cons_succ, List.getElem?_cons_zero]; rfl)
          case ti17 =>
            intro K hK
            go_simp
            go_at_call 8
            refine Calls.mono (awake33_any _) ?_
            rintro e w1 ⟨rfl, hb1⟩
            obtain ⟨x4, rfl⟩ := hb1.get
            clear hb1
            refine hK.out _ _ (by simp [go_sem, ↓IntWalk.iteOmega, *]) (fun hHeld2 => ?_)
            clear hHeld hK K; have hHeld := hHeld2; clear hHeld2
            (try simp only [Act.put, List.setIfInBounds_toArray, List.set_cons_zero, List.set_cons_succ])
            refine wpAnyH_take (i := 17) (oi := ?oi18) (v := ?v18) ?hi18 (by kernel_rfl) (by kernel_rfl) (by kernel_rfl) ?hQ18 ?hy18 (by assumption) ?_
            case hi18 => (simp only [List.getElem?_toArray, List.getElem?_cons_succ, List.getElem?_cons_zero]; rfl)
            case hQ18 => exact fun _ _ _ h => h
            case hy18 => (refine Or.inl ⟨by rfl, ?_⟩; intro wq hSw; (try dsimp only at hSw); go_simp; (try with_reducible rfl))
            (try simp only [Act.put, List.setIfInBounds_toArray, List.set_cons_zero, List.set_cons_succ])
            refine wpAnyH_take (i := 18) (oi := ?oi19) (v := ?v19) ?hi19 (by kernel_rfl) (by kernel_rfl) (by kernel_rfl) ?hQ19 ?hy19 (by assumption) ?_
            case hi19 => (simp only [List.getElem?_toArray, List.getElem?_cons_succ, List.getElem?_cons_zero]; rfl)
            case hQ19 => exact fun _ _ _ h => h
            case hy19 => (refine Or.inl ⟨by rfl, ?_⟩; intro wq hSw; (try dsimp only at hSw); go_simp; (try with_reducible rfl))
            (try simp only [Act.put, List.setIfInBounds_toArray, List.set_cons_zero, List.set_cons_succ])
            refine wpAnyH_done (by kernel_rfl) ?_ _
            go_wp2
            go_ret
            exact ⟨rfl, hE1.tr (by repeat (first | exact Ext.refl' _ | assumption | apply Ext.ex' | apply Ext.al | apply Ext.drN | apply Ext.dr))⟩
  · rw [hlg] at HL
    clear hlg
    go_enter Tryz.func6, Tryz.ntmps6
    go_wp2_with (first | (go_at_call 7; refine (HL.out _ (hl.ext (by repeat (first | exact Ext.refl' _ | assumption | apply Ext.ex' | apply Ext.al | apply Ext.drN | apply Ext.dr)))).mono ?_; rintro e w1 ⟨rfl, hb1⟩; obtain ⟨xl, rfl⟩ := hb1.get; clear hb1) | (go_at_call 8; refine (awake33_any _).mono ?_; rintro e w1 ⟨rfl, hb1⟩; obtain ⟨xaw, rfl⟩ := hb1.get; clear hb1))
    go_ret
    exact ⟨rfl, by repeat (first | exact Ext.refl' _ | assumption | apply Ext.ex' | apply Ext.al | apply Ext.drN | apply Ext.dr)⟩

end Go.Proofs.YtccndjnaakmlkaaGreat
