/- Packed trees: the law RtreeSame. -/
import Derived.Test.YtgobmiahhmajdaaTrX
import Derived.Test.YtgobmiahhmajdaaTrYp
import Derived.Deep.RegionHeld3
set_option linter.unusedSimpArgs false
set_option linter.unusedVariables false
namespace Go.Proofs.Ytgobmiahhmajdaa
open Go.RowKit


set_option maxRecDepth 100000 in
set_option maxHeartbeats 16000000 in
theorem lawSame_any (A : Option Addr) (c : Nat) (L : List Bxs) (p s : Int) (q : Rct) (w : World) (hR : Rd w 5 A L.length (bxl L)) (hc : L.length ≤ c) (hl : L.length ≤ 9223372036854775807) (hwf : ∀ b ∈ L, (Lit.int .i64 b.2).wf = true) (hp : (Lit.int .u8 p).wf = true) (hs : (Lit.int .u8 s).wf = true) :
    Calls Try.prog 6 #[.slice A L.length c, .int .u8 p, .int .u8 s, rx q] w fun e w' => e = .returned (.bool true) ∧ Ext w w' := by
  by_cases hbig : 200 < L.length
  · go_enter Try.func6, Try.ntmps6
    go_wp2_with (go_at_call 9; refine (works_any _).mono ?_; rintro e w1 ⟨rfl, hb1⟩; obtain ⟨z, rfl⟩ := hb1.get; clear hb1)
    go_ret
    exact ⟨rfl, by repeat (first | exact Ext.refl' _ | assumption | apply Ext.ex' | apply Ext.al | apply Ext.drN | apply Ext.dr)⟩
  · have h200 : L.length ≤ 200 := by omega
    obtain ⟨p0, p1, p2, p3⟩ := wd_63 hp
    obtain ⟨s0, s1, s2, s3⟩ := wd_63 hs
    clear hp hs
    have HB := Lib.hid (fun w h => buildU A L.length c (2 + p % 63) L w rfl h (by omega) hc hwf)
    have HMw : ∀ b ∈ L.reverse, (Lit.int .i64 b.2).wf = true := fun b hb => hwf b (List.mem_reverse.1 hb)
    have HB2 := Lib.hid (fun A c w (hc : L.length ≤ c) h => buildU A L.length c (2 + s % 63) L.reverse w (by simp) h (by omega) hc HMw)
    have hse := same_err ⟨p2, p3⟩ ⟨s2, s3⟩ L.reverse_perm h200
    have HS1 := Lib.hid (fun a w h => searchU (2 + p % 63) L h200 q a ((loE (2 + p % 63) L).length : Nat) (rdE (2 + p % 63) L : Nat) w h)
    have HS2 := Lib.hid (fun a w h => searchU (2 + s % 63) L.reverse (by simpa using h200) q a ((loE (2 + s % 63) L.reverse).length : Nat) (rdE (2 + s % 63) L.reverse : Nat) w h)
    have HT1 := Lib.hid (fun a w h => stabU (2 + p % 63) L h200 q.1.1 q.2.1 a ((loE (2 + p % 63) L).length : Nat) (rdE (2 + p % 63) L : Nat) w h)
    have HT2 := Lib.hid (fun a w h => stabU (2 + s % 63) L.reverse (by simpa using h200) q.1.1 q.2.1 a ((loE (2 + s % 63) L.reverse).length : Nat) (rdE (2 + s % 63) L.reverse : Nat) w h)
    have HBo := Lib.hid (fun a w h => boundsU (2 + p % 63) L a ((loE (2 + p % 63) L).length : Nat) (rdE (2 + p % 63) L : Nat) w h)
    have HBo2 := Lib.hid (fun a w h => boundsU (2 + s % 63) L.reverse a ((loE (2 + s % 63) L.reverse).length : Nat) (rdE (2 + s % 63) L.reverse : Nat) w h)
    have hzl := Nat.le_trans (rsF_length (loE (2 + p % 63) L) q) (lo_le (2 + p % 63) L)
    have htl := Nat.le_trans (rtF_length (loE (2 + p % 63) L) q.1.1 q.2.1) (lo_le (2 + p % 63) L)
    have hlo := fun h1 h2 => same_lo (w1 := 2 + p % 63) (w2 := 2 + s % 63) (L := L) (M := L.reverse) h1 h2 L.reverse_perm
    have hss : errF (2 + p % 63) L = 0 → errF (2 + s % 63) L.reverse = 0 → rsF (loE (2 + s % 63) L.reverse) q = rsF (loE (2 + p % 63) L) q := fun h1 h2 => by rw [hlo h1 h2]
    have htt : errF (2 + p % 63) L = 0 → errF (2 + s % 63) L.reverse = 0 → rtF (loE (2 + s % 63) L.reverse) q.1.1 q.2.1 = rtF (loE (2 + p % 63) L) q.1.1 q.2.1 := fun h1 h2 => by rw [hlo h1 h2]
    have hbb : errF (2 + p % 63) L = 0 → errF (2 + s % 63) L.reverse = 0 → rbF (loE (2 + s % 63) L.reverse) = rbF (loE (2 + p % 63) L) := fun h1 h2 => by rw [hlo h1 h2]
    have hll : errF (2 + p % 63) L = 0 → errF (2 + s % 63) L.reverse = 0 → (loE (2 + s % 63) L.reverse).length = (loE (2 + p % 63) L).length := fun h1 h2 => by rw [hlo h1 h2]
    clear hlo
    generalize rsF (loE (2 + p % 63) L) q = zs at HS1 hzl hss
    generalize rsF (loE (2 + s % 63) L.reverse) q = zs2 at HS2 hss
    generalize rtF (loE (2 + p % 63) L) q.1.1 q.2.1 = ts at HT1 htl htt
    generalize rtF (loE (2 + s % 63) L.reverse) q.1.1 q.2.1 = ts2 at HT2 htt
    generalize rbF (loE (2 + p % 63) L) = bd at HBo hbb
    generalize rbF (loE (2 + s % 63) L.reverse) = bd2 at HBo2 hbb
    generalize (loE (2 + p % 63) L).length = n1 at HB HS1 HT1 HBo hll
    generalize (loE (2 + s % 63) L.reverse).length = n2 at HB2 HS2 HT2 HBo2 hll
    generalize rtE (2 + p % 63) L = root1 at HB HS1 HT1 HBo
    generalize rtE (2 + s % 63) L.reverse = root2 at HB2 HS2 HT2 HBo2
    generalize ((rdE (2 + p % 63) L : Nat) : Int) = d1 at HB HS1 HT1 HBo
    generalize ((rdE (2 + s % 63) L.reverse : Nat) : Int) = d2 at HB2 HS2 HT2 HBo2
    generalize errF (2 + p % 63) L = er1 at HB hse hss htt hbb hll
    generalize errF (2 + s % 63) L.reverse = er2 at HB2 hse hss htt hbb hll
    clear hwf HMw
    go_enter Try.func6, Try.ntmps6
    go_wp2
    go_loopw [9, 25] (fun nx i wr => ∃ (j : Nat) (N : List Bxs) (y : Add), j ≤ L.length ∧ i = .int .i64 j ∧ N.length ≤ j ∧ Hid (N = L.reverse.take j) ∧ wr = ext (w.alloc (.cells #[.int .i64 q.1.1, .int .i64 q.1.2, .int .i64 q.2.1, .int .i64 q.2.2] 31)) y ∧ Own (w.alloc (.cells #[.int .i64 q.1.1, .int .i64 q.1.2, .int .i64 q.2.1, .int .i64 q.2.2] 31)) y 55 5 nx N.length (bxl N)) (fun _ i _ => L.length - (intOf i).toNat)
    case atStart => (obtain ⟨y, hy⟩ := (Ext.refl' (w.alloc (.cells #[.int .i64 q.1.1, .int .i64 q.1.2, .int .i64 q.2.1, .int .i64 q.2.2] 31))).get; exact ⟨0, [], y, Nat.zero_le _, rfl, Nat.le_refl _, Lib.hid rfl, hy, own_nil _ _ _ _⟩)
    case round =>
      obtain ⟨j, N, y, hj, rfl, hNl, HN, rfl, hown⟩ := hrel
      by_cases hlt2 : j < L.length
      · obtain ⟨k, hk⟩ : ∃ k, L.length = k + 1 + j := ⟨L.length - 1 - j, by omega⟩
        have hkl : k < L.length := by omega
        have HD := Lib.hid (rev_take L hk hkl)
        obtain ⟨b, o, rfl, hb, e0, e1, e2, e3, e4⟩ := hR.box rfl hkl
        generalize L[k] = xb at e0 e1 e2 e3 e4 HD
        have HN2 : Hid (N ++ [xb] = L.reverse.take (j + 1)) := Lib.hid (by rw [HN.out, HD.out])
        have hix : (L.length : Int) - 1 - (j : Int) = (k : Int) := by omega
        clear HN HD hk
        go_wp2_with (at_builtin; refine wpList_app _ rfl (.tmp 28) (.tmp 37) rfl elBox (w.alloc (.cells #[.int .i64 q.1.1, .int .i64 q.1.2, .int .i64 q.2.1, .int .i64 q.2.2] 31)) (by repeat (first | exact Ext.refl' _ | assumption | apply Ext.ex' | apply Ext.al | apply Ext.drN | apply Ext.dr)) _ _ _ rfl (by repeat (first | exact hown | apply World.ownsRow.alloc | apply own_ext)) _ 1 1 (encX xb) rfl (Rd.lit _ #[.int .i64 xb.1.1.1, .int .i64 xb.1.1.2, .int .i64 xb.1.2.1, .int .i64 xb.1.2.2, .int .i64 xb.2] _ 1 5 rfl (by simp [size_ext])) (by rw [← bxl_one]; exact oneCell_bxl _) (by unfold maxLen; omega) (by omega) ?_; intro v' x' hown' _)
        go_roundw
        case rel => exact ⟨j + 1, N ++ [xb], x', by omega, by go_num, by simp; omega, HN2, rfl, by simpa [bxl_append, bxl_one] using hown'⟩
        case measure => simp [intOf]; omega
      · obtain rfl : N = L.reverse := by rw [HN.out, List.take_of_length_le (by simp; omega)]
        clear HN
        obtain ⟨A6, c6, rfl, hn6, hc6⟩ := Own.form hown
        have hR6 := Rd.of_own hown
        rw [List.length_reverse] at hR6 hn6
        clear hown
        clear hj
        go_wp2_with fail
        refine Calls.mono (HB.out _ (hR.ext (by repeat (first | exact Ext.refl' _ | assumption | apply Ext.ex' | apply Ext.al | apply Ext.drN | apply Ext.dr)))) ?_
        rintro e w1 ⟨a, rfl, hb1, hT, hne1, hne2⟩
        have hE1 : Ext (w.alloc (.cells #[.int .i64 q.1.1, .int .i64 q.1.2, .int .i64 q.2.1, .int .i64 q.2.2] 31)) w1 := Ext.tr (by repeat (first | exact Ext.refl' _ | assumption | apply Ext.ex' | apply Ext.al | apply Ext.drN | apply Ext.dr)) hb1
        go_wp2_with fail
        refine Calls.mono (HB2.out _ _ _ hn6 (hR6.ext hb1)) ?_
        rintro e w2 ⟨a2, rfl, hb2, hT2, hne3, hne4⟩
        have hT1 := hT.ext hb2
        have hE2 : Ext (w.alloc (.cells #[.int .i64 q.1.1, .int .i64 q.1.2, .int .i64 q.2.1, .int .i64 q.2.2] 31)) w2 := hE1.tr hb2
        clear hb1 hE1 hT hb2
        by_cases h1 : er1 = 0
        · have h2 := hse.1 h1
          obtain rfl := (hss h1 h2).symm
          obtain rfl := (htt h1 h2).symm
          obtain rfl := (hbb h1 h2).symm
          obtain rfl := (hll h1 h2).symm
          obtain ⟨rc, okb⟩ := bd
          have g1 : (er1 != 0) = false := by simp [h1]
          have g2 : (er2 != 0) = false := by simp [h2]
          clear hse hss htt hbb hll hne1 hne2 hne3 hne4 h1 h2
          go_wp2_with fail
          refine Calls.mono (HBo.out _ _ (hT1.ext (by repeat (first | exact Ext.refl' _ | assumption | apply Ext.ex' | apply Ext.al | apply Ext.drN | apply Ext.dr)))) ?_
          rintro e w3 ⟨rfl, hb3⟩
          have hE3 : Ext (w.alloc (.cells #[.int .i64 q.1.1, .int .i64 q.1.2, .int .i64 q.2.1, .int .i64 q.2.2] 31)) w3 := hE2.tr (Ext.tr (by repeat (first | exact Ext.refl' _ | assumption | apply Ext.ex' | apply Ext.al | apply Ext.drN | apply Ext.dr)) hb3)
          have hT1 := hT1.ext (Ext.tr (by repeat (first | exact Ext.refl' _ | assumption | apply Ext.ex' | apply Ext.al | apply Ext.drN | apply Ext.dr)) hb3)
          have hT2 := hT2.ext (Ext.tr (by repeat (first | exact Ext.refl' _ | assumption | apply Ext.ex' | apply Ext.al | apply Ext.drN | apply Ext.dr)) hb3)
          clear hb3
          go_wp2_with fail
          refine Calls.mono (HBo2.out _ _ (hT2.ext (by repeat (first | exact Ext.refl' _ | assumption | apply Ext.ex' | apply Ext.al | apply Ext.drN | apply Ext.dr)))) ?_
          rintro e w4 ⟨rfl, hb4⟩
          have hE34 : Ext w3 w4 := Ext.tr (by repeat (first | exact Ext.refl' _ | assumption | apply Ext.ex' | apply Ext.al | apply Ext.drN | apply Ext.dr)) hb4
          have hE4 : Ext (w.alloc (.cells #[.int .i64 q.1.1, .int .i64 q.1.2, .int .i64 q.2.1, .int .i64 q.2.2] 31)) w4 := hE3.tr hE34
          have hE0 : Ext w w4 := Ext.tr (by repeat (first | exact Ext.refl' _ | assumption | apply Ext.ex' | apply Ext.al | apply Ext.drN | apply Ext.dr)) hE4
          have hT1 := hT1.ext hE34
          have hT2 := hT2.ext hE34
          have r0 : w4.cell? ⟨w.heap.size, 0, none⟩ = some (.int .i64 q.1.1) := hE4.cell' (by simp [go_sem, ↓IntWalk.iteOmega])
          have r1 : w4.cell? ⟨w.heap.size, 1, none⟩ = some (.int .i64 q.1.2) := hE4.cell' (by simp [go_sem, ↓IntWalk.iteOmega])
          have r2 : w4.cell? ⟨w.heap.size, 2, none⟩ = some (.int .i64 q.2.1) := hE4.cell' (by simp [go_sem, ↓IntWalk.iteOmega])
          have r3 : w4.cell? ⟨w.heap.size, 3, none⟩ = some (.int .i64 q.2.2) := hE4.cell' (by simp [go_sem, ↓IntWalk.iteOmega])
          have b0 : w4.cell? ⟨w3.heap.size, 0, none⟩ = some (.int .i64 rc.1.1) := hb4.cell' (by simp [go_sem, ↓IntWalk.iteOmega])
          have b1 : w4.cell? ⟨w3.heap.size, 1, none⟩ = some (.int .i64 rc.1.2) := hb4.cell' (by simp [go_sem, ↓IntWalk.iteOmega])
          have b2 : w4.cell? ⟨w3.heap.size, 2, none⟩ = some (.int .i64 rc.2.1) := hb4.cell' (by simp [go_sem, ↓IntWalk.iteOmega])
          have b3 : w4.cell? ⟨w3.heap.size, 3, none⟩ = some (.int .i64 rc.2.2) := hb4.cell' (by simp [go_sem, ↓IntWalk.iteOmega])
          have hsz : w.heap.size < w3.heap.size ∧ w3.heap.size < w4.heap.size := by have h1 := hE3.size; have h2 := hb4.size; simp at h1 h2; omega
          clear hb4 hE34 hE3 hE4 hE2
          go_wp2
          refine wp_region_held_drew (S := (fun w' => w'.cell? ⟨w.heap.size, 0, none⟩ = some (.int .i64 q.1.1) ∧ w'.cell? ⟨w.heap.size, 1, none⟩ = some (.int .i64 q.1.2) ∧ w'.cell? ⟨w.heap.size, 2, none⟩ = some (.int .i64 q.2.1) ∧ w'.cell? ⟨w.heap.size, 3, none⟩ = some (.int .i64 q.2.2) ∧ w'.cell? ⟨w3.heap.size, 0, none⟩ = some (.int .i64 rc.1.1) ∧ w'.cell? ⟨w3.heap.size, 1, none⟩ = some (.int .i64 rc.1.2) ∧ w'.cell? ⟨w3.heap.size, 2, none⟩ = some (.int .i64 rc.2.1) ∧ w'.cell? ⟨w3.heap.size, 3, none⟩ = some (.int .i64 rc.2.2) ∧ w'.cell? ⟨w4.heap.size, 0, none⟩ = some (.int .i64 rc.1.1) ∧ w'.cell? ⟨w4.heap.size, 1, none⟩ = some (.int .i64 rc.1.2) ∧ w'.cell? ⟨w4.heap.size, 2, none⟩ = some (.int .i64 rc.2.1) ∧ w'.cell? ⟨w4.heap.size, 3, none⟩ = some (.int .i64 rc.2.2))) (by kernel_rfl) (by simp [go_sem, ↓IntWalk.iteOmega, *]) (fun hHeld => ?_)
          refine wpAnyH_take (i := 0) (oi := ?oi1) (v := ?v1) ?hi1 (by kernel_rfl) (by kernel_rfl) (by kernel_rfl) ?hQ1 ?hy1 (by assumption) ?_
          case hi1 => (simp only [List.getElem?_toArray, List.getElem?_cons_succ, List.getElem?_cons_zero]; rfl)
          case hQ1 => exact fun _ _ _ h => h
          case hy1 => (refine Or.inl ⟨by rfl, ?_⟩; intro wq hSw; (try dsimp only at hSw); go_simp; (try with_reducible rfl))
          (try simp only [Act.put, List.setIfInBounds_toArray, List.set_cons_zero, List.set_cons_succ])
          refine wpAnyH_take (i := 1) (oi := ?oi2) (v := ?v2) ?hi2 (by kernel_rfl) (by kernel_rfl) (by kernel_rfl) ?hQ2 ?hy2 (by assumption) ?_
          case hi2 => (simp only [List.getElem?_toArray, List.getElem?_cons_succ, List.getElem?_cons_zero]; rfl)
          case hQ2 => exact fun _ _ _ h => h
          case hy2 => (refine Or.inl ⟨by rfl, ?_⟩; intro wq hSw; (try dsimp only at hSw); go_simp; (try with_reducible rfl))
          (try simp only [Act.put, List.setIfInBounds_toArray, List.set_cons_zero, List.set_cons_succ])
          refine wpAnyH_take (i := 3) (oi := ?oi3) (v := ?v3) ?hi3 (by kernel_rfl) (by kernel_rfl) (by kernel_rfl) ?hQ3 ?hy3 (by assumption) ?_
          case hi3 => (simp only [List.getElem?_toArray, List.getElem?_cons_succ, List.getElem?_cons_zero]; rfl)
          case hQ3 => exact fun _ _ _ h => h
          case hy3 => (refine Or.inl ⟨by rfl, ?_⟩; intro wq hSw; (try dsimp only at hSw); go_simp; (try with_reducible rfl))
          (try simp only [Act.put, List.setIfInBounds_toArray, List.set_cons_zero, List.set_cons_succ])
          refine wpAnyH_take (i := 4) (oi := ?oi4) (v := ?v4) ?hi4 (by kernel_rfl) (by kernel_rfl) (by kernel_rfl) ?hQ4 ?hy4 (by assumption) ?_
          case hi4 => (simp only [List.getElem?_toArray, List.getElem?_cons_succ, List.getElem?_cons_zero]; rfl)
          case hQ4 => exact fun _ _ _ h => h
          case hy4 => (refine Or.inl ⟨by rfl, ?_⟩; intro wq hSw; (try dsimp only at hSw); go_simp; (try with_reducible rfl))
          (try simp only [Act.put, List.setIfInBounds_toArray, List.set_cons_zero, List.set_cons_succ])
          refine wpAnyH_ready (rs := [2]) (by kernel_rfl) (by simp) ?_
          refine AllReadyH.cons (o := ?oi5) ?hi5 ?ti5 AllReadyH.nil
          case hi5 => (simp only [List.getElem?_toArray, List.getElem?_cons_succ, List.getElem?_cons_zero]; rfl)
          case ti5 =>
            intro KQ hKQ
            go_simp
            (go_at_call 17; refine (HS1.out _ _ (hT1.ext (by repeat (first | exact Ext.refl' _ | assumption | apply Ext.ex' | apply Ext.al | apply Ext.drN | apply Ext.dr)))).mono ?_; rintro e w1 ⟨A1, c1, rfl, hb1, hP1⟩; obtain ⟨z, rfl⟩ := hb1.get; clear hb1)
            refine hKQ.out _ _ (by simp [go_sem, ↓IntWalk.iteOmega, *]) (fun hHeld2 => ?_)
            clear hHeld hKQ KQ; have hHeld := hHeld2; clear hHeld2
            (try simp only [Act.put, List.setIfInBounds_toArray, List.set_cons_zero, List.set_cons_succ])
            refine wpAnyH_ready (rs := [5]) (by kernel_rfl) (by simp) ?_
            refine AllReadyH.cons (o := ?oi6) ?hi6 ?ti6 AllReadyH.nil
            case hi6 => (simp only [List.getElem?_toArray, List.getElem?_cons_succ, List.getElem?_cons_zero]; rfl)
            case ti6 =>
              intro KQ hKQ
              go_simp
              (go_at_call 17; refine (HS2.out _ _ (hT2.ext (by repeat (first | exact Ext.refl' _ | assumption | apply Ext.ex' | apply Ext.al | apply Ext.drN | apply Ext.dr)))).mono ?_; rintro e w1 ⟨A2, c2, rfl, hb1, hP2⟩; obtain ⟨z, rfl⟩ := hb1.get; clear hb1)
              refine hKQ.out _ _ (by simp [go_sem, ↓IntWalk.iteOmega, *]) (fun hHeld2 => ?_)
              clear hHeld hKQ KQ; have hHeld := hHeld2; clear hHeld2
              (try simp only [Act.put, List.setIfInBounds_toArray, List.set_cons_zero, List.set_cons_succ])
              refine wpAnyH_ready (rs := [6]) (by kernel_rfl) (by simp) ?_
              refine AllReadyH.cons (o := ?oi7) ?hi7 ?ti7 AllReadyH.nil
              case hi7 => (simp only [List.getElem?_toArray, List.getElem?_cons_succ, List.getElem?_cons_zero]; rfl)
              case ti7 =>
                intro KQ hKQ
                go_simp
                (go_at_call 16; refine (ints_eq _ _ _ _ _ _ zs _ rfl rfl (hP1.ext (by repeat (first | exact Ext.refl' _ | assumption | apply Ext.ex' | apply Ext.al | apply Ext.drN | apply Ext.dr))) (hP2.ext (by repeat (first | exact Ext.refl' _ | assumption | apply Ext.ex' | apply Ext.al | apply Ext.drN | apply Ext.dr))) (by omega)).mono ?_; rintro e w1 ⟨rfl, hb1⟩; obtain ⟨z, rfl⟩ := hb1.get; clear hb1)
                refine hKQ.out _ _ (by simp [go_sem, ↓IntWalk.iteOmega, *]) (fun hHeld2 => ?_)
                clear hHeld hKQ KQ; have hHeld := hHeld2; clear hHeld2
                (try simp only [Act.put, List.setIfInBounds_toArray, List.set_cons_zero, List.set_cons_succ])
                refine wpAnyH_take (i := 7) (oi := ?oi8) (v := ?v8) ?hi8 (by kernel_rfl) (by kernel_rfl) (by kernel_rfl) ?hQ8 ?hy8 (by assumption) ?_
                case hi8 => (simp only [List.getElem?_toArray, List.getElem?_cons_succ, List.getElem?_cons_zero]; rfl)
                case hQ8 => exact fun _ _ _ h => h
                case hy8 => (refine Or.inl ⟨by rfl, ?_⟩; intro wq hSw; (try dsimp only at hSw); go_simp; (try with_reducible rfl))
                (try simp only [Act.put, List.setIfInBounds_toArray, List.set_cons_zero, List.set_cons_succ])
                refine wpAnyH_take (i := 8) (oi := ?oi9) (v := ?v9) ?hi9 (by kernel_rfl) (by kernel_rfl) (by kernel_rfl) ?hQ9 ?hy9 (by assumption) ?_
                case hi9 => (simp only [List.getElem?_toArray, List.getElem?_cons_succ, List.getElem?_cons_zero]; rfl)
                case hQ9 => exact fun _ _ _ h => h
                case hy9 => (refine Or.inl ⟨by rfl, ?_⟩; intro wq hSw; (try dsimp only at hSw); go_simp; (try with_reducible rfl))
                (try simp only [Act.put, List.setIfInBounds_toArray, List.set_cons_zero, List.set_cons_succ])
                refine wpAnyH_take (i := 9) (oi := ?oi10) (v := ?v10) ?hi10 (by kernel_rfl) (by kernel_rfl) (by kernel_rfl) ?hQ10 ?hy10 (by assumption) ?_
                case hi10 => (simp only [List.getElem?_toArray, List.getElem?_cons_succ, List.getElem?_cons_zero]; rfl)
                case hQ10 => exact fun _ _ _ h => h
                case hy10 => (refine Or.inl ⟨by rfl, ?_⟩; intro wq hSw; (try dsimp only at hSw); go_simp; (try with_reducible rfl))
                (try simp only [Act.put, List.setIfInBounds_toArray, List.set_cons_zero, List.set_cons_succ])
                refine wpAnyH_take (i := 10) (oi := ?oi11) (v := ?v11) ?hi11 (by kernel_rfl) (by kernel_rfl) (by kernel_rfl) ?hQ11 ?hy11 (by assumption) ?_
                case hi11 => (simp only [List.getElem?_toArray, List.getElem?_cons_succ, List.getElem?_cons_zero]; rfl)
                case hQ11 => exact fun _ _ _ h => h
                case hy11 => (refine Or.inl ⟨by rfl, ?_⟩; intro wq hSw; (try dsimp only at hSw); go_simp; (try with_reducible rfl))
                (try simp only [Act.put, List.setIfInBounds_toArray, List.set_cons_zero, List.set_cons_succ])
                refine wpAnyH_take (i := 11) (oi := ?oi12) (v := ?v12) ?hi12 (by kernel_rfl) (by kernel_rfl) (by kernel_rfl) ?hQ12 ?hy12 (by assumption) ?_
                case hi12 => (simp only [List.getElem?_toArray, List.getElem?_cons_succ, List.getElem?_cons_zero]; rfl)
                case hQ12 => exact fun _ _ _ h => h
                case hy12 => (refine Or.inl ⟨by rfl, ?_⟩; intro wq hSw; (try dsimp only at hSw); go_simp; (try with_reducible rfl))
                (try simp only [Act.put, List.setIfInBounds_toArray, List.set_cons_zero, List.set_cons_succ])
                refine wpAnyH_take (i := 12) (oi := ?oi13) (v := ?v13) ?hi13 (by kernel_rfl) (by kernel_rfl) (by kernel_rfl) ?hQ13 ?hy13 (by assumption) ?_
                case hi13 => (simp only [List.getElem?_toArray, List.getElem?_cons_succ, List.getElem?_cons_zero]; rfl)
                case hQ13 => exact fun _ _ _ h => h
                case hy13 => (refine Or.inl ⟨by rfl, ?_⟩; intro wq hSw; (try dsimp only at hSw); go_simp; (try with_reducible rfl))
                (try simp only [Act.put, List.setIfInBounds_toArray, List.set_cons_zero, List.set_cons_succ])
                refine wpAnyH_take (i := 13) (oi := ?oi14) (v := ?v14) ?hi14 (by kernel_rfl) (by kernel_rfl) (by kernel_rfl) ?hQ14 ?hy14 (by assumption) ?_
                case hi14 => (simp only [List.getElem?_toArray, List.getElem?_cons_succ, List.getElem?_cons_zero]; rfl)
                case hQ14 => exact fun _ _ _ h => h
                case hy14 => (refine Or.inl ⟨by rfl, ?_⟩; intro wq hSw; (try dsimp only at hSw); go_simp; (try with_reducible rfl))
                (try simp only [Act.put, List.setIfInBounds_toArray, List.set_cons_zero, List.set_cons_succ])
                refine wpAnyH_take (i := 14) (oi := ?oi15) (v := ?v15) ?hi15 (by kernel_rfl) (by kernel_rfl) (by kernel_rfl) ?hQ15 ?hy15 (by assumption) ?_
                case hi15 => (simp only [List.getElem?_toArray, List.getElem?_cons_succ, List.getElem?_cons_zero]; rfl)
                case hQ15 => exact fun _ _ _ h => h
                case hy15 => (refine Or.inl ⟨by rfl, ?_⟩; intro wq hSw; (try dsimp only at hSw); go_simp; (try with_reducible rfl))
                (try simp only [Act.put, List.setIfInBounds_toArray, List.set_cons_zero, List.set_cons_succ])
                refine wpAnyH_take (i := 16) (oi := ?oi16) (v := ?v16) ?hi16 (by kernel_rfl) (by kernel_rfl) (by kernel_rfl) ?hQ16 ?hy16 (by assumption) ?_
                case hi16 => (simp only [List.getElem?_toArray, List.getElem?_cons_succ, List.getElem?_cons_zero]; rfl)
                case hQ16 => exact fun _ _ _ h => h
                case hy16 => (refine Or.inl ⟨by rfl, ?_⟩; intro wq hSw; (try dsimp only at hSw); go_simp; (try with_reducible rfl))
                (try simp only [Act.put, List.setIfInBounds_toArray, List.set_cons_zero, List.set_cons_succ])
                refine wpAnyH_take (i := 17) (oi := ?oi17) (v := ?v17) ?hi17 (by kernel_rfl) (by kernel_rfl) (by kernel_rfl) ?hQ17 ?hy17 (by assumption) ?_
                case hi17 => (simp only [List.getElem?_toArray, List.getElem?_cons_succ, List.getElem?_cons_zero]; rfl)
                case hQ17 => exact fun _ _ _ h => h
                case hy17 => (refine Or.inl ⟨by rfl, ?_⟩; intro wq hSw; (try dsimp only at hSw); go_simp; (try with_reducible rfl))
                (try simp only [Act.put, List.setIfInBounds_toArray, List.set_cons_zero, List.set_cons_succ])
                refine wpAnyH_take (i := 18) (oi := ?oi18) (v := ?v18) ?hi18 (by kernel_rfl) (by kernel_rfl) (by kernel_rfl) ?hQ18 ?hy18 (by assumption) ?_
                case hi18 => (simp only [List.getElem?_toArray, List.getElem?_cons_succ, List.getElem?_cons_zero]; rfl)
                case hQ18 => exact fun _ _ _ h => h
                case hy18 => (refine Or.inl ⟨by rfl, ?_⟩; intro wq hSw; (try dsimp only at hSw); go_simp; (try with_reducible rfl))
                (try simp only [Act.put, List.setIfInBounds_toArray, List.set_cons_zero, List.set_cons_succ])
                refine wpAnyH_take (i := 19) (oi := ?oi19) (v := ?v19) ?hi19 (by kernel_rfl) (by kernel_rfl) (by kernel_rfl) ?hQ19 ?hy19 (by assumption) ?_
                case hi19 => (simp only [List.getElem?_toArray, List.getElem?_cons_succ, List.getElem?_cons_zero]; rfl)
                case hQ19 => exact fun _ _ _ h => h
                case hy19 => (refine Or.inl ⟨by rfl, ?_⟩; intro wq hSw; (try dsimp only at hSw); go_simp; (try with_reducible rfl))
                (try simp only [Act.put, List.setIfInBounds_toArray, List.set_cons_zero, List.set_cons_succ])
                refine wpAnyH_take (i := 20) (oi := ?oi20) (v := ?v20) ?hi20 (by kernel_rfl) (by kernel_rfl) (by kernel_rfl) ?hQ20 ?hy20 (by assumption) ?_
                case hi20 => (simp only [List.getElem?_toArray, List.getElem?_cons_succ, List.getElem?_cons_zero]; rfl)
                case hQ20 => exact fun _ _ _ h => h
                case hy20 => (refine Or.inl ⟨by rfl, ?_⟩; intro wq hSw; (try dsimp only at hSw); go_simp; (try with_reducible rfl))
                (try simp only [Act.put, List.setIfInBounds_toArray, List.set_cons_zero, List.set_cons_succ])
                refine wpAnyH_take (i := 21) (oi := ?oi21) (v := ?v21) ?hi21 (by kernel_rfl) (by kernel_rfl) (by kernel_rfl) ?hQ21 ?hy21 (by assumption) ?_
                case hi21 => (simp only [List.getElem?_toArray, List.getElem?_cons_succ, List.getElem?_cons_zero]; rfl)
                case hQ21 => exact fun _ _ _ h => h
                case hy21 => (refine Or.inl ⟨by rfl, ?_⟩; intro wq hSw; (try dsimp only at hSw); go_simp; (try with_reducible rfl))
                (try simp only [Act.put, List.setIfInBounds_toArray, List.set_cons_zero, List.set_cons_succ])
                refine wpAnyH_take (i := 22) (oi := ?oi22) (v := ?v22) ?hi22 (by kernel_rfl) (by kernel_rfl) (by kernel_rfl) ?hQ22 ?hy22 (by assumption) ?_
                case hi22 => (simp only [List.getElem?_toArray, List.getElem?_cons_succ, List.getElem?_cons_zero]; rfl)
                case hQ22 => exact fun _ _ _ h => h
                case hy22 => (refine Or.inl ⟨by rfl, ?_⟩; intro wq hSw; (try dsimp only at hSw); go_simp; (try with_reducible rfl))
                (try simp only [Act.put, List.setIfInBounds_toArray, List.set_cons_zero, List.set_cons_succ])
                refine wpAnyH_ready (rs := [15]) (by kernel_rfl) (by simp) ?_
                refine AllReadyH.cons (o := ?oi23) ?hi23 ?ti23 AllReadyH.nil
                case hi23 => (simp only [List.getElem?_toArray, List.getElem?_cons_succ, List.getElem?_cons_zero]; rfl)
                case ti23 =>
                  intro KQ hKQ
                  go_simp
                  (go_at_call 21; refine (HT1.out _ _ (hT1.ext (by repeat (first | exact Ext.refl' _ | assumption | apply Ext.ex' | apply Ext.al | apply Ext.drN | apply Ext.dr)))).mono ?_; rintro e w1 ⟨A3, c3, rfl, hb1, hP3⟩; obtain ⟨z, rfl⟩ := hb1.get; clear hb1)
                  refine hKQ.out _ _ (by simp [go_sem, ↓IntWalk.iteOmega, *]) (fun hHeld2 => ?_)
                  clear hHeld hKQ KQ; have hHeld := hHeld2; clear hHeld2
                  (try simp only [Act.put, List.setIfInBounds_toArray, List.set_cons_zero, List.set_cons_succ])
                  refine wpAnyH_ready (rs := [23]) (by kernel_rfl) (by simp) ?_
                  refine AllReadyH.cons (o := ?oi24) ?hi24 ?ti24 AllReadyH.nil
                  case hi24 => (simp only [List.getElem?_toArray, List.getElem?_cons_succ, List.getElem?_cons_zero]; rfl)
                  case ti24 =>
                    intro KQ hKQ
                    go_simp
                    (go_at_call 21; refine (HT2.out _ _ (hT2.ext (by repeat (first | exact Ext.refl' _ | assumption | apply Ext.ex' | apply Ext.al | apply Ext.drN | apply Ext.dr)))).mono ?_; rintro e w1 ⟨A4, c4, rfl, hb1, hP4⟩; obtain ⟨z, rfl⟩ := hb1.get; clear hb1)
                    refine hKQ.out _ _ (by simp [go_sem, ↓IntWalk.iteOmega, *]) (fun hHeld2 => ?_)
                    clear hHeld hKQ KQ; have hHeld := hHeld2; clear hHeld2
                    (try simp only [Act.put, List.setIfInBounds_toArray, List.set_cons_zero, List.set_cons_succ])
                    refine wpAnyH_ready (rs := [24]) (by kernel_rfl) (by simp) ?_
                    refine AllReadyH.cons (o := ?oi25) ?hi25 ?ti25 AllReadyH.nil
                    case hi25 => (simp only [List.getElem?_toArray, List.getElem?_cons_succ, List.getElem?_cons_zero]; rfl)
                    case ti25 =>
                      intro KQ hKQ
                      go_simp
                      (go_at_call 16; refine (ints_eq _ _ _ _ _ _ ts _ rfl rfl (hP3.ext (by repeat (first | exact Ext.refl' _ | assumption | apply Ext.ex' | apply Ext.al | apply Ext.drN | apply Ext.dr))) (hP4.ext (by repeat (first | exact Ext.refl' _ | assumption | apply Ext.ex' | apply Ext.al | apply Ext.drN | apply Ext.dr))) (by omega)).mono ?_; rintro e w1 ⟨rfl, hb1⟩; obtain ⟨z, rfl⟩ := hb1.get; clear hb1)
                      refine hKQ.out _ _ (by simp [go_sem, ↓IntWalk.iteOmega, *]) (fun hHeld2 => ?_)
                      clear hHeld hKQ KQ; have hHeld := hHeld2; clear hHeld2
                      (try simp only [Act.put, List.setIfInBounds_toArray, List.set_cons_zero, List.set_cons_succ])
                      refine wpAnyH_take (i := 25) (oi := ?oi26) (v := ?v26) ?hi26 (by kernel_rfl) (by kernel_rfl) (by kernel_rfl) ?hQ26 ?hy26 (by assumption) ?_
                      case hi26 => (simp only [List.getElem?_toArray, List.getElem?_cons_succ, List.getElem?_cons_zero]; rfl)
                      case hQ26 => exact fun _ _ _ h => h
                      case hy26 => (refine Or.inl ⟨by rfl, ?_⟩; intro wq hSw; (try dsimp only at hSw); go_simp; (try with_reducible rfl))
                      (try simp only [Act.put, List.setIfInBounds_toArray, List.set_cons_zero, List.set_cons_succ])
                      refine wpAnyH_take (i := 26) (oi := ?oi27) (v := ?v27) ?hi27 (by kernel_rfl) (by kernel_rfl) (by kernel_rfl) ?hQ27 ?hy27 (by assumption) ?_
                      case hi27 => (simp only [List.getElem?_toArray, List.getElem?_cons_succ, List.getElem?_cons_zero]; rfl)
                      case hQ27 => exact fun _ _ _ h => h
                      case hy27 => (refine Or.inl ⟨by rfl, ?_⟩; intro wq hSw; (try dsimp only at hSw); go_simp; (try with_reducible rfl))
                      (try simp only [Act.put, List.setIfInBounds_toArray, List.set_cons_zero, List.set_cons_succ])
                      refine wpAnyH_take (i := 27) (oi := ?oi28) (v := ?v28) ?hi28 (by kernel_rfl) (by kernel_rfl) (by kernel_rfl) ?hQ28 ?hy28 (by assumption) ?_
                      case hi28 => (simp only [List.getElem?_toArray, List.getElem?_cons_succ, List.getElem?_cons_zero]; rfl)
                      case hQ28 => exact fun _ _ _ h => h
                      case hy28 => (refine Or.inl ⟨by rfl, ?_⟩; intro wq hSw; (try dsimp only at hSw); go_simp; (try with_reducible rfl))
                      (try simp only [Act.put, List.setIfInBounds_toArray, List.set_cons_zero, List.set_cons_succ])
                      refine wpAnyH_take (i := 28) (oi := ?oi29) (v := ?v29) ?hi29 (by kernel_rfl) (by kernel_rfl) (by kernel_rfl) ?hQ29 ?hy29 (by assumption) ?_
                      case hi29 => (simp only [List.getElem?_toArray, List.getElem?_cons_succ, List.getElem?_cons_zero]; rfl)
                      case hQ29 => exact fun _ _ _ h => h
                      case hy29 => (refine Or.inl ⟨by rfl, ?_⟩; intro wq hSw; (try dsimp only at hSw); go_simp; (try with_reducible rfl))
                      (try simp only [Act.put, List.setIfInBounds_toArray, List.set_cons_zero, List.set_cons_succ])
                      refine wpAnyH_take (i := 29) (oi := ?oi30) (v := ?v30) ?hi30 (by kernel_rfl) (by kernel_rfl) (by kernel_rfl) ?hQ30 ?hy30 (by assumption) ?_
                      case hi30 => (simp only [List.getElem?_toArray, List.getElem?_cons_succ, List.getElem?_cons_zero]; rfl)
                      case hQ30 => exact fun _ _ _ h => h
                      case hy30 => (refine Or.inl ⟨by rfl, ?_⟩; intro wq hSw; (try dsimp only at hSw); go_simp; (try with_reducible rfl))
                      (try simp only [Act.put, List.setIfInBounds_toArray, List.set_cons_zero, List.set_cons_succ])
                      refine wpAnyH_take (i := 30) (oi := ?oi31) (v := ?v31) ?hi31 (by kernel_rfl) (by kernel_rfl) (by kernel_rfl) ?hQ31 ?hy31 (by assumption) ?_
                      case hi31 => (simp only [List.getElem?_toArray, List.getElem?_cons_succ, List.getElem?_cons_zero]; rfl)
                      case hQ31 => exact fun _ _ _ h => h
                      case hy31 => (refine Or.inl ⟨by rfl, ?_⟩; intro wq hSw; (try dsimp only at hSw); go_simp; (try with_reducible rfl))
                      (try simp only [Act.put, List.setIfInBounds_toArray, List.set_cons_zero, List.set_cons_succ])
                      refine wpAnyH_take (i := 31) (oi := ?oi32) (v := ?v32) ?hi32 (by kernel_rfl) (by kernel_rfl) (by kernel_rfl) ?hQ32 ?hy32 (by assumption) ?_
                      case hi32 => (simp only [List.getElem?_toArray, List.getElem?_cons_succ, List.getElem?_cons_zero]; rfl)
                      case hQ32 => exact fun _ _ _ h => h
                      case hy32 => (refine Or.inl ⟨by rfl, ?_⟩; intro wq hSw; (try dsimp only at hSw); go_simp; (try with_reducible rfl))
                      (try simp only [Act.put, List.setIfInBounds_toArray, List.set_cons_zero, List.set_cons_succ])
                      refine wpAnyH_take (i := 32) (oi := ?oi33) (v := ?v33) ?hi33 (by kernel_rfl) (by kernel_rfl) (by kernel_rfl) ?hQ33 ?hy33 (by assumption) ?_
                      case hi33 => (simp only [List.getElem?_toArray, List.getElem?_cons_succ, List.getElem?_cons_zero]; rfl)
                      case hQ33 => exact fun _ _ _ h => h
                      case hy33 => (refine Or.inl ⟨by rfl, ?_⟩; intro wq hSw; (try dsimp only at hSw); go_simp; (try with_reducible rfl))
                      (try simp only [Act.put, List.setIfInBounds_toArray, List.set_cons_zero, List.set_cons_succ])
                      refine wpAnyH_take (i := 33) (oi := ?oi34) (v := ?v34) ?hi34 (by kernel_rfl) (by kernel_rfl) (by kernel_rfl) ?hQ34 ?hy34 (by assumption) ?_
                      case hi34 => (simp only [List.getElem?_toArray, List.getElem?_cons_succ, List.getElem?_cons_zero]; rfl)
                      case hQ34 => exact fun _ _ _ h => h
                      case hy34 => (refine Or.inl ⟨by rfl, ?_⟩; intro wq hSw; (try dsimp only at hSw); go_simp; (try with_reducible rfl))
                      (try simp only [Act.put, List.setIfInBounds_toArray, List.set_cons_zero, List.set_cons_succ])
                      refine wpAnyH_take (i := 34) (oi := ?oi35) (v := ?v35) ?hi35 (by kernel_rfl) (by kernel_rfl) (by kernel_rfl) ?hQ35 ?hy35 (by assumption) ?_
                      case hi35 => (simp only [List.getElem?_toArray, List.getElem?_cons_succ, List.getElem?_cons_zero]; rfl)
                      case hQ35 => exact fun _ _ _ h => h
                      case hy35 => (refine Or.inl ⟨by rfl, ?_⟩; intro wq hSw; (try dsimp only at hSw); go_simp; (try with_reducible rfl))
                      (try simp only [Act.put, List.setIfInBounds_toArray, List.set_cons_zero, List.set_cons_succ])
                      refine wpAnyH_take (i := 35) (oi := ?oi36) (v := ?v36) ?hi36 (by kernel_rfl) (by kernel_rfl) (by kernel_rfl) ?hQ36 ?hy36 (by assumption) ?_
                      case hi36 => (simp only [List.getElem?_toArray, List.getElem?_cons_succ, List.getElem?_cons_zero]; rfl)
                      case hQ36 => exact fun _ _ _ h => h
                      case hy36 => (refine Or.inl ⟨by rfl, ?_⟩; intro wq hSw; (try dsimp only at hSw); go_simp; (try with_reducible rfl))
                      (try simp only [Act.put, List.setIfInBounds_toArray, List.set_cons_zero, List.set_cons_succ])
                      refine wpAnyH_take (i := 36) (oi := ?oi37) (v := ?v37) ?hi37 (by kernel_rfl) (by kernel_rfl) (by kernel_rfl) ?hQ37 ?hy37 (by assumption) ?_
                      case hi37 => (simp only [List.getElem?_toArray, List.getElem?_cons_succ, List.getElem?_cons_zero]; rfl)
                      case hQ37 => exact fun _ _ _ h => h
                      case hy37 => (refine Or.inl ⟨by rfl, ?_⟩; intro wq hSw; (try dsimp only at hSw); go_simp; (try with_reducible rfl))
                      (try simp only [Act.put, List.setIfInBounds_toArray, List.set_cons_zero, List.set_cons_succ])
                      refine wpAnyH_take (i := 37) (oi := ?oi38) (v := ?v38) ?hi38 (by kernel_rfl) (by kernel_rfl) (by kernel_rfl) ?hQ38 ?hy38 (by assumption) ?_
                      case hi38 => (simp only [List.getElem?_toArray, List.getElem?_cons_succ, List.getElem?_cons_zero]; rfl)
                      case hQ38 => exact fun _ _ _ h => h
                      case hy38 => (refine Or.inl ⟨by rfl, ?_⟩; intro wq hSw; (try dsimp only at hSw); go_simp; (try with_reducible rfl))
                      (try simp only [Act.put, List.setIfInBounds_toArray, List.set_cons_zero, List.set_cons_succ])
                      refine wpAnyH_take (i := 39) (oi := ?oi39) (v := ?v39) ?hi39 (by kernel_rfl) (by kernel_rfl) (by kernel_rfl) ?hQ39 ?hy39 (by assumption) ?_
                      case hi39 => (simp only [List.getElem?_toArray, List.getElem?_cons_succ, List.getElem?_cons_zero]; rfl)
                      case hQ39 => exact fun _ _ _ h => h
                      case hy39 => (refine Or.inl ⟨by rfl, ?_⟩; intro wq hSw; (try dsimp only at hSw); go_simp; (try with_reducible rfl))
                      (try simp only [Act.put, List.setIfInBounds_toArray, List.set_cons_zero, List.set_cons_succ])
                      refine wpAnyH_ready (rs := [38]) (by kernel_rfl) (by simp) ?_
                      refine AllReadyH.cons (o := ?oi40) ?hi40 ?ti40 AllReadyH.nil
                      case hi40 => (simp only [List.getElem?_toArray, List.getElem?_cons_succ, List.getElem?_cons_zero]; rfl)
                      case ti40 =>
                        intro KQ hKQ
                        go_simp
                        (go_at_call 14; refine (len_any _ _ _ _ _ (hT1.ext (by repeat (first | exact Ext.refl' _ | assumption | apply Ext.ex' | apply Ext.al | apply Ext.drN | apply Ext.dr)))).mono ?_; rintro e w1 ⟨rfl, rfl⟩)
                        refine hKQ.out _ _ (by simp [go_sem, ↓IntWalk.iteOmega, *]) (fun hHeld2 => ?_)
                        clear hHeld hKQ KQ; have hHeld := hHeld2; clear hHeld2
                        (try simp only [Act.put, List.setIfInBounds_toArray, List.set_cons_zero, List.set_cons_succ])
                        refine wpAnyH_ready (rs := [40]) (by kernel_rfl) (by simp) ?_
                        refine AllReadyH.cons (o := ?oi41) ?hi41 ?ti41 AllReadyH.nil
                        case hi41 => (simp only [List.getElem?_toArray, List.getElem?_cons_succ, List.getElem?_cons_zero]; rfl)
                        case ti41 =>
                          intro KQ hKQ
                          go_simp
                          (go_at_call 14; refine (len_any _ _ _ _ _ (hT2.ext (by repeat (first | exact Ext.refl' _ | assumption | apply Ext.ex' | apply Ext.al | apply Ext.drN | apply Ext.dr)))).mono ?_; rintro e w1 ⟨rfl, rfl⟩)
                          refine hKQ.out _ _ (by simp [go_sem, ↓IntWalk.iteOmega, *]) (fun hHeld2 => ?_)
                          clear hHeld hKQ KQ; have hHeld := hHeld2; clear hHeld2
                          (try simp only [Act.put, List.setIfInBounds_toArray, List.set_cons_zero, List.set_cons_succ])
                          refine wpAnyH_take (i := 41) (oi := ?oi42) (v := ?v42) ?hi42 (by kernel_rfl) (by kernel_rfl) (by kernel_rfl) ?hQ42 ?hy42 (by assumption) ?_
                          case hi42 => (simp only [List.getElem?_toArray, List.getElem?_cons_succ, List.getElem?_cons_zero]; rfl)
                          case hQ42 => exact fun _ _ _ h => h
                          case hy42 => (refine Or.inl ⟨by rfl, ?_⟩; intro wq hSw; (try dsimp only at hSw); go_simp; (try with_reducible rfl))
                          (try simp only [Act.put, List.setIfInBounds_toArray, List.set_cons_zero, List.set_cons_succ])
                          refine wpAnyH_take (i := 42) (oi := ?oi43) (v := ?v43) ?hi43 (by kernel_rfl) (by kernel_rfl) (by kernel_rfl) ?hQ43 ?hy43 (by assumption) ?_
                          case hi43 => (simp only [List.getElem?_toArray, List.getElem?_cons_succ, List.getElem?_cons_zero]; rfl)
                          case hQ43 => exact fun _ _ _ h => h
                          case hy43 => (refine Or.inl ⟨by rfl, ?_⟩; intro wq hSw; (try dsimp only at hSw); go_simp; (try with_reducible rfl))
                          (try simp only [Act.put, List.setIfInBounds_toArray, List.set_cons_zero, List.set_cons_succ])
                          refine wpAnyH_take (i := 43) (oi := ?oi44) (v := ?v44) ?hi44 (by kernel_rfl) (by kernel_rfl) (by kernel_rfl) ?hQ44 ?hy44 (by assumption) ?_
                          case hi44 => (simp only [List.getElem?_toArray, List.getElem?_cons_succ, List.getElem?_cons_zero]; rfl)
                          case hQ44 => exact fun _ _ _ h => h
                          case hy44 => (refine Or.inl ⟨by rfl, ?_⟩; intro wq hSw; (try dsimp only at hSw); go_simp; (try with_reducible rfl))
                          (try simp only [Act.put, List.setIfInBounds_toArray, List.set_cons_zero, List.set_cons_succ])
                          refine wpAnyH_ready (rs := [44]) (by kernel_rfl) (by simp) ?_
                          refine AllReadyH.cons (o := ?oi45) ?hi45 ?ti45 AllReadyH.nil
                          case hi45 => (simp only [List.getElem?_toArray, List.getElem?_cons_succ, List.getElem?_cons_zero]; rfl)
                          case ti45 =>
                            intro KQ hKQ
                            go_simp
                            (go_at_call 9; refine (works_any _).mono ?_; rintro e w1 ⟨rfl, hb1⟩; obtain ⟨z, rfl⟩ := hb1.get; clear hb1)
                            refine hKQ.out _ _ (by simp [go_sem, ↓IntWalk.iteOmega, *]) (fun hHeld2 => ?_)
                            clear hHeld hKQ KQ; have hHeld := hHeld2; clear hHeld2
                            (try simp only [Act.put, List.setIfInBounds_toArray, List.set_cons_zero, List.set_cons_succ])
                            refine wpAnyH_take (i := 45) (oi := ?oi46) (v := ?v46) ?hi46 (by kernel_rfl) (by kernel_rfl) (by kernel_rfl) ?hQ46 ?hy46 (by assumption) ?_
                            case hi46 => (simp only [List.getElem?_toArray, List.getElem?_cons_succ, List.getElem?_cons_zero]; rfl)
                            case hQ46 => exact fun _ _ _ h => h
                            case hy46 => (refine Or.inl ⟨by rfl, ?_⟩; intro wq hSw; (try dsimp only at hSw); go_simp; (try with_reducible rfl))
                            (try simp only [Act.put, List.setIfInBounds_toArray, List.set_cons_zero, List.set_cons_succ])
                            refine wpAnyH_take (i := 46) (oi := ?oi47) (v := ?v47) ?hi47 (by kernel_rfl) (by kernel_rfl) (by kernel_rfl) ?hQ47 ?hy47 (by assumption) ?_
                            case hi47 => (simp only [List.getElem?_toArray, List.getElem?_cons_succ, List.getElem?_cons_zero]; rfl)
                            case hQ47 => exact fun _ _ _ h => h
                            case hy47 => (refine Or.inl ⟨by rfl, ?_⟩; intro wq hSw; (try dsimp only at hSw); go_simp; (try with_reducible rfl))
                            (try simp only [Act.put, List.setIfInBounds_toArray, List.set_cons_zero, List.set_cons_succ])
                            refine wpAnyH_done (by kernel_rfl) ?_ _
                            go_wp2
                            go_ret
                            exact ⟨rfl, hE0.tr (by repeat (first | exact Ext.refl' _ | assumption | apply Ext.ex' | apply Ext.al | apply Ext.drN | apply Ext.dr))⟩
        · have g1 : (er1 != 0) = true := by simp [h1]
          have g2 : (er2 != 0) = true := by have : er2 ≠ 0 := fun h => h1 (hse.2 h); simp [this]
          go_wp2_with (go_at_call 9; refine (works_any _).mono ?_; rintro e w1 ⟨rfl, hb1⟩; obtain ⟨z, rfl⟩ := hb1.get; clear hb1)
          go_ret
          exact ⟨rfl, Ext.tr (by repeat (first | exact Ext.refl' _ | assumption | apply Ext.ex' | apply Ext.al | apply Ext.drN | apply Ext.dr)) (hE2.tr (by repeat (first | exact Ext.refl' _ | assumption | apply Ext.ex' | apply Ext.al | apply Ext.drN | apply Ext.dr)))⟩

end Go.Proofs.Ytgobmiahhmajdaa
