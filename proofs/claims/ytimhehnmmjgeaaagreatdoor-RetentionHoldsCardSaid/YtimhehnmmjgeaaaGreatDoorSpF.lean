/- The contracts of package span: the combinations, Covers, Length, Next, Points, Slices. -/
import Derived.Test.YtimhehnmmjgeaaaGreatDoorSpE
import Derived.Test.YtimhehnmmjgeaaaGreatDoorSpD
set_option linter.unusedSimpArgs false
set_option linter.unusedVariables false
namespace Go.Proofs.YtimhehnmmjgeaaaGreatDoor
open Go.RowKit


def fstK (a _ : Bool) : Bool := a
def notK (a _ : Bool) : Bool := !a
theorem fst_of (l : List (Int × Int)) : combF fstK l [] = ofF l := combF_eq fun t _ _ => by simp [fstK, ofK, inL_nil]
theorem not_nor (l : List (Int × Int)) : combF notK l [] = combF norK l [] := combF_eq fun t _ _ => by simp [notK, norK, inL_nil]

theorem cloOf (a b : Bool) (w : World) : Calls Tryz.prog 106 #[.bool a, .bool b] w fun e w' => e = .returned (.bool (fstK a b)) ∧ w = w' := by
  cases a <;> cases b <;>
  · go_enter Tryz.func106, Tryz.ntmps106
    go_wp2
    go_ret
    exact ⟨rfl, rfl⟩
theorem entOf : ∀ args w, (callFunc 106 args).run Tryz.prog w = .ok (.enter 106 args) w := enters_of Tryz.func106 (by kernel_rfl) rfl
theorem cloIntersect (a b : Bool) (w : World) : Calls Tryz.prog 77 #[.bool a, .bool b] w fun e w' => e = .returned (.bool (interK a b)) ∧ w = w' := by
  cases a <;> cases b <;>
  · go_enter Tryz.func77, Tryz.ntmps77
    go_wp2
    go_ret
    exact ⟨rfl, rfl⟩
theorem entIntersect : ∀ args w, (callFunc 77 args).run Tryz.prog w = .ok (.enter 77 args) w := enters_of Tryz.func77 (by kernel_rfl) rfl
theorem cloSubtract (a b : Bool) (w : World) : Calls Tryz.prog 78 #[.bool a, .bool b] w fun e w' => e = .returned (.bool (subK a b)) ∧ w = w' := by
  cases a <;> cases b <;>
  · go_enter Tryz.func78, Tryz.ntmps78
    go_wp2
    go_ret
    exact ⟨rfl, rfl⟩
theorem entSubtract : ∀ args w, (callFunc 78 args).run Tryz.prog w = .ok (.enter 78 args) w := enters_of Tryz.func78 (by kernel_rfl) rfl
set_option maxHeartbeats 400000 in
theorem sintersectO_any (A B : Option Addr) (ca cb : Nat) (la lb : List (Int × Int)) (w : World) (hA : Rd w 2 A la.length (pc la)) (hB : Rd w 2 B lb.length (pc lb)) (ha : la.length ≤ 549755813888) (hb : lb.length ≤ 549755813888) :
    Calls Tryz.prog 53 #[.slice A la.length ca, .slice B lb.length cb] w (OwR 25 2 (combF interK la lb).length (pc (combF interK la lb)) w) := by
  go_enter Tryz.func53, Tryz.ntmps53
  go_wp2_with (go_at_call 76; refine (sweepO_any 77 interK entIntersect cloIntersect A B ca cb la lb _ hA hB ha hb).mono ?_; rintro e w1 ⟨v1, rfl, hb1, hP⟩)
  go_ret
  exact ⟨v1, rfl, hb1, hP⟩
theorem sintersect_any (A B : Option Addr) (ca cb : Nat) (la lb : List (Int × Int)) (w : World) (hA : Rd w 2 A la.length (pc la)) (hB : Rd w 2 B lb.length (pc lb)) (ha : la.length ≤ 549755813888) (hb : lb.length ≤ 549755813888) :
    Calls Tryz.prog 53 #[.slice A la.length ca, .slice B lb.length cb] w (RdP 2 (combF interK la lb).length (pc (combF interK la lb)) w) :=
  (sintersectO_any A B ca cb la lb w hA hB ha hb).mono fun _ _ h => h.rd


set_option maxHeartbeats 400000 in
theorem ssubtractO_any (A B : Option Addr) (ca cb : Nat) (la lb : List (Int × Int)) (w : World) (hA : Rd w 2 A la.length (pc la)) (hB : Rd w 2 B lb.length (pc lb)) (ha : la.length ≤ 549755813888) (hb : lb.length ≤ 549755813888) :
    Calls Tryz.prog 54 #[.slice A la.length ca, .slice B lb.length cb] w (OwR 25 2 (combF subK la lb).length (pc (combF subK la lb)) w) := by
  go_enter Tryz.func54, Tryz.ntmps54
  go_wp2_with (go_at_call 76; refine (sweepO_any 78 subK entSubtract cloSubtract A B ca cb la lb _ hA hB ha hb).mono ?_; rintro e w1 ⟨v1, rfl, hb1, hP⟩)
  go_ret
  exact ⟨v1, rfl, hb1, hP⟩
theorem ssubtract_any (A B : Option Addr) (ca cb : Nat) (la lb : List (Int × Int)) (w : World) (hA : Rd w 2 A la.length (pc la)) (hB : Rd w 2 B lb.length (pc lb)) (ha : la.length ≤ 549755813888) (hb : lb.length ≤ 549755813888) :
    Calls Tryz.prog 54 #[.slice A la.length ca, .slice B lb.length cb] w (RdP 2 (combF subK la lb).length (pc (combF subK la lb)) w) :=
  (ssubtractO_any A B ca cb la lb w hA hB ha hb).mono fun _ _ h => h.rd

set_option maxHeartbeats 400000 in
theorem sof_any (A : Option Addr) (ca : Nat) (la : List (Int × Int)) (w : World) (hA : Rd w 2 A la.length (pc la)) (ha : la.length ≤ 549755813888) : Calls Tryz.prog 100 #[.slice A la.length ca] w (RdP 2 (ofF la).length (pc (ofF la)) w) := by
  have H := Lib.hid (fun w h => sweep_any 106 fstK entOf cloOf A none ca 0 la [] w h Rd.nil ha (by simp))
  rw [fst_of] at H
  go_enter Tryz.func100, Tryz.ntmps100
  go_wp2_with (go_at_call 76; refine (H.out _ hA).mono ?_; rintro e w1 ⟨A1, c1, rfl, hb1, hP⟩)
  go_ret
  exact ⟨A1, c1, rfl, hb1, hP⟩
set_option maxHeartbeats 1000000 in
theorem spoints_any (A : Option Addr) (ca : Nat) (la : List (Int × Int)) (w : World) (hA : Rd w 2 A la.length (pc la)) (ha : la.length ≤ 549755813888) :
    Calls Tryz.prog 99 #[.slice A la.length ca] w (RdP 1 (ptsF la).length (ic (ptsF la)) w) := by
  go_enter Tryz.func99, Tryz.ntmps99
  go_wp2
  go_loopw [3, 8] (fun out i wr => ∃ (k : Nat) (acc : List Int) (x : Add), k ≤ la.length ∧ acc.length ≤ 2 * k ∧ i = .int .i64 k ∧ Hid (bndF la = acc ++ bndF (la.drop k)) ∧ wr = ext w x ∧ Own w x 3 1 out acc.length (ic acc)) (fun _ i _ => la.length - (intOf i).toNat)
  case atStart =>
    obtain ⟨x, hx⟩ := (Ext.refl' w).get
    exact ⟨0, [], x, by omega, by simp, rfl, Lib.hid (by simp), hx, own_nil _ _ _ _⟩
  case round =>
    obtain ⟨k, acc, x, hk, hal, rfl, HC, rfl, hown⟩ := hrel
    by_cases hlt : k < la.length
    · obtain ⟨b, o, rfl, hb, hc1, hc2⟩ := hA.pair rfl hlt
      have hd := List.drop_eq_getElem_cons hlt
      rcases hv : pvB la[k] with _ | _
      · have HE : Hid (bndF la = acc ++ bndF (la.drop (k + 1))) := Lib.hid (by rw [HC.out, hd, bndF_cons, hv]; simp)
        generalize la[k] = p at hc1 hc2 hv
        clear hd HC
        go_wp2_with (go_at_call 27; refine (pvalid_any p _).mono ?_; rintro e w1 ⟨rfl, hb1⟩; obtain ⟨x1, rfl⟩ := hb1.get; clear hb1)
        go_roundw
        case rel => exact rel_same hown (by repeat (first | exact Ext.refl' _ | assumption | apply Ext.ex' | apply Ext.al | apply Ext.drN | apply Ext.dr)) fun x' hx' ho' => ⟨k + 1, acc, x', by omega, by omega, by go_num, HE, hx', ho'⟩
        case measure => simp [intOf]; omega
      · have HE : Hid (bndF la = acc ++ [la[k].1, la[k].2] ++ bndF (la.drop (k + 1))) := Lib.hid (by rw [HC.out, hd, bndF_cons, hv]; simp)
        generalize la[k] = p at hc1 hc2 hv HE
        clear hd HC
        go_wp2_with (first | (go_at_call 27; refine (pvalid_any p _).mono ?_; rintro e w1 ⟨rfl, hb1⟩; obtain ⟨x1, rfl⟩ := hb1.get; clear hb1) | (at_builtin; refine wpList_app _ rfl (.tmp 14) (.tmp 19) rfl elInt w (by repeat (first | exact Ext.refl' _ | assumption | apply Ext.ex' | apply Ext.al | apply Ext.drN | apply Ext.dr)) _ _ _ rfl (World.ownsRow.alloc (own_ext (World.ownsRow.alloc (by exact hown) _) x1) _) _ 2 2 [.int .i64 p.1, .int .i64 p.2] rfl (Rd.lit _ _ _ 2 1 rfl (by simp [size_ext])) (oneCell_ic [p.1, p.2]) (by unfold maxLen; omega) (by omega) ?_; intro v' x' hown' _))
        go_roundw
        case rel => exact ⟨k + 1, acc ++ [p.1, p.2], x', by omega, by simp; omega, by go_num, HE, rfl, by simpa [ic] using hown'⟩
        case measure => simp [intOf]; omega
    · have H0 : Hid (bndF la = acc) := Lib.hid (by rw [HC.out, List.drop_eq_nil_of_le (Nat.le_of_not_lt hlt)]; simp [bndF])
      have HP := Lib.hid (points_eq la)
      rw [H0.out] at HP
      obtain ⟨A1, c1, rfl, hl1, hm1⟩ := Own.form hown
      have hlen : (acc.mergeSort fun x y => decide (x ≤ y)).length = acc.length := List.length_mergeSort _
      have HS := Lib.hid (sortI w x A1 c1 acc hown (by omega))
      have HK := Lib.hid (fun x' ho => compactI w x' A1 c1 (acc.mergeSort fun x y => decide (x ≤ y)) ho (by rw [hlen]; omega) (by rw [hlen]; exact hl1))
      rw [HP.out, hlen] at HK
      generalize acc.mergeSort (fun x y => decide (x ≤ y)) = ms at HS HK
      clear HC HP H0 hown hlen
      go_wp2_with (first | (go_at_call 104; refine (HS.out).mono ?_; rintro e w1 ⟨rfl, x5, rfl, ho5⟩) | (go_at_call 105; refine (HK.out x5 ho5).mono ?_; rintro e w1 ⟨rfl, x6, rfl, hR6⟩))
      go_ret
      exact ⟨A1, c1, rfl, Ext.ex _ _, hR6⟩


theorem slc_step2 {l : List (Int × Int)} {ps : List Int} {i : Nat} (h : i + 1 < ps.length) : (pairsF (ps.drop i)).filter (fun p => inL l p.1) = (if inL l ps[i] then [(ps[i], ps[i + 1])] else []) ++ (pairsF (ps.drop (i + 1))).filter (fun p => inL l p.1) := by
  rw [pairsF_drop h, List.filter_cons]
  split <;> simp
theorem take_le_mono {all : List (Int × Int)} {k : Nat} {x y : Int} (h : ∀ q ∈ all.take k, q.2 ≤ x) (hxy : x ≤ y) : ∀ q ∈ all.take k, q.2 ≤ y := fun q hq => Int.le_trans (h q hq) hxy
set_option maxRecDepth 100000 in
set_option maxHeartbeats 4000000 in
theorem sslices_any (A : Option Addr) (ca : Nat) (l : List (Int × Int)) (w : World) (hA : Rd w 2 A l.length (pc l)) (ha : l.length ≤ 549755813888) :
    Calls Tryz.prog 90 #[.slice A l.length ca] w (RdP 2 (slcF l).length (pc (slcF l)) w) := by
  have hpl := ptsF_length l
  have HP := Lib.hid (fun w h => spoints_any A ca l w h ha)
  have HO := Lib.hid (fun w h => sof_any A ca l w h ha)
  have hcan := Lib.hid (ofF_can l)
  have hin := Lib.hid (ofF_in l)
  have hasc := Lib.hid (sorted_ptsF l)
  have hsh := can_short (ofF_can l)
  have HS : Hid (slcF l = [] ++ (pairsF ((ptsF l).drop 0)).filter (fun p => inL l p.1)) := Lib.hid rfl
  generalize ptsF l = ps at hpl HP HS hasc
  generalize ofF l = all at HO hcan hin hsh
  go_enter Tryz.func90, Tryz.ntmps90
  go_wp2_with (first | (go_at_call 99; refine (HP.out _ hA).mono ?_; rintro e w1 ⟨A1, c1, rfl, hb1, hP⟩; have hA1 := hA.ext hb1) | (go_at_call 100; refine (HO.out _ hA1).mono ?_; rintro e w2 ⟨A2, c2, rfl, hb2, hR⟩; have hP2 := hP.ext hb2; have hw : Ext w w2 := hb1.tr hb2))
  clear HP HO hA1 hP hb1 hb2
  go_loopw [5, 6, 7] (fun out vk vi wr => ∃ (i k : Nat) (acc : List (Int × Int)) (x : Add), i ≤ ps.length ∧ k ≤ all.length ∧ acc.length ≤ i ∧ vi = .int .i64 i ∧ vk = .int .i64 k ∧ Hid (slcF l = acc ++ (pairsF (ps.drop i)).filter (fun p => inL l p.1)) ∧ Hid (∀ (h : i < ps.length), ∀ q ∈ all.take k, q.2 ≤ ps[i]) ∧ wr = ext w2 x ∧ Own w2 x 25 2 out acc.length (pc acc)) (fun _ _ vi _ => ps.length - (intOf vi).toNat)
  case atStart =>
    obtain ⟨x, hx⟩ := (Ext.refl' w2).get
    exact ⟨0, 0, [], x, by omega, by omega, by simp, rfl, rfl, HS, Lib.hid (by simp), hx, own_nil _ _ _ _⟩
  case round =>
    obtain ⟨i, k0, acc, x, hi, hk0, hal, rfl, rfl, HC, HT0, rfl, hown⟩ := hrel
    by_cases hlt : i + 1 < ps.length
    · obtain ⟨b, o, rfl, hb, hc⟩ := hP2.int (show i < ps.length by omega)
      obtain ⟨b', o', he, hb', hd⟩ := hP2.int hlt
      simp only [Option.some.injEq, Addr.mk.injEq, and_true] at he
      obtain ⟨rfl, rfl⟩ := he
      have HD : Hid (slcF l = acc ++ ((if inL l ps[i] then [(ps[i], ps[i + 1])] else []) ++ (pairsF (ps.drop (i + 1))).filter (fun p => inL l p.1))) := Lib.hid (by rw [HC.out, slc_step2 hlt])
      have hle := List.pairwise_iff_getElem.1 hasc.out i (i + 1) (by omega) hlt (by omega)
      have HT := Lib.hid (HT0.out (by omega))
      have HZ : Hid (∀ (h : i + 1 < ps.length), ps[i + 1] = ps[i + 1]) := Lib.hid (fun _ => rfl)
      have HN : Hid (∃ z, z = ps[i + 1]) := Lib.hid ⟨_, rfl⟩
      have HQ : Hid (∀ (k : Nat), (∀ q ∈ all.take k, q.2 ≤ ps[i]) → ∀ (h : i + 1 < ps.length), ∀ q ∈ all.take k, q.2 ≤ ps[i + 1]) := Lib.hid (fun k h _ => take_le_mono h (by omega))
      clear HC HT0 HZ HN
      generalize ps[i] = y at hc HD hle HT HQ
      have hd' := hd
      generalize hzz : ps[i + 1] = z at hd' HD hle
      clear hd hzz
      rename_i hd
      have i1 : (0 : Int) ≤ (i : Int) := by omega
      have i2 : (i : Int) < (ps.length : Int) := by omega
      go_wp2
      go_loopw [6] (fun vk wr => ∃ (k : Nat) (x' : Add), k ≤ all.length ∧ vk = .int .i64 k ∧ Hid (∀ q ∈ all.take k, q.2 ≤ y) ∧ wr = ext w2 x' ∧ Own w2 x' 25 2 _ acc.length (pc acc)) (fun vk _ => all.length - (intOf vk).toNat)
      case atStart => exact ⟨k0, x, hk0, rfl, HT, rfl, hown⟩
      case round =>
        obtain ⟨k, x, hk, rfl, HT, rfl, hown⟩ := hrel
        have j1 : (0 : Int) ≤ (k : Int) := by omega
        by_cases hka : k < all.length
        · obtain ⟨b2, o2, rfl, hb2, hg1, hg2⟩ := hR.pair rfl hka
          have j2 : (k : Int) < (all.length : Int) := by omega
          rcases Int.lt_or_le y all[k].2 with hgt | hge
          · have hat : inL l y = decide (all[k].1 ≤ y) := (hin.out y).symm.trans (can_at hcan.out HT.out hka hgt)
            rcases Int.lt_or_le y all[k].1 with hlo | hhi
            · have HE : Hid (slcF l = acc ++ (pairsF (ps.drop (i + 1))).filter (fun p => inL l p.1)) := Lib.hid (by rw [HD.out, hat, decide_eq_false (by omega)]; simp)
              generalize all[k] = q at hg1 hg2 hgt hlo
              clear hat HD
              have d1 : decide (q.2 ≤ y) = false := by simp; omega
              have d2 : decide (q.1 ≤ y) = false := by simp; omega
              go_wp2
              go_quiet (fail)
              go_wp2
              go_quiet (fail)
              go_wp2
              go_roundw
              case rel => exact rel_same hown (by repeat (first | exact Ext.refl' _ | assumption | apply Ext.ex' | apply Ext.al | apply Ext.drN | apply Ext.dr)) fun x' hx' ho' => ⟨i + 1, k, acc, x', by omega, by omega, by omega, by go_num, rfl, HE, Lib.hid (HQ.out k HT.out), hx', ho'⟩
              case measure => simp [intOf]; omega
            · have HE : Hid (slcF l = acc ++ [(y, z)] ++ (pairsF (ps.drop (i + 1))).filter (fun p => inL l p.1)) := Lib.hid (by rw [HD.out, hat, decide_eq_true hhi]; simp)
              generalize all[k] = q at hg1 hg2 hgt hhi
              clear hat HD
              have d1 : decide (q.2 ≤ y) = false := by simp; omega
              have d2 : decide (q.1 ≤ y) = true := by simp; omega
              go_wp2
              go_quiet (fail)
              go_wp2
              go_quiet (fail)
              go_wp2
              have e1 : IntKind.i64.wrap ((i : Int) + 1) = (i : Int) + 1 := IntWalk.i64_in _ (by omega)
              have e2 : (0 : Int) ≤ (i : Int) + 1 := by omega
              have e4 : (i : Int) + 1 < (ps.length : Int) := by omega
              have e6 : ((i : Int) + 1).toNat = i + 1 := by omega
              go_region_held3 (fun w' => w'.cell? ⟨b, o + i, none⟩ = some (.int .i64 y) ∧ w'.cell? ⟨b, o + (i + 1), none⟩ = some (.int .i64 z)) (simp [go_sem, ↓IntWalk.iteOmega, *]) ((refine step_app _ (by rfl) (.tmp 53) (.tmp 64) (by rfl) elPeriod w2 (by repeat (first | exact Ext.refl' _ | assumption | apply Ext.ex' | apply Ext.al | apply Ext.drN | apply Ext.dr)) _ _ _ (by rfl) (World.ownsRow.alloc (by exact hown) _) _ 1 1 [.int .i64 y, .int .i64 z] (by rfl) (Rd.lit _ _ _ 1 2 rfl (by simp [size_ext])) (oneCell_pc [(y, z)]) (by unfold maxLen; omega) (by omega) ?_; intro v' x' hown' _))
              clear e1 e2 e4 e6
              go_wp2
              go_roundw
              case rel => exact ⟨i + 1, k, acc ++ [(y, z)], x', by omega, by omega, by simp; omega, by go_num, rfl, HE, Lib.hid (HQ.out k HT.out), rfl, by simpa [pc] using hown'⟩
              case measure => simp [intOf]; omega
          · have HT' : Hid (∀ q ∈ all.take (k + 1), q.2 ≤ y) := Lib.hid (fun q hq => by
              rw [List.take_succ_eq_append_getElem hka] at hq
              rcases List.mem_append.1 hq with h | h
              · exact HT.out q h
              · simp at h; subst h; exact hge)
            generalize all[k] = q at hg1 hg2 hge
            have d1 : decide (q.2 ≤ y) = true := by simp; omega
            go_wp2
            go_quiet (fail)
            go_wp2
            go_roundw
            case rel => exact rel_same hown (by repeat (first | exact Ext.refl' _ | assumption | apply Ext.ex' | apply Ext.al | apply Ext.drN | apply Ext.dr)) fun x' hx' ho' => ⟨k + 1, x', by omega, by go_num, HT', hx', ho'⟩
            case measure => simp [intOf]; omega
        · have HE : Hid (slcF l = acc ++ (pairsF (ps.drop (i + 1))).filter (fun p => inL l p.1)) := Lib.hid (by rw [HD.out, ← hin.out y, can_past HT.out hka]; simp)
          clear HD
          have d0 : decide (k < all.length) = false := by simp; omega
          go_wp2
          go_quiet (fail)
          go_wp2
          go_quiet (fail)
          go_wp2
          go_roundw
          case rel => exact rel_same hown (by repeat (first | exact Ext.refl' _ | assumption | apply Ext.ex' | apply Ext.al | apply Ext.drN | apply Ext.dr)) fun x' hx' ho' => ⟨i + 1, k, acc, x', by omega, by omega, by omega, by go_num, rfl, HE, Lib.hid (HQ.out k HT.out), hx', ho'⟩
          case measure => simp [intOf]; omega
    · have H0 : Hid (slcF l = acc) := Lib.hid (by rw [HC.out, pairsF_end (by omega)]; simp)
      go_wp2
      go_ret
      obtain ⟨A', c', rfl, _, _⟩ := Own.form hown
      exact ⟨A', c', by rw [H0.out]; rfl, hw.tr (Ext.ex _ _), by rw [H0.out]; exact Rd.of_own hown⟩

end Go.Proofs.YtimhehnmmjgeaaaGreatDoor
