/- The contracts of package region: Of, Union, Intersect, Subtract, Valid; the reference Valid. -/
import Derived.Test.YtcnhnbdgmfhfgaaRgI
set_option linter.unusedSimpArgs false
set_option linter.unusedVariables false
namespace Go.Proofs.Ytcnhnbdgmfhfgaa
open Go.RowKit


theorem gUnionEnt : ∀ args w, (callFunc 37 args).run Try.prog w = .ok (.enter 37 args) w := enters_of Try.func37 (by kernel_rfl) rfl
theorem gUnionCom (A B : Option Addr) (ca cb : Nat) (a b : List Rct) (w : World) (hA : Rd w 4 A a.length (rcl a)) (hB : Rd w 4 B b.length (rcl b)) (ha : a.length ≤ 50000) (hb : b.length ≤ 50000) :
    Calls Try.prog 36 #[.slice A a.length ca, .slice B b.length cb, .func (.func 37) #[] #[]] w (RdP 4 (regF ofK a b).length (rcl (regF ofK a b)) w) :=
  combine_any 37 gUnionEnt ofK rfl (fun A B ca cb la lb w h1 h2 h3 h4 => sunionO_any A B ca cb la lb w h1 h2 (by omega) (by omega)) A B ca cb a b w hA hB ha hb
set_option maxHeartbeats 400000 in
theorem gUnion_any (A B : Option Addr) (ca cb : Nat) (a b : List Rct) (w : World) (hA : Rd w 4 A a.length (rcl a)) (hB : Rd w 4 B b.length (rcl b)) (ha : a.length ≤ 50000) (hb : b.length ≤ 50000) :
    Calls Try.prog 12 #[.slice A a.length ca, .slice B b.length cb] w (RdP 4 (regF ofK a b).length (rcl (regF ofK a b)) w) := by
  have H := Lib.hid (fun w h1 h2 => gUnionCom A B ca cb a b w h1 h2 ha hb)
  generalize regF ofK a b = R at H ⊢
  go_enter Try.func12, Try.ntmps12
  go_wp2_with fail
  refine Calls.mono (H.out _ hA hB) ?_
  rintro e w1 ⟨A1, c1, rfl, hb1, hP⟩
  go_wp2
  go_ret
  exact ⟨A1, c1, rfl, hb1, hP⟩


theorem gIntersectEnt : ∀ args w, (callFunc 39 args).run Try.prog w = .ok (.enter 39 args) w := enters_of Try.func39 (by kernel_rfl) rfl
theorem gIntersectCom (A B : Option Addr) (ca cb : Nat) (a b : List Rct) (w : World) (hA : Rd w 4 A a.length (rcl a)) (hB : Rd w 4 B b.length (rcl b)) (ha : a.length ≤ 50000) (hb : b.length ≤ 50000) :
    Calls Try.prog 36 #[.slice A a.length ca, .slice B b.length cb, .func (.func 39) #[] #[]] w (RdP 4 (regF interK a b).length (rcl (regF interK a b)) w) :=
  combine_any 39 gIntersectEnt interK rfl (fun A B ca cb la lb w h1 h2 h3 h4 => sintersectO_any A B ca cb la lb w h1 h2 (by omega) (by omega)) A B ca cb a b w hA hB ha hb
set_option maxHeartbeats 400000 in
theorem gIntersect_any (A B : Option Addr) (ca cb : Nat) (a b : List Rct) (w : World) (hA : Rd w 4 A a.length (rcl a)) (hB : Rd w 4 B b.length (rcl b)) (ha : a.length ≤ 50000) (hb : b.length ≤ 50000) :
    Calls Try.prog 14 #[.slice A a.length ca, .slice B b.length cb] w (RdP 4 (regF interK a b).length (rcl (regF interK a b)) w) := by
  have H := Lib.hid (fun w h1 h2 => gIntersectCom A B ca cb a b w h1 h2 ha hb)
  generalize regF interK a b = R at H ⊢
  go_enter Try.func14, Try.ntmps14
  go_wp2_with fail
  refine Calls.mono (H.out _ hA hB) ?_
  rintro e w1 ⟨A1, c1, rfl, hb1, hP⟩
  go_wp2
  go_ret
  exact ⟨A1, c1, rfl, hb1, hP⟩


theorem gSubtractEnt : ∀ args w, (callFunc 40 args).run Try.prog w = .ok (.enter 40 args) w := enters_of Try.func40 (by kernel_rfl) rfl
theorem gSubtractCom (A B : Option Addr) (ca cb : Nat) (a b : List Rct) (w : World) (hA : Rd w 4 A a.length (rcl a)) (hB : Rd w 4 B b.length (rcl b)) (ha : a.length ≤ 50000) (hb : b.length ≤ 50000) :
    Calls Try.prog 36 #[.slice A a.length ca, .slice B b.length cb, .func (.func 40) #[] #[]] w (RdP 4 (regF subK a b).length (rcl (regF subK a b)) w) :=
  combine_any 40 gSubtractEnt subK rfl (fun A B ca cb la lb w h1 h2 h3 h4 => ssubtractO_any A B ca cb la lb w h1 h2 (by omega) (by omega)) A B ca cb a b w hA hB ha hb
set_option maxHeartbeats 400000 in
theorem gSubtract_any (A B : Option Addr) (ca cb : Nat) (a b : List Rct) (w : World) (hA : Rd w 4 A a.length (rcl a)) (hB : Rd w 4 B b.length (rcl b)) (ha : a.length ≤ 50000) (hb : b.length ≤ 50000) :
    Calls Try.prog 16 #[.slice A a.length ca, .slice B b.length cb] w (RdP 4 (regF subK a b).length (rcl (regF subK a b)) w) := by
  have H := Lib.hid (fun w h1 h2 => gSubtractCom A B ca cb a b w h1 h2 ha hb)
  generalize regF subK a b = R at H ⊢
  go_enter Try.func16, Try.ntmps16
  go_wp2_with fail
  refine Calls.mono (H.out _ hA hB) ?_
  rintro e w1 ⟨A1, c1, rfl, hb1, hP⟩
  go_wp2
  go_ret
  exact ⟨A1, c1, rfl, hb1, hP⟩


set_option maxHeartbeats 400000 in
theorem gofR_any (A : Option Addr) (ca : Nat) (a : List Rct) (w : World) (hA : Rd w 4 A a.length (rcl a)) (ha : a.length ≤ 50000) :
    Calls Try.prog 18 #[.slice A a.length ca] w (RdP 4 (regF ofK a []).length (rcl (regF ofK a [])) w) := by
  have H := Lib.hid (fun w h1 => gUnionCom A none ca 0 a [] w h1 Rd.nil ha (by simp))
  generalize regF ofK a [] = R at H ⊢
  go_enter Try.func18, Try.ntmps18
  go_wp2_with fail
  refine Calls.mono (H.out _ hA) ?_
  rintro e w1 ⟨A1, c1, rfl, hb1, hP⟩
  go_wp2
  go_ret
  exact ⟨A1, c1, rfl, hb1, hP⟩
set_option maxHeartbeats 400000 in
theorem rvalidL_any (A : Option Addr) (c : Nat) (l : List Rct) (w : World) (hA : Rd w 4 A l.length (rcl l)) (hl : l.length ≤ 50000) (hR : (regF ofK l []).length ≤ 9223372036854775807) :
    Calls Try.prog 32 #[.slice A l.length c] w fun e w' => e = .returned (.bool (decide (regF ofK l [] = l))) ∧ Ext w w' := by
  have H := Lib.hid (fun w h1 => rofR_any A c l w h1 hl)
  generalize regF ofK l [] = R at H hR ⊢
  go_enter Try.func32, Try.ntmps32
  go_wp2_with fail
  refine Calls.mono (H.out _ hA) ?_
  rintro e w1 ⟨A1, c1, rfl, hb1, hP⟩
  go_wp2_with fail
  refine Calls.mono (sameR_any A1 A c1 c R l _ hP (hA.ext hb1) hR (by omega)) ?_
  rintro e w2 ⟨rfl, hb2⟩
  go_wp2
  go_ret
  exact ⟨rfl, hb1.tr hb2⟩
set_option maxHeartbeats 1000000 in
theorem gvalidL_any (A : Option Addr) (c : Nat) (l : List Rct) (w : World) (hA : Rd w 4 A l.length (rcl l)) (hl : l.length ≤ 50000) (hR : (regF ofK l []).length ≤ 9223372036854775807) :
    Calls Try.prog 29 #[.slice A l.length c] w fun e w' => e = .returned (.bool (decide (regF ofK l [] = l))) ∧ Ext w w' := by
  have H := Lib.hid (fun w h1 => gofR_any A c l w h1 hl)
  generalize regF ofK l [] = R at H hR ⊢
  go_enter Try.func29, Try.ntmps29
  go_wp2_with fail
  refine Calls.mono (H.out _ hA) ?_
  rintro e w1 ⟨A1, c1, rfl, hb1, hP⟩
  have hA := hA.ext hb1
  have HW := Lib.hid hb1
  clear H hb1
  by_cases hn : R.length = l.length
  · have hb : ((R.length : Int) != (l.length : Int)) = false := by simp [hn]
    have HN := Lib.hid hn
    clear hn
    go_wp2
    go_loopw [15] (fun i wr => ∃ k : Nat, k ≤ l.length ∧ i = .int .i64 k ∧ Hid (R.take k = l.take k) ∧ Ext w1 wr) (fun i _ => l.length - (intOf i).toNat)
    case atStart => exact ⟨0, Nat.zero_le _, rfl, Lib.hid (by simp), Ext.refl' _⟩
    case round =>
      obtain ⟨k, hk, rfl, HT, hext⟩ := hrel
      obtain ⟨x, rfl⟩ := hext.get
      clear hext
      by_cases hlt : k < l.length
      · obtain ⟨b, o, rfl, hb, hc1, hc2, hc3, hc4⟩ := hA.rect hlt
        have hlt' : k < R.length := by have := HN.out; omega
        obtain ⟨b', o', rfl, hb', hd1, hd2, hd3, hd4⟩ := hP.rect hlt'
        by_cases heq : l[k] = R[k]
        · have HE := Lib.hid (take_succ_eq hlt' hlt HT.out heq.symm)
          have hdq : decide (l[k] = R[k]) = true := by simp [heq]
          clear heq
          generalize l[k] = p at hc1 hc2 hc3 hc4 hdq
          generalize R[k] = q at hd1 hd2 hd3 hd4 hdq
          go_wp2
          go_quiet (fail)
          go_wp2
          go_roundw
          case rel => exact ⟨k + 1, by omega, by go_num, HE, by repeat (first | exact Ext.refl' _ | assumption | apply Ext.ex' | apply Ext.al | apply Ext.drN | apply Ext.dr)⟩
          case measure => simp [intOf]; omega
        · have HE := Lib.hid (take_ne hlt' hlt (Ne.symm heq))
          have hdq : decide (l[k] = R[k]) = false := by simp [heq]
          clear heq
          generalize l[k] = p at hc1 hc2 hc3 hc4 hdq
          generalize R[k] = q at hd1 hd2 hd3 hd4 hdq
          go_wp2
          go_quiet (fail)
          go_wp2
          go_ret
          exact ⟨by simp [HE.out], HW.out.tr (by repeat (first | exact Ext.refl' _ | assumption | apply Ext.ex' | apply Ext.al | apply Ext.drN | apply Ext.dr))⟩
      · go_wp2
        go_ret
        exact ⟨by rw [eq_of_takes HN.out (by have := HN.out; omega) HT.out]; simp, HW.out.tr (Ext.ex _ _)⟩
  · have hb : ((R.length : Int) != (l.length : Int)) = true := by simp; omega
    have hlm : decide (R = l) = false := by simp; rintro rfl; exact hn rfl
    have HLM := Lib.hid hlm
    clear hn hlm
    go_wp2
    go_ret
    exact ⟨by rw [HLM.out]; rfl, HW.out⟩

end Go.Proofs.Ytcnhnbdgmfhfgaa
