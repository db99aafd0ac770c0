/- The contract of region.each. -/
import Derived.Test.YtimhehnmmjgeaaaGreatDoorRgF
set_option linter.unusedSimpArgs false
set_option linter.unusedVariables false
namespace Go.Proofs.YtimhehnmmjgeaaaGreatDoor
open Go.RowKit


set_option maxHeartbeats 2000000 in
theorem each_any (g : Nat) (lb : Array Value) (eg : ∀ args w, (callFunc g args).run Tryz.prog w = .ok (.enter g args) w) (A B : Option Addr) (ca cb : Nat) (a b : List Rct) (w : World) (hA : Rd w 4 A a.length (rcl a)) (hB : Rd w 4 B b.length (rcl b)) (ha : a.length ≤ 50000) (hb : b.length ≤ 50000)
    (Post : World → Prop) (ps : List (Int × Int)) (hps : ps = slcF (sysR (a ++ b)))
    (hJ : ∀ W1 A1, Ext w W1 → Rd W1 2 A1 ps.length (pc ps) → ∃ J : Nat → World → Prop, J 0 W1 ∧ (∀ j W, J j W → Rd W 2 A1 ps.length (pc ps)) ∧ (∀ j W o, J j W → J j (W.alloc o)) ∧ (∀ j (hj : j < ps.length) W, J j W → Calls Tryz.prog g (#[pr ps[j]] ++ lb) W fun e w' => e = .returned (.tuple #[]) ∧ J (j + 1) w') ∧ (∀ W, J ps.length W → Post W)) :
    Calls Tryz.prog 72 #[.slice A a.length ca, .slice B b.length cb, .func (.func g) #[] lb] w fun e w' => e = .returned (.tuple #[]) ∧ Post w' := by
  have HC := Lib.hid (fun gb w h1 h2 h3 h4 h5 => concat_any A B ca cb gb a b w h1 h2 ha hb h3 h4 h5)
  have hsl := slcF_length (sysR (a ++ b))
  have hsy := sysR_length (a ++ b)
  have hab : (a ++ b).length ≤ 100000 := by simp; omega
  have HSL := Lib.hid (fun A c w h => sslices_any A c (sysR (a ++ b)) w h (by omega))
  rw [← hps] at HSL hsl
  have HY : Hid (sysR (a ++ b) = [] ++ sysR ((a ++ b).drop 0)) := Lib.hid (by simp)
  have HJ := Lib.hid hJ
  clear hJ hps
  generalize a ++ b = l at HC HSL HY hab hsl hsy
  go_enter Tryz.func72, Tryz.ntmps72
  go_wp2_with fail
  refine Calls.mono (HC.out _ _ (hA.ext (by repeat (first | exact Ext.refl' _ | assumption | apply Ext.ex' | apply Ext.al | apply Ext.drN | apply Ext.dr))) (hB.ext (by repeat (first | exact Ext.refl' _ | assumption | apply Ext.ex' | apply Ext.al | apply Ext.drN | apply Ext.dr))) ?q1 ?q2 ?q3) ?_
  case q1 => simp
  case q2 => simp [go_sem]
  case q3 => simp [go_sem]
  rintro e w1 ⟨A1, c1, rfl, hb1, hR⟩
  have hw : Ext w w1 := (Ext.al1 w _).tr hb1
  clear hb1 HC
  go_wp2
  go_loopw [6, 16] (fun out i wr => ∃ (k : Nat) (acc : List (Int × Int)) (x : Add), k ≤ l.length ∧ acc.length ≤ k ∧ i = .int .i64 k ∧ Hid (sysR l = acc ++ sysR (l.drop k)) ∧ wr = ext w1 x ∧ Own w1 x 25 2 out acc.length (pc acc)) (fun _ i _ => l.length - (intOf i).toNat)
  case atStart =>
    obtain ⟨x, hx⟩ := (Ext.refl' w1).get
    exact ⟨0, [], x, by omega, by simp, rfl, HY, hx, own_nil _ _ _ _⟩
  case round =>
    obtain ⟨k, acc, x, hk, hal, rfl, HC, rfl, hown⟩ := hrel
    by_cases hlt : k < l.length
    · obtain ⟨b, o, rfl, hb, hc1, hc2, hc3, hc4⟩ := hR.rect hlt
      have HD : Hid (sysR l = acc ++ ((if rvB l[k] then [l[k].2] else []) ++ sysR (l.drop (k + 1)))) := Lib.hid (by rw [HC.out, List.drop_eq_getElem_cons hlt, sysR_cons])
      generalize l[k] = r at hc1 hc2 hc3 hc4 HD
      clear HC
      rcases hv : rvB r with _ | _
      · have HE : Hid (sysR l = acc ++ sysR (l.drop (k + 1))) := Lib.hid (by rw [HD.out, hv]; rfl)
        go_wp2_with (go_at_call 89; refine (gvalid_any r _).mono ?_; rintro e w1 ⟨rfl, hb1⟩; obtain ⟨x1, rfl⟩ := hb1.get; clear hb1)
        go_roundw
        case rel => exact rel_same hown (by repeat (first | exact Ext.refl' _ | assumption | apply Ext.ex' | apply Ext.al | apply Ext.drN | apply Ext.dr)) fun x' hx' ho' => ⟨k + 1, acc, x', by omega, by omega, by go_num, HE, hx', ho'⟩
        case measure => simp [intOf]; omega
      · have HE : Hid (sysR l = acc ++ [r.2] ++ sysR (l.drop (k + 1))) := Lib.hid (by rw [HD.out, hv]; simp)
        go_wp2_with (first | (go_at_call 89; refine (gvalid_any r _).mono ?_; rintro e w1 ⟨rfl, hb1⟩; obtain ⟨x1, rfl⟩ := hb1.get; clear hb1) | (at_builtin; refine wpList_app _ rfl (.tmp 22) (.tmp 25) rfl elPeriod w1 (by repeat (first | exact Ext.refl' _ | assumption | apply Ext.ex' | apply Ext.al | apply Ext.drN | apply Ext.dr)) _ _ _ rfl (World.ownsRow.alloc (own_ext (World.ownsRow.alloc (by exact hown) _) x1) _) _ 1 1 [.int .i64 r.2.1, .int .i64 r.2.2] rfl (Rd.lit _ _ _ 1 2 rfl (by simp [size_ext])) (oneCell_pc [r.2]) (by unfold maxLen; omega) (by omega) ?_; intro v' x' hown' _))
        go_roundw
        case rel => exact ⟨k + 1, acc ++ [r.2], x', by omega, by simp; omega, by go_num, HE, rfl, by simpa [pc] using hown'⟩
        case measure => simp [intOf]; omega
    · have H0 : Hid (sysR l = acc) := Lib.hid (by rw [HC.out, List.drop_eq_nil_of_le (Nat.le_of_not_lt hlt)]; simp [sysR])
      obtain ⟨A', c', rfl, _, _⟩ := Own.form hown
      have hRa := Rd.of_own hown
      rw [H0.out] at HSL
      go_wp2_with fail
      refine Calls.mono (HSL.out _ _ _ hRa) ?_
      rintro e w2 ⟨A2, c2, rfl, hb2, hP⟩
      obtain ⟨J, j0, j1, j2, j3, j4⟩ := HJ.out w2 A2 (hw.tr ((Ext.ex w1 x).tr hb2)) hP
      have J1 := Lib.hid j1
      have J2 := Lib.hid j2
      have J3 := Lib.hid j3
      have J4 := Lib.hid j4
      clear HJ j1 j2 j3 j4 hP hb2 HSL hRa hown HC
      go_wp2
      go_loopw [31] (fun vi wr => ∃ (i : Nat), i ≤ ps.length ∧ vi = .int .i64 i ∧ J i wr) (fun vi _ => ps.length - (intOf vi).toNat)
      case atStart => exact ⟨0, by omega, rfl, j0⟩
      case round =>
        obtain ⟨i, hi, rfl, hji⟩ := hrel
        by_cases hip : i < ps.length
        · obtain ⟨b, o, rfl, hbs, hc1, hc2⟩ := (J1.out i _ hji).pair rfl hip
          have HV := Lib.hid (J3.out i hip)
          generalize ps[i] = p at hc1 hc2 HV
          have hj2 := J2.out i _ (.cells #[.int .i64 p.1, .int .i64 p.2] 25) hji
          go_wp2_with (go_at_fn g; refine Calls.mono (HV.out _ hj2) ?_; rintro e w3 ⟨rfl, hj3⟩)
          go_roundw
          case rel => exact ⟨i + 1, by omega, by go_num, hj3⟩
          case measure => simp [intOf]; omega
        · obtain rfl : i = ps.length := by omega
          go_wp2
          go_end0
          exact ⟨rfl, J4.out _ hji⟩

end Go.Proofs.YtimhehnmmjgeaaaGreatDoor
