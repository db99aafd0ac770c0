/- The contracts of Covers, Length, Next and Valid. -/
import Derived.Test.YtogfageapejmpaaSpC
set_option linter.unusedSimpArgs false
set_option linter.unusedVariables false
namespace Go.Proofs.Ytogfageapejmpaa
open Go.RowKit


def coversF (a b : List (Int × Int)) : Bool := decide ((combF subK b a).length = 0)
set_option maxHeartbeats 400000 in
theorem rcoversL_any (A B : Option Addr) (ca cb : Nat) (la lb : List (Int × Int)) (w : World) (hA : Rd w 2 A la.length (pc la)) (hB : Rd w 2 B lb.length (pc lb)) (ha : la.length ≤ 549755813888) (hb : lb.length ≤ 549755813888) :
    Calls Try.prog 33 #[.slice A la.length ca, .slice B lb.length cb] w fun e w' => e = .returned (.bool (coversF la lb)) ∧ Ext w w' := by
  have HL := Lib.hid (show coversF la lb = (((combF subK lb la).length : Int) == 0) from by unfold coversF; rw [Bool.eq_iff_iff]; simp)
  have HS := Lib.hid (fun w h1 h2 => rsubtract_any B A cb ca lb la w h1 h2 hb ha)
  rw [HL.out]
  generalize combF subK lb la = r at HS
  clear HL
  go_enter Try.func33, Try.ntmps33
  go_wp2_with (go_at_call 29; refine (HS.out _ hB hA).mono ?_; rintro e w1 ⟨A1, c1, rfl, hb1, hP⟩)
  go_ret
  exact ⟨rfl, hb1⟩


set_option maxHeartbeats 1000000 in
theorem rlength_any (A : Option Addr) (ca : Nat) (la : List (Int × Int)) (w : World) (hA : Rd w 2 A la.length (pc la)) (ha : la.length ≤ 549755813888) :
    Calls Try.prog 15 #[.slice A la.length ca] w fun e w' => e = .returned (.int .i64 (lenF (ofF la))) ∧ Ext w w' := by
  have HS := Lib.hid (fun w h => rof_any A ca la w h ha)
  have hcan := Lib.hid (ofF_can la)
  have hsh := can_short (ofF_can la)
  change Hid (∀ w h, Calls _ _ _ _ (RdP 2 (ofF la).length (pc (ofF la)) w)) at HS
  generalize ofF la = r at HS hcan hsh ⊢
  go_enter Try.func15, Try.ntmps15
  go_wp2_with (go_at_call 13; refine (HS.out _ hA).mono ?_; rintro e w1 ⟨A1, c1, rfl, hb1, hP⟩)
  go_loopw [4, 5] (fun n i wr => ∃ (k : Nat), k ≤ r.length ∧ i = .int .i64 k ∧ n = .int .i64 (lenF (r.take k)) ∧ Ext w1 wr) (fun _ i _ => r.length - (intOf i).toNat)
  case atStart => exact ⟨0, by omega, rfl, rfl, Ext.refl' _⟩
  case round =>
    obtain ⟨k, hk, rfl, rfl, hext⟩ := hrel
    obtain ⟨x, rfl⟩ := hext.get
    clear hext
    have hbd := lenF_bound (can_take hcan.out k)
    by_cases hlt : k < r.length
    · obtain ⟨b, o, rfl, hb, hc1, hc2⟩ := hP.pair rfl hlt
      have hbd2 := lenF_bound (can_take hcan.out (k + 1))
      have hpv := pvB_iff.1 (hcan.out.1 _ (List.getElem_mem hlt))
      have HT := Lib.hid (lenF_take_succ hlt)
      rw [HT.out] at hbd2
      generalize r[k] = p at hc1 hc2 hbd2 HT hpv
      generalize lenF (r.take k) = m at hbd hbd2 HT
      go_wp2
      go_quiet (fail)
      go_wp2
      go_roundw
      case rel => exact ⟨k + 1, by omega, by go_num, by rw [HT.out]; congr 1; first | omega | (simp [go_sem, ↓IntWalk.iteOmega]; omega), by repeat (first | exact Ext.refl' _ | assumption | apply Ext.ex' | apply Ext.al | apply Ext.drN | apply Ext.dr)⟩
      case measure => simp [intOf]; omega
    · have H0 : Hid (lenF (r.take k) = lenF r) := Lib.hid (by rw [List.take_of_length_le (by omega)])
      go_wp2
      go_ret
      exact ⟨by rw [← H0.out]; rfl, hb1.tr (Ext.ex _ _)⟩


theorem nextF_yes {t : Int} {p : Int × Int} {l : List (Int × Int)} (h : t < p.2) : nextF t (p :: l) = (if t < p.1 then p.1 else t, true) := by simp [nextF, h]
theorem nextF_no {t : Int} {p : Int × Int} {l : List (Int × Int)} (h : p.2 ≤ t) : nextF t (p :: l) = nextF t l := by
  have : ¬ t < p.2 := by omega
  simp [nextF, this]
set_option maxHeartbeats 1000000 in
theorem rnext_any (A : Option Addr) (ca : Nat) (la : List (Int × Int)) (t : Int) (w : World) (hA : Rd w 2 A la.length (pc la)) (ha : la.length ≤ 549755813888) :
    Calls Try.prog 38 #[.slice A la.length ca, .int .i64 t] w fun e w' => e = .returned (.tuple #[.int .i64 (nextF t (ofF la)).1, .bool (nextF t (ofF la)).2]) ∧ Ext w w' := by
  have HS := Lib.hid (fun w h => rof_any A ca la w h ha)
  have hsh := can_short (ofF_can la)
  change Hid (∀ w h, Calls _ _ _ _ (RdP 2 (ofF la).length (pc (ofF la)) w)) at HS
  generalize ofF la = r at HS hsh ⊢
  go_enter Try.func38, Try.ntmps38
  go_wp2_with (go_at_call 13; refine (HS.out _ hA).mono ?_; rintro e w1 ⟨A1, c1, rfl, hb1, hP⟩)
  go_loopw [7] (fun i wr => ∃ (k : Nat), k ≤ r.length ∧ i = .int .i64 k ∧ Hid (nextF t r = nextF t (r.drop k)) ∧ Ext w1 wr) (fun i _ => r.length - (intOf i).toNat)
  case atStart => exact ⟨0, by omega, rfl, Lib.hid rfl, Ext.refl' _⟩
  case round =>
    obtain ⟨k, hk, rfl, HC, hext⟩ := hrel
    obtain ⟨x, rfl⟩ := hext.get
    clear hext
    by_cases hlt : k < r.length
    · obtain ⟨b, o, rfl, hb, hc1, hc2⟩ := hP.pair rfl hlt
      have HD := Lib.hid (List.drop_eq_getElem_cons hlt)
      generalize r[k] = p at hc1 hc2 HD
      rcases Int.lt_or_le t p.2 with h2 | h2
      · have HE : Hid (nextF t r = (if t < p.1 then p.1 else t, true)) := Lib.hid (by rw [HC.out, HD.out, nextF_yes h2])
        go_wp2
        all_goals go_ret2
        all_goals refine ⟨?_, by repeat (first | exact hb1 | exact Ext.refl' _ | assumption | apply Ext.ex' | apply Ext.al | apply Ext.drN | apply Ext.dr)⟩
        all_goals rw [HE.out]
        all_goals first | (rw [if_pos (by assumption)]; rfl) | (rw [if_neg (by omega)]; rfl)
      · have HE : Hid (nextF t r = nextF t (r.drop (k + 1))) := Lib.hid (by rw [HC.out, HD.out, nextF_no h2])
        go_wp2
        go_roundw
        case rel => exact ⟨k + 1, by omega, by go_num, HE, by repeat (first | exact Ext.refl' _ | assumption | apply Ext.ex' | apply Ext.al | apply Ext.drN | apply Ext.dr)⟩
        case measure => simp [intOf]; omega
    · have H0 : Hid (nextF t r = (0, false)) := Lib.hid (by rw [HC.out, List.drop_eq_nil_of_le (by omega)]; rfl)
      go_wp2
      go_ret2
      exact ⟨by rw [H0.out]; rfl, hb1.tr (Ext.ex _ _)⟩


/-- is a list a span, as both texts ask it -/
def canF : Option Int → List (Int × Int) → Bool
  | _, [] => true
  | q, p :: l => pvB p && (match q with | none => true | some e => decide (e < p.1)) && canF (some p.2) l
def prevF (l : List (Int × Int)) (k : Nat) : Option Int := if k = 0 then none else l[k - 1]?.map (·.2)
theorem prevF_succ {l : List (Int × Int)} {k : Nat} (h : k < l.length) : prevF l (k + 1) = some l[k].2 := by
  unfold prevF; rw [if_neg (by omega), Nat.add_sub_cancel, List.getElem?_eq_getElem h]; rfl
theorem canF_bad {q : Option Int} {p : Int × Int} {l : List (Int × Int)} (h : pvB p = false) : canF q (p :: l) = false := by simp [canF, h]
theorem canF_near {e : Int} {p : Int × Int} {l : List (Int × Int)} (h : p.1 ≤ e) : canF (some e) (p :: l) = false := by
  have : ¬ e < p.1 := by omega
  simp [canF, this]
theorem canF_next {e : Int} {p : Int × Int} {l : List (Int × Int)} (hv : pvB p = true) (h : e < p.1) : canF (some e) (p :: l) = canF (some p.2) l := by simp [canF, hv, h]
theorem canF_first {p : Int × Int} {l : List (Int × Int)} (hv : pvB p = true) : canF none (p :: l) = canF (some p.2) l := by simp [canF, hv]
theorem canF_some : ∀ (l : List (Int × Int)) (e : Int), canF (some e) l = true ↔ Can l ∧ ∀ p ∈ l, e < p.1
  | [], e => by simp [canF, can_nil]
  | p :: l, e => by
    rw [canF, can_cons]
    simp only [Bool.and_eq_true, decide_eq_true_eq, canF_some l, List.mem_cons, forall_eq_or_imp]
    constructor
    · rintro ⟨⟨a, b⟩, c, d⟩
      have := pvB_iff.1 a
      exact ⟨⟨a, d, c⟩, b, fun q hq => by have := d q hq; omega⟩
    · rintro ⟨⟨a, d, c⟩, b, _⟩; exact ⟨⟨a, b⟩, c, d⟩
theorem canF_can (l : List (Int × Int)) : canF none l = true ↔ Can l := by
  cases l with
  | nil => simp [canF, can_nil]
  | cons p l => rw [can_cons]; simp only [canF, Bool.and_true, Bool.and_eq_true, canF_some]
                constructor
                · rintro ⟨a, b, c⟩; exact ⟨a, c, b⟩
                · rintro ⟨a, c, b⟩; exact ⟨a, b, c⟩


set_option maxHeartbeats 2000000 in
theorem rvalidL_any (A : Option Addr) (c : Nat) (l : List (Int × Int)) (w : World) (hA : Rd w 2 A l.length (pc l)) (hl : l.length ≤ 4611686018427387904) :
    Calls Try.prog 35 #[.slice A l.length c] w fun e w' => e = .returned (.bool (canF none l)) ∧ Ext w w' := by
  go_enter Try.func35, Try.ntmps35
  go_wp2
  go_loopw [3] (fun i wr => ∃ (k : Nat), k ≤ l.length ∧ i = .int .i64 k ∧ Hid (canF none l = canF (prevF l k) (l.drop k)) ∧ Ext w wr) (fun i _ => l.length - (intOf i).toNat)
  case atStart => exact ⟨0, by omega, rfl, Lib.hid rfl, Ext.refl' _⟩
  case round =>
    obtain ⟨k, hk, rfl, HC, hext⟩ := hrel
    obtain ⟨x, rfl⟩ := hext.get
    clear hext
    by_cases hlt : k < l.length
    · obtain ⟨b, o, rfl, hb, hc1, hc2⟩ := hA.pair rfl hlt
      have hd := List.drop_eq_getElem_cons hlt
      have hps := prevF_succ hlt
      have i1 : (0 : Int) ≤ (k : Int) := by omega
      have i2 : (k : Int) < (l.length : Int) := by omega
      rcases hv : pvB l[k] with _ | _
      · have HE : Hid (canF none l = false) := Lib.hid (by rw [HC.out, hd, canF_bad hv])
        generalize l[k] = p at hc1 hc2 hv
        clear hd hps HC
        go_wp2
        refine wp_region_ext (by kernel_rfl) (by kernel_rfl) ?_
        repeat (first | go_big_quiet_step ((go_at_call 21; exact Calls.ext_of (rvalid_any p _))) | quiet_step ((go_at_call 21; exact Calls.ext_of (rvalid_any p _))))
        refine wpQuiet_nil ?_
        intro _ hw'
        obtain ⟨xq, hw''⟩ := hw'
        subst hw''
        go_wp2
        go_ret
        exact ⟨by rw [HE.out]; rfl, by repeat (first | exact Ext.refl' _ | assumption | apply Ext.ex' | apply Ext.al | apply Ext.drN | apply Ext.dr)⟩
      · rcases Nat.eq_zero_or_pos k with hk0 | hk0
        · have HE : Hid (canF none l = canF (prevF l (k + 1)) (l.drop (k + 1))) := Lib.hid (by rw [HC.out, hd, hps, show prevF l k = none from by unfold prevF; rw [if_pos hk0]]; exact canF_first hv)
          generalize l[k] = p at hc1 hc2 hv
          clear hd hps HC
          have i3 : decide (0 < k) = false := by simp; omega
          clear hk0
          go_wp2
          refine wp_region_ext (by kernel_rfl) (by kernel_rfl) ?_
          repeat (first | go_big_quiet_step ((go_at_call 21; exact Calls.ext_of (rvalid_any p _))) | quiet_step ((go_at_call 21; exact Calls.ext_of (rvalid_any p _))))
          refine wpQuiet_nil ?_
          intro _ hw'
          obtain ⟨xq, hw''⟩ := hw'
          subst hw''
          go_wp2
          go_roundw
          case rel => exact ⟨k + 1, by omega, by go_num, HE, by repeat (first | exact Ext.refl' _ | assumption | apply Ext.ex' | apply Ext.al | apply Ext.drN | apply Ext.dr)⟩
          case measure => simp [intOf]; omega
        · obtain ⟨b', o', he, hb', hd1, hd2⟩ := hA.pair rfl (show k - 1 < l.length by omega)
          simp only [Option.some.injEq, Addr.mk.injEq, and_true] at he
          obtain ⟨rfl, rfl⟩ := he
          have hpk : prevF l k = some l[k - 1].2 := by unfold prevF; rw [if_neg (by omega), List.getElem?_eq_getElem (by omega)]; rfl
          have hc := HC.out
          rw [hpk, hd] at hc
          rcases Int.lt_or_le l[k - 1].2 l[k].1 with hgt | hle
          · have HE : Hid (canF none l = canF (prevF l (k + 1)) (l.drop (k + 1))) := Lib.hid (by rw [hc, hps]; exact canF_next hv hgt)
            generalize l[k] = p at hc1 hc2 hv hgt
            generalize l[k - 1].2 = e at hd2 hgt
            clear hd hps HC hc hpk hd1
            have i3 : decide ((0 : Int) < (k : Int)) = true := by simp; omega
            have i4 : decide (p.1 ≤ e) = false := by simp; omega
            have e1 : IntKind.i64.wrap ((k : Int) - 1) = (k : Int) - 1 := IntWalk.i64_in _ (by omega)
            have e2 : (0 : Int) ≤ (k : Int) - 1 := by omega
            have e3 : (1 : Int) ≤ (k : Int) := by omega
            have e4 : (k : Int) - 1 < (l.length : Int) := by omega
            have e6 : ((k : Int) - 1).toNat = k - 1 := by omega
            go_wp2
            refine wp_region_ext (by kernel_rfl) (by kernel_rfl) ?_
            repeat (first | go_big_quiet_step ((go_at_call 21; exact Calls.ext_of (rvalid_any p _))) | quiet_step ((go_at_call 21; exact Calls.ext_of (rvalid_any p _))))
            refine wpQuiet_nil ?_
            intro _ hw'
            obtain ⟨xq, hw''⟩ := hw'
            subst hw''
            clear e1 e2 e3 e4 e6
            go_wp2
            go_roundw
            case rel => exact ⟨k + 1, by omega, by go_num, HE, by repeat (first | exact Ext.refl' _ | assumption | apply Ext.ex' | apply Ext.al | apply Ext.drN | apply Ext.dr)⟩
            case measure => simp [intOf]; omega
          · have HE : Hid (canF none l = false) := Lib.hid (by rw [hc]; exact canF_near hle)
            generalize l[k] = p at hc1 hc2 hv hle
            generalize l[k - 1].2 = e at hd2 hle
            clear hd hps HC hc hpk hd1
            have i3 : decide ((0 : Int) < (k : Int)) = true := by simp; omega
            have i4 : decide (p.1 ≤ e) = true := by simp; omega
            have e1 : IntKind.i64.wrap ((k : Int) - 1) = (k : Int) - 1 := IntWalk.i64_in _ (by omega)
            have e2 : (0 : Int) ≤ (k : Int) - 1 := by omega
            have e3 : (1 : Int) ≤ (k : Int) := by omega
            have e4 : (k : Int) - 1 < (l.length : Int) := by omega
            have e6 : ((k : Int) - 1).toNat = k - 1 := by omega
            go_wp2
            refine wp_region_ext (by kernel_rfl) (by kernel_rfl) ?_
            repeat (first | go_big_quiet_step ((go_at_call 21; exact Calls.ext_of (rvalid_any p _))) | quiet_step ((go_at_call 21; exact Calls.ext_of (rvalid_any p _))))
            refine wpQuiet_nil ?_
            intro _ hw'
            obtain ⟨xq, hw''⟩ := hw'
            subst hw''
            clear e1 e2 e3 e4 e6
            go_wp2
            go_ret
            exact ⟨by rw [HE.out]; rfl, by repeat (first | exact Ext.refl' _ | assumption | apply Ext.ex' | apply Ext.al | apply Ext.drN | apply Ext.dr)⟩
    · have H0 : Hid (canF none l = true) := Lib.hid (by rw [HC.out, List.drop_eq_nil_of_le (by omega)]; unfold canF; rfl)
      go_wp2
      go_ret
      exact ⟨by rw [H0.out]; rfl, Ext.ex _ _⟩


set_option maxHeartbeats 2000000 in
theorem svalid_any (A : Option Addr) (c : Nat) (l : List (Int × Int)) (w : World) (hA : Rd w 2 A l.length (pc l)) (hl : l.length ≤ 4611686018427387904) :
    Calls Try.prog 39 #[.slice A l.length c] w fun e w' => e = .returned (.bool (canF none l)) ∧ Ext w w' := by
  go_enter Try.func39, Try.ntmps39
  go_wp2
  go_loopw [7] (fun i wr => ∃ (k : Nat), k ≤ l.length ∧ i = .int .i64 k ∧ Hid (canF none l = canF (prevF l k) (l.drop k)) ∧ Ext w wr) (fun i _ => l.length - (intOf i).toNat)
  case atStart => exact ⟨0, by omega, rfl, Lib.hid rfl, Ext.refl' _⟩
  case round =>
    obtain ⟨k, hk, rfl, HC, hext⟩ := hrel
    obtain ⟨x, rfl⟩ := hext.get
    clear hext
    by_cases hlt : k < l.length
    · obtain ⟨b, o, rfl, hb, hc1, hc2⟩ := hA.pair rfl hlt
      have hd := List.drop_eq_getElem_cons hlt
      have hps := prevF_succ hlt
      have i1 : (0 : Int) ≤ (k : Int) := by omega
      have i2 : (k : Int) < (l.length : Int) := by omega
      rcases hv : pvB l[k] with _ | _
      · have HE : Hid (canF none l = false) := Lib.hid (by rw [HC.out, hd, canF_bad hv])
        generalize l[k] = p at hc1 hc2 hv
        clear hd hps HC
        go_wp2
        refine wp_region_ext (by kernel_rfl) (by kernel_rfl) ?_
        repeat (first | go_big_quiet_step ((go_at_call 44; exact Calls.ext_of (pvalid_any p _))) | quiet_step ((go_at_call 44; exact Calls.ext_of (pvalid_any p _))))
        refine wpQuiet_nil ?_
        intro _ hw'
        obtain ⟨xq, hw''⟩ := hw'
        subst hw''
        go_wp2
        go_ret
        exact ⟨by rw [HE.out]; rfl, by repeat (first | exact Ext.refl' _ | assumption | apply Ext.ex' | apply Ext.al | apply Ext.drN | apply Ext.dr)⟩
      · rcases Nat.eq_zero_or_pos k with hk0 | hk0
        · have HE : Hid (canF none l = canF (prevF l (k + 1)) (l.drop (k + 1))) := Lib.hid (by rw [HC.out, hd, hps, show prevF l k = none from by unfold prevF; rw [if_pos hk0]]; exact canF_first hv)
          generalize l[k] = p at hc1 hc2 hv
          clear hd hps HC
          have i3 : decide (0 < k) = false := by simp; omega
          clear hk0
          go_wp2
          refine wp_region_ext (by kernel_rfl) (by kernel_rfl) ?_
          repeat (first | go_big_quiet_step ((go_at_call 44; exact Calls.ext_of (pvalid_any p _))) | quiet_step ((go_at_call 44; exact Calls.ext_of (pvalid_any p _))))
          refine wpQuiet_nil ?_
          intro _ hw'
          obtain ⟨xq, hw''⟩ := hw'
          subst hw''
          go_wp2
          go_roundw
          case rel => exact ⟨k + 1, by omega, by go_num, HE, by repeat (first | exact Ext.refl' _ | assumption | apply Ext.ex' | apply Ext.al | apply Ext.drN | apply Ext.dr)⟩
          case measure => simp [intOf]; omega
        · obtain ⟨b', o', he, hb', hd1, hd2⟩ := hA.pair rfl (show k - 1 < l.length by omega)
          simp only [Option.some.injEq, Addr.mk.injEq, and_true] at he
          obtain ⟨rfl, rfl⟩ := he
          have hpk : prevF l k = some l[k - 1].2 := by unfold prevF; rw [if_neg (by omega), List.getElem?_eq_getElem (by omega)]; rfl
          have hc := HC.out
          rw [hpk, hd] at hc
          rcases Int.lt_or_le l[k - 1].2 l[k].1 with hgt | hle
          · have HE : Hid (canF none l = canF (prevF l (k + 1)) (l.drop (k + 1))) := Lib.hid (by rw [hc, hps]; exact canF_next hv hgt)
            generalize l[k] = p at hc1 hc2 hv hgt
            generalize l[k - 1].2 = e at hd2 hgt
            clear hd hps HC hc hpk hd1
            have i3 : decide ((0 : Int) < (k : Int)) = true := by simp; omega
            have i4 : decide (p.1 ≤ e) = false := by simp; omega
            have e1 : IntKind.i64.wrap ((k : Int) - 1) = (k : Int) - 1 := IntWalk.i64_in _ (by omega)
            have e2 : (0 : Int) ≤ (k : Int) - 1 := by omega
            have e3 : (1 : Int) ≤ (k : Int) := by omega
            have e4 : (k : Int) - 1 < (l.length : Int) := by omega
            have e6 : ((k : Int) - 1).toNat = k - 1 := by omega
            go_wp2
            refine wp_region_ext (by kernel_rfl) (by kernel_rfl) ?_
            repeat (first | go_big_quiet_step ((go_at_call 44; exact Calls.ext_of (pvalid_any p _))) | quiet_step ((go_at_call 44; exact Calls.ext_of (pvalid_any p _))))
            refine wpQuiet_nil ?_
            intro _ hw'
            obtain ⟨xq, hw''⟩ := hw'
            subst hw''
            clear e1 e2 e3 e4 e6
            go_wp2
            go_roundw
            case rel => exact ⟨k + 1, by omega, by go_num, HE, by repeat (first | exact Ext.refl' _ | assumption | apply Ext.ex' | apply Ext.al | apply Ext.drN | apply Ext.dr)⟩
            case measure => simp [intOf]; omega
          · have HE : Hid (canF none l = false) := Lib.hid (by rw [hc]; exact canF_near hle)
            generalize l[k] = p at hc1 hc2 hv hle
            generalize l[k - 1].2 = e at hd2 hle
            clear hd hps HC hc hpk hd1
            have i3 : decide ((0 : Int) < (k : Int)) = true := by simp; omega
            have i4 : decide (p.1 ≤ e) = true := by simp; omega
            have e1 : IntKind.i64.wrap ((k : Int) - 1) = (k : Int) - 1 := IntWalk.i64_in _ (by omega)
            have e2 : (0 : Int) ≤ (k : Int) - 1 := by omega
            have e3 : (1 : Int) ≤ (k : Int) := by omega
            have e4 : (k : Int) - 1 < (l.length : Int) := by omega
            have e6 : ((k : Int) - 1).toNat = k - 1 := by omega
            go_wp2
            refine wp_region_ext (by kernel_rfl) (by kernel_rfl) ?_
            repeat (first | go_big_quiet_step ((go_at_call 44; exact Calls.ext_of (pvalid_any p _))) | quiet_step ((go_at_call 44; exact Calls.ext_of (pvalid_any p _))))
            refine wpQuiet_nil ?_
            intro _ hw'
            obtain ⟨xq, hw''⟩ := hw'
            subst hw''
            clear e1 e2 e3 e4 e6
            go_wp2
            go_ret
            exact ⟨by rw [HE.out]; rfl, by repeat (first | exact Ext.refl' _ | assumption | apply Ext.ex' | apply Ext.al | apply Ext.drN | apply Ext.dr)⟩
    · have H0 : Hid (canF none l = true) := Lib.hid (by rw [HC.out, List.drop_eq_nil_of_le (by omega)]; unfold canF; rfl)
      go_wp2
      go_ret
      exact ⟨by rw [H0.out]; rfl, Ext.ex _ _⟩

end Go.Proofs.Ytogfageapejmpaa
