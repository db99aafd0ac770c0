/- at and order of the reference. -/
import Derived.Test.YtpifjhoelnacgaaGreatCfZ
import Derived.Test.YtpifjhoelnacgaaGreatCfX
import Derived.Deep.RegionHeld3
set_option linter.unusedSimpArgs false
set_option linter.unusedVariables false
namespace Go.Proofs.YtpifjhoelnacgaaGreat
open Go.RowKit


theorem row_formH {W : World} {base e size n : Nat} {v : Value} {xs : List Value} (h : W.ownsRow base e size v n xs) : ∃ A c, v = .slice A n c ∧ n ≤ c ∧ c ≤ maxLen := by
  rcases h.2 with ⟨rfl, rfl⟩ | ⟨g, cap, cur, rfl, hb, hg, hnc, hcm, _⟩
  · exact ⟨none, 0, rfl, Nat.le_refl _, Nat.zero_le _⟩
  · exact ⟨_, _, rfl, hnc, hcm⟩
def rselB (p : VR) (sy t : Int) : Bool := pvB p.1.v && (pvB p.1.s && (!decide (t < p.1.v.1) && (!decide (p.1.v.2 ≤ t) && ((sy == -1) && (p.1.s.2 == 1099511627776) || decide (0 ≤ sy) && (decide (p.1.s.1 ≤ sy) && decide (sy < p.1.s.2))))))
/-- the reference's versions at an instant -/
def ratF (l : List VR) (sy t : Int) : List VR := l.filter fun p => rselB p sy t
theorem ratF_was (l : List VR) (sy t : Int) (h : 0 ≤ sy) : ratF l sy t = atF (befF l sy) t := by
  unfold ratF atF befF
  rw [List.filter_filter]
  congr 1
  funext p
  refine bool_eq ?_
  simp only [rselB, vldB, Bool.and_eq_true, Bool.or_eq_true, Bool.not_eq_true', decide_eq_true_eq, decide_eq_false_iff_not, inP_iff, pvB_iff, beq_iff_eq]
  omega
theorem ratF_now (l : List VR) (t : Int) : ratF l (-1) t = atF (nowF l) t := by
  unfold ratF atF nowF
  rw [List.filter_filter]
  congr 1
  funext p
  have e : ((-1 : Int) == -1) = true := by decide
  have e2 : decide ((0 : Int) ≤ -1) = false := by decide
  have h : ∀ s : Bool, rselB p (-1) t = (pvB p.1.v && (pvB p.1.s && (!decide (t < p.1.v.1) && (!decide (p.1.v.2 ≤ t) && (p.1.s.2 == 1099511627776))))) := fun _ => by
    simp only [rselB, e, e2, Bool.true_and, Bool.false_and, Bool.or_false]
  rw [h true]
  refine bool_eq ?_
  simp only [vldB, Bool.and_eq_true, Bool.not_eq_true', decide_eq_false_iff_not, inP_iff, pvB_iff, beq_iff_eq]
  omega
theorem befF_neg (l : List VR) (sy : Int) (h : sy < 0) : befF l sy = [] := by
  unfold befF
  rw [List.filter_eq_nil_iff]
  intro p _
  simp only [Bool.and_eq_true, inP_iff, not_and]
  omega
set_option maxRecDepth 100000 in
set_option maxHeartbeats 8000000 in
theorem rat_any (A : Option Addr) (n ca : Nat) (la : List VR) (sy t : Int) (w : World) (hn : n = la.length) (hA : Rd w 9 A n (vev la)) (na : la.length ≤ 262144) :
    Calls Tryz.prog 27 #[.slice A n ca, .int .i64 sy, .int .i64 t] w fun e w' => ∃ A' c', e = .returned (.slice A' (ratF la sy t).length c') ∧ (ratF la sy t).length ≤ c' ∧ c' ≤ maxLen ∧ Ext w w' ∧ Rd w' 9 A' (ratF la sy t).length (vev (ratF la sy t)) := by
  subst hn
  have HF : Hid (ratF la sy t = [] ++ (la.drop 0).filter (fun p => rselB p sy t)) := Lib.hid (by simp [ratF])
  generalize ratF la sy t = R at HF ⊢
  go_enter Tryz.func27, Tryz.ntmps27
  go_wp2
  go_loopw [7, 12] (fun v i wr => ∃ (k : Nat) (acc : List VR), k ≤ la.length ∧ i = .int .i64 k ∧ acc.length ≤ k ∧ Hid (R = acc ++ (la.drop k).filter (fun p => rselB p sy t)) ∧ wr.ownsRow w.heap.size 41 9 v acc.length (vev acc) ∧ Ext w wr) (fun _ i _ => la.length - (intOf i).toNat)
  case atStart => exact ⟨0, [], Nat.zero_le _, rfl, Nat.le_refl _, HF, World.ownsRow_nil _ _ _ _, Ext.refl' _⟩
  case round =>
    obtain ⟨k, acc, hk, rfl, hal, HC, hrow, hE⟩ := hrel
    obtain ⟨A4, kc, rfl, hc4, hcm4⟩ := row_formH hrow
    by_cases hlt : k < la.length
    · obtain ⟨b, o, rfl, hbw, hc⟩ := ((show Rd w 9 A la.length (evl (la.map (·.1))) from hA).ext hE).ve (by simp) (k := k) (by simpa using hlt)
      simp only [List.getElem_map] at hc
      have HD : Hid ((la.drop k).filter (fun p => rselB p sy t) = (if rselB la[k] sy t then [la[k]] else []) ++ (la.drop (k + 1)).filter (fun p => rselB p sy t)) := Lib.hid (filter_drop _ hlt)
      generalize la[k] = p at hc HD
      obtain ⟨V, r⟩ := p
      simp only at hc HD
      have c0 := hc 0 _ rfl
      have c1 := hc 1 _ rfl
      have c2 := hc 2 _ rfl
      have c3 := hc 3 _ rfl
      have c4 := hc 4 _ rfl
      have c5 := hc 5 _ rfl
      have c6 := hc 6 _ rfl
      have c7 := hc 7 _ rfl
      have c8 := hc 8 _ rfl
      simp only [Nat.add_zero] at c0
      clear hc
      have HV1 := Lib.hid (fun w => cperiod_any V.v w)
      have HV2 := Lib.hid (fun w => cperiod_any V.s w)
      rcases h1 : pvB V.v with _ | _
      · rw [h1] at HV1
        have HN : Hid (rselB (V, r) sy t = false) := Lib.hid (by simp [rselB, h1])
        go_wp2_with (first | (go_at_call 26; (with_reducible refine Calls.mono (HV1.out _) ?_); rintro e w1 ⟨rfl, hb1⟩; obtain ⟨y1, rfl⟩ := hb1.get; clear hb1) | (go_at_call 26; (with_reducible refine Calls.mono (HV2.out _) ?_); rintro e w1 ⟨rfl, hb1⟩; obtain ⟨y2, rfl⟩ := hb1.get; clear hb1))
        go_roundw
        case rel => exact ⟨k + 1, acc, by omega, by go_num, by omega, Lib.hid (by rw [HC.out, HD.out, HN.out]; simp), ownsRow_ext hrow (by repeat (first | exact Ext.refl' _ | assumption | apply Ext.ex' | apply Ext.al | apply Ext.drN | apply Ext.dr)), hE.tr (by repeat (first | exact Ext.refl' _ | assumption | apply Ext.ex' | apply Ext.al | apply Ext.drN | apply Ext.dr))⟩
        case measure => simp [intOf]; omega
      · rw [h1] at HV1
        rcases h2 : pvB V.s with _ | _
        · rw [h2] at HV2
          have HN : Hid (rselB (V, r) sy t = false) := Lib.hid (by simp [rselB, h1, h2])
          go_wp2_with (first | (go_at_call 26; (with_reducible refine Calls.mono (HV1.out _) ?_); rintro e w1 ⟨rfl, hb1⟩; obtain ⟨y1, rfl⟩ := hb1.get; clear hb1) | (go_at_call 26; (with_reducible refine Calls.mono (HV2.out _) ?_); rintro e w1 ⟨rfl, hb1⟩; obtain ⟨y2, rfl⟩ := hb1.get; clear hb1))
          go_roundw
          case rel => exact ⟨k + 1, acc, by omega, by go_num, by omega, Lib.hid (by rw [HC.out, HD.out, HN.out]; simp), ownsRow_ext hrow (by repeat (first | exact Ext.refl' _ | assumption | apply Ext.ex' | apply Ext.al | apply Ext.drN | apply Ext.dr)), hE.tr (by repeat (first | exact Ext.refl' _ | assumption | apply Ext.ex' | apply Ext.al | apply Ext.drN | apply Ext.dr))⟩
          case measure => simp [intOf]; omega
        · rw [h2] at HV2
          by_cases h3 : t < V.v.1
          · have HN : Hid (rselB (V, r) sy t = false) := Lib.hid (by simp [rselB, h1, h2, h3])
            go_wp2_with (first | (go_at_call 26; (with_reducible refine Calls.mono (HV1.out _) ?_); rintro e w1 ⟨rfl, hb1⟩; obtain ⟨y1, rfl⟩ := hb1.get; clear hb1) | (go_at_call 26; (with_reducible refine Calls.mono (HV2.out _) ?_); rintro e w1 ⟨rfl, hb1⟩; obtain ⟨y2, rfl⟩ := hb1.get; clear hb1))
            go_roundw
            case rel => exact ⟨k + 1, acc, by omega, by go_num, by omega, Lib.hid (by rw [HC.out, HD.out, HN.out]; simp), ownsRow_ext hrow (by repeat (first | exact Ext.refl' _ | assumption | apply Ext.ex' | apply Ext.al | apply Ext.drN | apply Ext.dr)), hE.tr (by repeat (first | exact Ext.refl' _ | assumption | apply Ext.ex' | apply Ext.al | apply Ext.drN | apply Ext.dr))⟩
            case measure => simp [intOf]; omega
          · by_cases h4 : V.v.2 ≤ t
            · have HN : Hid (rselB (V, r) sy t = false) := Lib.hid (by simp [rselB, h1, h2, h3, h4])
              go_wp2_with (first | (go_at_call 26; (with_reducible refine Calls.mono (HV1.out _) ?_); rintro e w1 ⟨rfl, hb1⟩; obtain ⟨y1, rfl⟩ := hb1.get; clear hb1) | (go_at_call 26; (with_reducible refine Calls.mono (HV2.out _) ?_); rintro e w1 ⟨rfl, hb1⟩; obtain ⟨y2, rfl⟩ := hb1.get; clear hb1))
              go_roundw
              case rel => exact ⟨k + 1, acc, by omega, by go_num, by omega, Lib.hid (by rw [HC.out, HD.out, HN.out]; simp), ownsRow_ext hrow (by repeat (first | exact Ext.refl' _ | assumption | apply Ext.ex' | apply Ext.al | apply Ext.drN | apply Ext.dr)), hE.tr (by repeat (first | exact Ext.refl' _ | assumption | apply Ext.ex' | apply Ext.al | apply Ext.drN | apply Ext.dr))⟩
              case measure => simp [intOf]; omega
            · by_cases h5 : sy = -1
              · subst h5
                have hs1 : ((-1 : Int) == -1) = true := by decide
                rcases hf : (V.s.2 == 1099511627776) with _ | _
                · have HN : Hid (rselB (V, r) (-1) t = false) := Lib.hid (by simp [rselB, h1, h2, h3, h4, hf])
                  go_wp2_with (first | (go_at_call 26; (with_reducible refine Calls.mono (HV1.out _) ?_); rintro e w1 ⟨rfl, hb1⟩; obtain ⟨y1, rfl⟩ := hb1.get; clear hb1) | (go_at_call 26; (with_reducible refine Calls.mono (HV2.out _) ?_); rintro e w1 ⟨rfl, hb1⟩; obtain ⟨y2, rfl⟩ := hb1.get; clear hb1))
                  go_roundw
                  case rel => exact ⟨k + 1, acc, by omega, by go_num, by omega, Lib.hid (by rw [HC.out, HD.out, HN.out]; simp), ownsRow_ext hrow (by repeat (first | exact Ext.refl' _ | assumption | apply Ext.ex' | apply Ext.al | apply Ext.drN | apply Ext.dr)), hE.tr (by repeat (first | exact Ext.refl' _ | assumption | apply Ext.ex' | apply Ext.al | apply Ext.drN | apply Ext.dr))⟩
                  case measure => simp [intOf]; omega
                · have HN : Hid (rselB (V, r) (-1) t = true) := Lib.hid (by simp [rselB, h1, h2, h3, h4, hf])
                  go_wp2_with (first | (go_at_call 26; (with_reducible refine Calls.mono (HV1.out _) ?_); rintro e w1 ⟨rfl, hb1⟩; obtain ⟨y1, rfl⟩ := hb1.get; clear hb1) | (go_at_call 26; (with_reducible refine Calls.mono (HV2.out _) ?_); rintro e w1 ⟨rfl, hb1⟩; obtain ⟨y2, rfl⟩ := hb1.get; clear hb1) | (at_builtin; (refine wpList_app _ rfl (.tmp 66) (.tmp 68) rfl elVe w (hE.tr (by repeat (first | exact Ext.refl' _ | assumption | apply Ext.ex' | apply Ext.al | apply Ext.drN | apply Ext.dr))) (.slice A4 acc.length kc) acc.length (vev acc) rfl (World.ownsRow.alloc (by exact ownsRow_ext hrow (by repeat (first | exact Ext.refl' _ | assumption | apply Ext.ex' | apply Ext.al | apply Ext.drN | apply Ext.dr))) _) _ 1 1 [.int .i64 V.id, .int .i64 V.sch, .slice V.rA V.rn V.rc, .int .i64 V.v.1, .int .i64 V.v.2, .int .i64 V.s.1, .int .i64 V.s.2, .int .i64 V.by_, .int .i64 V.un] rfl (Rd.lit _ #[.int .i64 V.id, .int .i64 V.sch, .slice V.rA V.rn V.rc, .int .i64 V.v.1, .int .i64 V.v.2, .int .i64 V.s.1, .int .i64 V.s.2, .int .i64 V.by_, .int .i64 V.un] _ 1 9 rfl (by simp [size_ext])) (by have := oneCell_evl [V]; rwa [evl_one] at this) (by unfold maxLen; omega) (by omega) ?_); intro v' x' hown' _))
                  go_roundw
                  case rel => exact ⟨k + 1, acc ++ [(V, r)], by omega, by go_num, by simp; omega, Lib.hid (by rw [HC.out, HD.out, HN.out]; simp), by rw [List.length_append, List.length_singleton, vev_append, vev_one]; exact hown', Ext.ex _ _⟩
                  case measure => simp [intOf]; omega
              · have hs1 : (sy == -1) = false := by simpa using h5
                by_cases h6 : 0 ≤ sy
                · by_cases h7 : V.s.1 ≤ sy
                  · by_cases h8 : sy < V.s.2
                    · have HN : Hid (rselB (V, r) sy t = true) := Lib.hid (by simp [rselB, h1, h2, h3, h4, hs1, h6, h7, h8])
                      go_wp2_with (first | (go_at_call 26; (with_reducible refine Calls.mono (HV1.out _) ?_); rintro e w1 ⟨rfl, hb1⟩; obtain ⟨y1, rfl⟩ := hb1.get; clear hb1) | (go_at_call 26; (with_reducible refine Calls.mono (HV2.out _) ?_); rintro e w1 ⟨rfl, hb1⟩; obtain ⟨y2, rfl⟩ := hb1.get; clear hb1) | (at_builtin; (refine wpList_app _ rfl (.tmp 66) (.tmp 68) rfl elVe w (hE.tr (by repeat (first | exact Ext.refl' _ | assumption | apply Ext.ex' | apply Ext.al | apply Ext.drN | apply Ext.dr))) (.slice A4 acc.length kc) acc.length (vev acc) rfl (World.ownsRow.alloc (by exact ownsRow_ext hrow (by repeat (first | exact Ext.refl' _ | assumption | apply Ext.ex' | apply Ext.al | apply Ext.drN | apply Ext.dr))) _) _ 1 1 [.int .i64 V.id, .int .i64 V.sch, .slice V.rA V.rn V.rc, .int .i64 V.v.1, .int .i64 V.v.2, .int .i64 V.s.1, .int .i64 V.s.2, .int .i64 V.by_, .int .i64 V.un] rfl (Rd.lit _ #[.int .i64 V.id, .int .i64 V.sch, .slice V.rA V.rn V.rc, .int .i64 V.v.1, .int .i64 V.v.2, .int .i64 V.s.1, .int .i64 V.s.2, .int .i64 V.by_, .int .i64 V.un] _ 1 9 rfl (by simp [size_ext])) (by have := oneCell_evl [V]; rwa [evl_one] at this) (by unfold maxLen; omega) (by omega) ?_); intro v' x' hown' _))
                      go_roundw
                      case rel => exact ⟨k + 1, acc ++ [(V, r)], by omega, by go_num, by simp; omega, Lib.hid (by rw [HC.out, HD.out, HN.out]; simp), by rw [List.length_append, List.length_singleton, vev_append, vev_one]; exact hown', Ext.ex _ _⟩
                      case measure => simp [intOf]; omega
                    · have HN : Hid (rselB (V, r) sy t = false) := Lib.hid (by simp [rselB, h1, h2, h3, h4, hs1, h6, h7, h8])
                      go_wp2_with (first | (go_at_call 26; (with_reducible refine Calls.mono (HV1.out _) ?_); rintro e w1 ⟨rfl, hb1⟩; obtain ⟨y1, rfl⟩ := hb1.get; clear hb1) | (go_at_call 26; (with_reducible refine Calls.mono (HV2.out _) ?_); rintro e w1 ⟨rfl, hb1⟩; obtain ⟨y2, rfl⟩ := hb1.get; clear hb1))
                      go_roundw
                      case rel => exact ⟨k + 1, acc, by omega, by go_num, by omega, Lib.hid (by rw [HC.out, HD.out, HN.out]; simp), ownsRow_ext hrow (by repeat (first | exact Ext.refl' _ | assumption | apply Ext.ex' | apply Ext.al | apply Ext.drN | apply Ext.dr)), hE.tr (by repeat (first | exact Ext.refl' _ | assumption | apply Ext.ex' | apply Ext.al | apply Ext.drN | apply Ext.dr))⟩
                      case measure => simp [intOf]; omega
                  · have HN : Hid (rselB (V, r) sy t = false) := Lib.hid (by simp [rselB, h1, h2, h3, h4, hs1, h6, h7])
                    go_wp2_with (first | (go_at_call 26; (with_reducible refine Calls.mono (HV1.out _) ?_); rintro e w1 ⟨rfl, hb1⟩; obtain ⟨y1, rfl⟩ := hb1.get; clear hb1) | (go_at_call 26; (with_reducible refine Calls.mono (HV2.out _) ?_); rintro e w1 ⟨rfl, hb1⟩; obtain ⟨y2, rfl⟩ := hb1.get; clear hb1))
                    go_roundw
                    case rel => exact ⟨k + 1, acc, by omega, by go_num, by omega, Lib.hid (by rw [HC.out, HD.out, HN.out]; simp), ownsRow_ext hrow (by repeat (first | exact Ext.refl' _ | assumption | apply Ext.ex' | apply Ext.al | apply Ext.drN | apply Ext.dr)), hE.tr (by repeat (first | exact Ext.refl' _ | assumption | apply Ext.ex' | apply Ext.al | apply Ext.drN | apply Ext.dr))⟩
                    case measure => simp [intOf]; omega
                · have HN : Hid (rselB (V, r) sy t = false) := Lib.hid (by simp [rselB, h1, h2, h3, h4, hs1, h6])
                  go_wp2_with (first | (go_at_call 26; (with_reducible refine Calls.mono (HV1.out _) ?_); rintro e w1 ⟨rfl, hb1⟩; obtain ⟨y1, rfl⟩ := hb1.get; clear hb1) | (go_at_call 26; (with_reducible refine Calls.mono (HV2.out _) ?_); rintro e w1 ⟨rfl, hb1⟩; obtain ⟨y2, rfl⟩ := hb1.get; clear hb1))
                  go_roundw
                  case rel => exact ⟨k + 1, acc, by omega, by go_num, by omega, Lib.hid (by rw [HC.out, HD.out, HN.out]; simp), ownsRow_ext hrow (by repeat (first | exact Ext.refl' _ | assumption | apply Ext.ex' | apply Ext.al | apply Ext.drN | apply Ext.dr)), hE.tr (by repeat (first | exact Ext.refl' _ | assumption | apply Ext.ex' | apply Ext.al | apply Ext.drN | apply Ext.dr))⟩
                  case measure => simp [intOf]; omega
    · have HX : Hid (R = acc) := Lib.hid (by rw [HC.out, List.drop_eq_nil_of_le (Nat.le_of_not_lt hlt)]; simp)
      have hRo := Rd.of_own hrow
      go_wp2
      go_ret
      exact ⟨A4, kc, by rw [HX.out]; rfl, by rw [HX.out]; exact hc4, hcm4, hE, by rw [HX.out]; exact hRo⟩
set_option maxRecDepth 100000 in
set_option maxHeartbeats 4000000 in
theorem order_any (p q : VR) (w : World) (hp : VROk w p) (hq : VROk w q) :
    Calls Tryz.prog 43 #[evg p.1, evg q.1] w fun e w' => e = .returned (.int .i64 (ordK (kyR p) (kyR q))) ∧ Ext w w' := by
  obtain ⟨V, r⟩ := p
  obtain ⟨U, s⟩ := q
  obtain ⟨hVn, hVr, hVl⟩ := hp
  obtain ⟨hUn, hUr, hUl⟩ := hq
  simp only at hVn hVr hVl hUn hUr hUl
  have HR : Hid (∀ W, Ext w W → Calls Tryz.prog 56 #[.slice V.rA V.rn V.rc, .slice U.rA U.rn U.rc] W fun e w' => e = .returned (.int .i64 (cmpR r s)) ∧ Ext W w') := Lib.hid (fun W hE => by
    have h1 := hVr.ext hE
    have h2 := hUr.ext hE
    rw [hVn] at h1 ⊢
    rw [hUn] at h2 ⊢
    exact r9cmp_any V.rA U.rA V.rc U.rc r s W h1 h2 hVl hUl)
  clear hVn hVr hVl hUn hUr hUl
  have HO : Hid (ordK (kyR (V, r)) (kyR (U, s)) = if V.sch < U.sch then -1 else if U.sch < V.sch then 1 else cmpR r s) := Lib.hid rfl
  generalize ordK (kyR (V, r)) (kyR (U, s)) = z at HO ⊢
  by_cases h1 : V.sch < U.sch
  · have HZ : Hid (z = -1) := Lib.hid (by rw [HO.out, if_pos h1])
    go_enter Tryz.func43, Tryz.ntmps43
    go_wp2
    go_ret
    exact ⟨by rw [HZ.out]; rfl, by repeat (first | exact Ext.refl' _ | assumption | apply Ext.ex' | apply Ext.al | apply Ext.drN | apply Ext.dr)⟩
  · by_cases h2 : U.sch < V.sch
    · have HZ : Hid (z = 1) := Lib.hid (by rw [HO.out, if_neg h1, if_pos h2])
      go_enter Tryz.func43, Tryz.ntmps43
      go_wp2
      go_ret
      exact ⟨by rw [HZ.out]; rfl, by repeat (first | exact Ext.refl' _ | assumption | apply Ext.ex' | apply Ext.al | apply Ext.drN | apply Ext.dr)⟩
    · have HZ : Hid (z = cmpR r s) := Lib.hid (by rw [HO.out, if_neg h1, if_neg h2])
      go_enter Tryz.func43, Tryz.ntmps43
      go_wp2_with (go_at_call 56; (with_reducible refine Calls.mono (HR.out _ (by repeat (first | exact Ext.refl' _ | assumption | apply Ext.ex' | apply Ext.al | apply Ext.drN | apply Ext.dr))) ?_); rintro e w1 ⟨rfl, hb1⟩; obtain ⟨y1, rfl⟩ := hb1.get; clear hb1)
      go_ret
      exact ⟨by rw [HZ.out]; rfl, by repeat (first | exact Ext.refl' _ | assumption | apply Ext.ex' | apply Ext.al | apply Ext.drN | apply Ext.dr)⟩

end Go.Proofs.YtpifjhoelnacgaaGreat
