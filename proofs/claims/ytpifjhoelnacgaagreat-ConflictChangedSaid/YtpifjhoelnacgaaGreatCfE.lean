/- at, Changed of package conflict. -/
import Derived.Test.YtpifjhoelnacgaaGreatCfD
import Derived.Test.YtpifjhoelnacgaaGreatCfN
import Derived.Test.YtpifjhoelnacgaaGreatSpF
import Derived.Deep.RegionHeld3
set_option linter.unusedSimpArgs false
set_option linter.unusedVariables false
namespace Go.Proofs.YtpifjhoelnacgaaGreat
open Go.RowKit


theorem pcontP_any (p : Int × Int) (t : Int) (w : World) : Calls Tryz.prog 22 #[pr p, .int .i64 t] w fun e w' => e = .returned (.bool (inP p t)) ∧ Ext w w' := by
  have HV := Lib.hid (fun w => pvalid_any p w)
  have HP : Hid (inP p t = (pvB p && decide (p.1 ≤ t) && decide (t < p.2))) := Lib.hid rfl
  generalize inP p t = r at HP ⊢
  generalize pvB p = v at HV HP
  rcases v with _ | _
  · go_enter Tryz.func22, Tryz.ntmps22
    go_wp2_with (go_at_call 21; refine Calls.mono (HV.out _) ?_; rintro e w1 ⟨rfl, hb1⟩; obtain ⟨y1, rfl⟩ := hb1.get; clear hb1)
    go_ret
    exact ⟨by rw [HP.out]; rfl, by repeat (first | exact Ext.refl' _ | assumption | apply Ext.ex' | apply Ext.al | apply Ext.drN | apply Ext.dr)⟩
  · by_cases h1 : p.1 ≤ t
    · by_cases h2 : t < p.2
      all_goals go_enter Tryz.func22, Tryz.ntmps22
      all_goals go_wp2_with (go_at_call 21; refine Calls.mono (HV.out _) ?_; rintro e w1 ⟨rfl, hb1⟩; obtain ⟨y1, rfl⟩ := hb1.get; clear hb1)
      all_goals go_ret
      all_goals exact ⟨by rw [HP.out]; simp [h1, h2], by repeat (first | exact Ext.refl' _ | assumption | apply Ext.ex' | apply Ext.al | apply Ext.drN | apply Ext.dr)⟩
    · have HD1 := Lib.hid (decide_eq_false h1)
      go_enter Tryz.func22, Tryz.ntmps22
      go_wp2_with (go_at_call 21; refine Calls.mono (HV.out _) ?_; rintro e w1 ⟨rfl, hb1⟩; obtain ⟨y1, rfl⟩ := hb1.get; clear hb1)
      go_ret
      exact ⟨by rw [HP.out, HD1.out]; rfl, by repeat (first | exact Ext.refl' _ | assumption | apply Ext.ex' | apply Ext.al | apply Ext.drN | apply Ext.dr)⟩
def atF (l : List VR) (t : Int) : List VR := l.filter fun p => inP p.1.v t
def vev (l : List VR) : List Value := evl (l.map (·.1))
theorem vev_append (a b : List VR) : vev (a ++ b) = vev a ++ vev b := by simp [vev, evl]
theorem vev_one (p : VR) : vev [p] = ev p.1 := by simp [vev, evl]
set_option maxRecDepth 100000 in
set_option maxHeartbeats 4000000 in
theorem at_any (A : Option Addr) (n ca : Nat) (la : List VR) (t : Int) (w : World) (hn : n = la.length) (hA : Rd w 9 A n (vev la)) (na : la.length ≤ 262144) :
    Calls Tryz.prog 25 #[.slice A n ca, .int .i64 t] w fun e w' => ∃ A' c', e = .returned (.slice A' (atF la t).length c') ∧ Ext w w' ∧ Rd w' 9 A' (atF la t).length (vev (atF la t)) := by
  subst hn
  have HF : Hid (atF la t = [] ++ atF (la.drop 0) t) := Lib.hid (by simp)
  generalize atF la t = R at HF ⊢
  go_enter Tryz.func25, Tryz.ntmps25
  go_wp2
  go_loopw [5, 10] (fun v i wr => ∃ (k : Nat) (acc : List VR) (x : Add), k ≤ la.length ∧ i = .int .i64 k ∧ acc.length ≤ k ∧ Hid (R = acc ++ atF (la.drop k) t) ∧ wr = ext w x ∧ Own w x 41 9 v acc.length (vev acc)) (fun _ i _ => la.length - (intOf i).toNat)
  case atStart =>
    obtain ⟨x, hx⟩ := (Ext.refl' w).get
    exact ⟨0, [], x, Nat.zero_le _, rfl, Nat.le_refl _, HF, hx, own_nil _ _ _ _⟩
  case round =>
    obtain ⟨k, acc, x, hk, rfl, hal, HC, rfl, hown⟩ := hrel
    by_cases hlt : k < la.length
    · obtain ⟨b, o, rfl, hbw, hc⟩ := (show Rd w 9 A la.length (evl (la.map (·.1))) from hA).ve (by simp) (k := k) (by simpa using hlt)
      simp only [List.getElem_map] at hc
      have HD : Hid (atF (la.drop k) t = (if inP la[k].1.v t then [la[k]] else []) ++ atF (la.drop (k + 1)) t) := Lib.hid (by
        unfold atF; rw [List.drop_eq_getElem_cons hlt, List.filter_cons]; split <;> simp)
      generalize la[k] = p at hc HD
      obtain ⟨V, r⟩ := p
      simp only at hc HD
      have c0 := hc 0 _ rfl
      have c1 := hc 1 _ rfl
      have c2 := hc 2 _ rfl
      have c3 := hc 3 _ rfl
      have c4 := hc 4 _ rfl
      have c5 := hc 5 _ rfl
      have c6 := hc 6 _ rfl
      have c7 := hc 7 _ rfl
      have c8 := hc 8 _ rfl
      simp only [Nat.add_zero] at c0
      clear hc
      have HV := Lib.hid (fun w => pcontP_any V.v t w)
      rcases hv : inP V.v t with _ | _
      · rw [hv] at HV
        have HN : Hid (R = acc ++ atF (la.drop (k + 1)) t) := Lib.hid (by rw [HC.out, HD.out, hv]; simp)
        clear hv
        go_wp2_with (go_at_call 22; refine Calls.mono (HV.out _) ?_; rintro e w1 ⟨rfl, hb1⟩; obtain ⟨y1, rfl⟩ := hb1.get; clear hb1)
        obtain ⟨x2, hx2⟩ := (show Ext w (ext ((ext w x).alloc (.cells #[.int .i64 V.id, .int .i64 V.sch, .slice V.rA V.rn V.rc, .int .i64 V.v.1, .int .i64 V.v.2, .int .i64 V.s.1, .int .i64 V.s.2, .int .i64 V.by_, .int .i64 V.un] 41)) y1) from (by repeat (first | exact Ext.refl' _ | assumption | apply Ext.ex' | apply Ext.al | apply Ext.drN | apply Ext.dr))).get
        go_roundw
        case rel => exact ⟨k + 1, acc, x2, by omega, by go_num, by omega, HN, hx2, by unfold Own; rw [← hx2]; exact ownsRow_ext (show World.ownsRow (ext w x) w.heap.size 41 9 _ acc.length (vev acc) from hown) (by repeat (first | exact Ext.refl' _ | assumption | apply Ext.ex' | apply Ext.al | apply Ext.drN | apply Ext.dr))⟩
        case measure => simp [intOf]; omega
      · rw [hv] at HV
        have HN : Hid (R = acc ++ [(V, r)] ++ atF (la.drop (k + 1)) t) := Lib.hid (by rw [HC.out, HD.out, hv]; simp)
        clear hv
        go_wp2_with (first | (go_at_call 22; refine Calls.mono (HV.out _) ?_; rintro e w1 ⟨rfl, hb1⟩; obtain ⟨y1, rfl⟩ := hb1.get; clear hb1) | (at_builtin; refine wpList_app _ rfl (.tmp 18) (.tmp 20) rfl elVe w (by repeat (first | exact Ext.refl' _ | assumption | apply Ext.ex' | apply Ext.al | apply Ext.drN | apply Ext.dr)) _ acc.length (vev acc) rfl (by repeat (first | exact hown | apply World.ownsRow.alloc | apply own_ext)) _ 1 1 [.int .i64 V.id, .int .i64 V.sch, .slice V.rA V.rn V.rc, .int .i64 V.v.1, .int .i64 V.v.2, .int .i64 V.s.1, .int .i64 V.s.2, .int .i64 V.by_, .int .i64 V.un] rfl (Rd.lit _ _ _ 1 9 rfl (by simp [size_ext])) (by have := oneCell_evl [V]; rwa [evl_one] at this) (by unfold maxLen; omega) (by omega) ?_; intro v' x' hown' _))
        go_roundw
        case rel => exact ⟨k + 1, acc ++ [(V, r)], x', by omega, by go_num, by simp; omega, HN, rfl, by rw [List.length_append, List.length_singleton, vev_append, vev_one]; exact hown'⟩
        case measure => simp [intOf]; omega
    · have HX : Hid (R = acc) := Lib.hid (by rw [HC.out, List.drop_eq_nil_of_le (Nat.le_of_not_lt hlt)]; simp [atF])
      obtain ⟨A5, c5, rfl, _⟩ := Own.form hown
      have hRo := Rd.of_own hown
      go_wp2
      go_ret
      exact ⟨A5, c5, by rw [HX.out]; rfl, Ext.ex _ _, by rw [HX.out]; exact hRo⟩

end Go.Proofs.YtpifjhoelnacgaaGreat
