/- The contracts of the reference of chapter 5: Slice, Section, times, Contains, Same, Overlaps; and of the program: Contains, Slice, Overlaps. -/
import Derived.Test.YtcnhnbdgmfhfgaaRgA
set_option linter.unusedSimpArgs false
set_option linter.unusedVariables false
namespace Go.Proofs.Ytcnhnbdgmfhfgaa
open Go.RowKit


set_option maxHeartbeats 2000000 in
theorem rslice_any (A : Option Addr) (c : Nat) (l : List Rct) (t : Int) (w : World) (hA : Rd w 4 A l.length (rcl l)) (hl : l.length ≤ 549755813888) :
    Calls Try.prog 33 #[.slice A l.length c, .int .i64 t] w (RdP 2 (ofF (sliR l t)).length (pc (ofF (sliR l t))) w) := by
  go_enter Try.func33, Try.ntmps33
  go_wp2
  go_loopw [5, 6] (fun out i wr => ∃ (k : Nat) (acc : List (Int × Int)) (x : Add), k ≤ l.length ∧ acc.length ≤ k ∧ i = .int .i64 k ∧ Hid (sliR l t = acc ++ sliR (l.drop k) t) ∧ wr = ext w x ∧ Own w x 34 2 out acc.length (pc acc)) (fun _ i _ => l.length - (intOf i).toNat)
  case atStart =>
    obtain ⟨x, hx⟩ := (Ext.refl' w).get
    exact ⟨0, [], x, by omega, by simp, rfl, Lib.hid (by simp), hx, own_nil _ _ _ _⟩
  case round =>
    obtain ⟨k, acc, x, hk, hal, rfl, HC, rfl, hown⟩ := hrel
    by_cases hlt : k < l.length
    · obtain ⟨b, o, rfl, hb, hc1, hc2, hc3, hc4⟩ := hA.rect hlt
      have HD : Hid (sliR l t = acc ++ ((if slB t l[k] then [l[k].1] else []) ++ sliR (l.drop (k + 1)) t)) := Lib.hid (by rw [HC.out, List.drop_eq_getElem_cons hlt, sliR_cons])
      generalize l[k] = r at hc1 hc2 hc3 hc4 HD
      clear HC
      have HQ := Lib.hid (fun w => rcontains_any r.2 t w)
      rcases hv : rvB r with _ | _
      · have HE : Hid (sliR l t = acc ++ sliR (l.drop (k + 1)) t) := Lib.hid (by rw [HD.out, slB_inP, hv]; rfl)
        go_wp2_with (first | (go_at_call 25; refine (sound_any r _).mono ?_; rintro e w1 ⟨rfl, hb1⟩; obtain ⟨x1, rfl⟩ := hb1.get; clear hb1) | (go_at_call 48; refine Calls.mono (HQ.out _) ?_; rintro e w1 ⟨rfl, hb1⟩; obtain ⟨x2, rfl⟩ := hb1.get; clear hb1))
        go_roundw
        case rel => exact rel_same hown (by repeat (first | exact Ext.refl' _ | assumption | apply Ext.ex' | apply Ext.al | apply Ext.drN | apply Ext.dr)) fun x' hx' ho' => ⟨k + 1, acc, x', by omega, by omega, by go_num, HE, hx', ho'⟩
        case measure => simp [intOf]; omega
      · rcases hi : inP r.2 t with _ | _
        · have HE : Hid (sliR l t = acc ++ sliR (l.drop (k + 1)) t) := Lib.hid (by rw [HD.out, slB_inP, hv, hi]; rfl)
          rw [hi] at HQ
          go_wp2_with (first | (go_at_call 25; refine (sound_any r _).mono ?_; rintro e w1 ⟨rfl, hb1⟩; obtain ⟨x1, rfl⟩ := hb1.get; clear hb1) | (go_at_call 48; refine Calls.mono (HQ.out _) ?_; rintro e w1 ⟨rfl, hb1⟩; obtain ⟨x2, rfl⟩ := hb1.get; clear hb1))
          go_roundw
          case rel => exact rel_same hown (by repeat (first | exact Ext.refl' _ | assumption | apply Ext.ex' | apply Ext.al | apply Ext.drN | apply Ext.dr)) fun x' hx' ho' => ⟨k + 1, acc, x', by omega, by omega, by go_num, HE, hx', ho'⟩
          case measure => simp [intOf]; omega
        · have HE : Hid (sliR l t = acc ++ [r.1] ++ sliR (l.drop (k + 1)) t) := Lib.hid (by rw [HD.out, slB_inP, hv, hi]; simp)
          rw [hi] at HQ
          go_wp2_with (first | (go_at_call 25; refine (sound_any r _).mono ?_; rintro e w1 ⟨rfl, hb1⟩; obtain ⟨x1, rfl⟩ := hb1.get; clear hb1) | (go_at_call 48; refine Calls.mono (HQ.out _) ?_; rintro e w1 ⟨rfl, hb1⟩; obtain ⟨x2, rfl⟩ := hb1.get; clear hb1) | (at_builtin; refine wpList_app _ rfl (.tmp 27) (.tmp 33) rfl elPeriod w (by repeat (first | exact Ext.refl' _ | assumption | apply Ext.ex' | apply Ext.al | apply Ext.drN | apply Ext.dr)) _ _ _ rfl (World.ownsRow.alloc (own_ext (own_ext (by exact hown) x1) x2) _) _ 1 1 [.int .i64 r.1.1, .int .i64 r.1.2] rfl (Rd.lit _ _ _ 1 2 rfl (by simp [size_ext])) (oneCell_pc [r.1]) (by unfold maxLen; omega) (by omega) ?_; intro v' x' hown' _))
          go_roundw
          case rel => exact ⟨k + 1, acc ++ [r.1], x', by omega, by simp; omega, by go_num, HE, rfl, by simpa [pc] using hown'⟩
          case measure => simp [intOf]; omega
    · have H0 : Hid (sliR l t = acc) := Lib.hid (by rw [HC.out, List.drop_eq_nil_of_le (Nat.le_of_not_lt hlt)]; simp [sliR])
      obtain ⟨A', c', rfl, _, _⟩ := Own.form hown
      have HO := Lib.hid (fun w h => rof_any A' c' acc w h (by omega))
      rw [← H0.out] at HO
      have hR := Rd.of_own hown
      have HL := Lib.hid (congrArg List.length H0.out)
      rw [← H0.out] at hR
      go_wp2_with fail
      rw [← HL.out]
      refine Calls.mono (HO.out _ hR) ?_
      rintro e w1 ⟨A1, c1, rfl, hb1, hP⟩
      go_wp2
      go_ret
      exact ⟨A1, c1, rfl, (Ext.ex _ _).tr hb1, hP⟩


set_option maxHeartbeats 2000000 in
theorem rsection_any (A : Option Addr) (c : Nat) (l : List Rct) (t : Int) (w : World) (hA : Rd w 4 A l.length (rcl l)) (hl : l.length ≤ 549755813888) :
    Calls Try.prog 34 #[.slice A l.length c, .int .i64 t] w (RdP 2 (ofF (secR l t)).length (pc (ofF (secR l t))) w) := by
  go_enter Try.func34, Try.ntmps34
  go_wp2
  go_loopw [5, 6] (fun out i wr => ∃ (k : Nat) (acc : List (Int × Int)) (x : Add), k ≤ l.length ∧ acc.length ≤ k ∧ i = .int .i64 k ∧ Hid (secR l t = acc ++ secR (l.drop k) t) ∧ wr = ext w x ∧ Own w x 34 2 out acc.length (pc acc)) (fun _ i _ => l.length - (intOf i).toNat)
  case atStart =>
    obtain ⟨x, hx⟩ := (Ext.refl' w).get
    exact ⟨0, [], x, by omega, by simp, rfl, Lib.hid (by simp), hx, own_nil _ _ _ _⟩
  case round =>
    obtain ⟨k, acc, x, hk, hal, rfl, HC, rfl, hown⟩ := hrel
    by_cases hlt : k < l.length
    · obtain ⟨b, o, rfl, hb, hc1, hc2, hc3, hc4⟩ := hA.rect hlt
      have HD : Hid (secR l t = acc ++ ((if scB t l[k] then [l[k].2] else []) ++ secR (l.drop (k + 1)) t)) := Lib.hid (by rw [HC.out, List.drop_eq_getElem_cons hlt, secR_cons])
      generalize l[k] = r at hc1 hc2 hc3 hc4 HD
      clear HC
      have HQ := Lib.hid (fun w => rcontains_any r.1 t w)
      rcases hv : rvB r with _ | _
      · have HE : Hid (secR l t = acc ++ secR (l.drop (k + 1)) t) := Lib.hid (by rw [HD.out, scB_inP, hv]; rfl)
        go_wp2_with (first | (go_at_call 25; refine (sound_any r _).mono ?_; rintro e w1 ⟨rfl, hb1⟩; obtain ⟨x1, rfl⟩ := hb1.get; clear hb1) | (go_at_call 48; refine Calls.mono (HQ.out _) ?_; rintro e w1 ⟨rfl, hb1⟩; obtain ⟨x2, rfl⟩ := hb1.get; clear hb1))
        go_roundw
        case rel => exact rel_same hown (by repeat (first | exact Ext.refl' _ | assumption | apply Ext.ex' | apply Ext.al | apply Ext.drN | apply Ext.dr)) fun x' hx' ho' => ⟨k + 1, acc, x', by omega, by omega, by go_num, HE, hx', ho'⟩
        case measure => simp [intOf]; omega
      · rcases hi : inP r.1 t with _ | _
        · have HE : Hid (secR l t = acc ++ secR (l.drop (k + 1)) t) := Lib.hid (by rw [HD.out, scB_inP, hv, hi]; rfl)
          rw [hi] at HQ
          go_wp2_with (first | (go_at_call 25; refine (sound_any r _).mono ?_; rintro e w1 ⟨rfl, hb1⟩; obtain ⟨x1, rfl⟩ := hb1.get; clear hb1) | (go_at_call 48; refine Calls.mono (HQ.out _) ?_; rintro e w1 ⟨rfl, hb1⟩; obtain ⟨x2, rfl⟩ := hb1.get; clear hb1))
          go_roundw
          case rel => exact rel_same hown (by repeat (first | exact Ext.refl' _ | assumption | apply Ext.ex' | apply Ext.al | apply Ext.drN | apply Ext.dr)) fun x' hx' ho' => ⟨k + 1, acc, x', by omega, by omega, by go_num, HE, hx', ho'⟩
          case measure => simp [intOf]; omega
        · have HE : Hid (secR l t = acc ++ [r.2] ++ secR (l.drop (k + 1)) t) := Lib.hid (by rw [HD.out, scB_inP, hv, hi]; simp)
          rw [hi] at HQ
          go_wp2_with (first | (go_at_call 25; refine (sound_any r _).mono ?_; rintro e w1 ⟨rfl, hb1⟩; obtain ⟨x1, rfl⟩ := hb1.get; clear hb1) | (go_at_call 48; refine Calls.mono (HQ.out _) ?_; rintro e w1 ⟨rfl, hb1⟩; obtain ⟨x2, rfl⟩ := hb1.get; clear hb1) | (at_builtin; refine wpList_app _ rfl (.tmp 27) (.tmp 33) rfl elPeriod w (by repeat (first | exact Ext.refl' _ | assumption | apply Ext.ex' | apply Ext.al | apply Ext.drN | apply Ext.dr)) _ _ _ rfl (World.ownsRow.alloc (own_ext (own_ext (by exact hown) x1) x2) _) _ 1 1 [.int .i64 r.2.1, .int .i64 r.2.2] rfl (Rd.lit _ _ _ 1 2 rfl (by simp [size_ext])) (oneCell_pc [r.2]) (by unfold maxLen; omega) (by omega) ?_; intro v' x' hown' _))
          go_roundw
          case rel => exact ⟨k + 1, acc ++ [r.2], x', by omega, by simp; omega, by go_num, HE, rfl, by simpa [pc] using hown'⟩
          case measure => simp [intOf]; omega
    · have H0 : Hid (secR l t = acc) := Lib.hid (by rw [HC.out, List.drop_eq_nil_of_le (Nat.le_of_not_lt hlt)]; simp [secR])
      obtain ⟨A', c', rfl, _, _⟩ := Own.form hown
      have HO := Lib.hid (fun w h => rof_any A' c' acc w h (by omega))
      rw [← H0.out] at HO
      have hR := Rd.of_own hown
      have HL := Lib.hid (congrArg List.length H0.out)
      rw [← H0.out] at hR
      go_wp2_with fail
      rw [← HL.out]
      refine Calls.mono (HO.out _ hR) ?_
      rintro e w1 ⟨A1, c1, rfl, hb1, hP⟩
      go_wp2
      go_ret
      exact ⟨A1, c1, rfl, (Ext.ex _ _).tr hb1, hP⟩


set_option maxHeartbeats 2000000 in
theorem times_any (A : Option Addr) (c : Nat) (l : List Rct) (w : World) (hA : Rd w 4 A l.length (rcl l)) (hl : l.length ≤ 1099511627776) :
    Calls Try.prog 56 #[.slice A l.length c] w (RdP 1 (ptsF (sysR l)).length (ic (ptsF (sysR l))) w) := by
  go_enter Try.func56, Try.ntmps56
  go_wp2
  go_loopw [3, 4] (fun out i wr => ∃ (k : Nat) (acc : List (Int × Int)) (x : Add), k ≤ l.length ∧ acc.length ≤ k ∧ i = .int .i64 k ∧ Hid (sysR l = acc ++ sysR (l.drop k)) ∧ wr = ext w x ∧ Own w x 34 2 out acc.length (pc acc)) (fun _ i _ => l.length - (intOf i).toNat)
  case atStart =>
    obtain ⟨x, hx⟩ := (Ext.refl' w).get
    exact ⟨0, [], x, by omega, by simp, rfl, Lib.hid (by simp), hx, own_nil _ _ _ _⟩
  case round =>
    obtain ⟨k, acc, x, hk, hal, rfl, HC, rfl, hown⟩ := hrel
    by_cases hlt : k < l.length
    · obtain ⟨b, o, rfl, hb, hc1, hc2, hc3, hc4⟩ := hA.rect hlt
      have HD : Hid (sysR l = acc ++ ((if rvB l[k] then [l[k].2] else []) ++ sysR (l.drop (k + 1)))) := Lib.hid (by rw [HC.out, List.drop_eq_getElem_cons hlt, sysR_cons])
      generalize l[k] = r at hc1 hc2 hc3 hc4 HD
      clear HC
      rcases hv : rvB r with _ | _
      · have HE : Hid (sysR l = acc ++ sysR (l.drop (k + 1))) := Lib.hid (by rw [HD.out, hv]; rfl)
        go_wp2_with (go_at_call 25; refine (sound_any r _).mono ?_; rintro e w1 ⟨rfl, hb1⟩; obtain ⟨x1, rfl⟩ := hb1.get; clear hb1)
        go_roundw
        case rel => exact rel_same hown (by repeat (first | exact Ext.refl' _ | assumption | apply Ext.ex' | apply Ext.al | apply Ext.drN | apply Ext.dr)) fun x' hx' ho' => ⟨k + 1, acc, x', by omega, by omega, by go_num, HE, hx', ho'⟩
        case measure => simp [intOf]; omega
      · have HE : Hid (sysR l = acc ++ [r.2] ++ sysR (l.drop (k + 1))) := Lib.hid (by rw [HD.out, hv]; simp)
        go_wp2_with (first | (go_at_call 25; refine (sound_any r _).mono ?_; rintro e w1 ⟨rfl, hb1⟩; obtain ⟨x1, rfl⟩ := hb1.get; clear hb1) | (at_builtin; refine wpList_app _ rfl (.tmp 16) (.tmp 22) rfl elPeriod w (by repeat (first | exact Ext.refl' _ | assumption | apply Ext.ex' | apply Ext.al | apply Ext.drN | apply Ext.dr)) _ _ _ rfl (World.ownsRow.alloc (own_ext (by exact hown) x1) _) _ 1 1 [.int .i64 r.2.1, .int .i64 r.2.2] rfl (Rd.lit _ _ _ 1 2 rfl (by simp [size_ext])) (oneCell_pc [r.2]) (by unfold maxLen; omega) (by omega) ?_; intro v' x' hown' _))
        go_roundw
        case rel => exact ⟨k + 1, acc ++ [r.2], x', by omega, by simp; omega, by go_num, HE, rfl, by simpa [pc] using hown'⟩
        case measure => simp [intOf]; omega
    · have H0 : Hid (sysR l = acc) := Lib.hid (by rw [HC.out, List.drop_eq_nil_of_le (Nat.le_of_not_lt hlt)]; simp [sysR])
      obtain ⟨A', c', rfl, _, _⟩ := Own.form hown
      have HO := Lib.hid (fun w h => rpoints_any A' c' acc w h (by omega))
      rw [← H0.out] at HO
      have hR := Rd.of_own hown
      have HL := Lib.hid (congrArg List.length H0.out)
      rw [← H0.out] at hR
      go_wp2_with fail
      rw [← HL.out]
      refine Calls.mono (HO.out _ hR) ?_
      rintro e w1 ⟨A1, c1, rfl, hb1, hP⟩
      go_wp2
      go_ret
      exact ⟨A1, c1, rfl, (Ext.ex _ _).tr hb1, hP⟩


theorem inR_drop {l : List Rct} {k : Nat} (h : k < l.length) (v t : Int) : inR (l.drop k) v t = ((rvB l[k] && (inP l[k].1 v && inP l[k].2 t)) || inR (l.drop (k + 1)) v t) := by
  rw [List.drop_eq_getElem_cons h]; unfold inR; rw [List.any_cons]
set_option maxHeartbeats 2000000 in
theorem rcontR_any (A : Option Addr) (c : Nat) (l : List Rct) (v t : Int) (w : World) (hA : Rd w 4 A l.length (rcl l)) (hl : l.length ≤ 549755813888) :
    Calls Try.prog 30 #[.slice A l.length c, .int .i64 v, .int .i64 t] w fun e w' => e = .returned (.bool (inR l v t)) ∧ Ext w w' := by
  go_enter Try.func30, Try.ntmps30
  go_wp2
  go_loopw [7] (fun i wr => ∃ k : Nat, k ≤ l.length ∧ i = .int .i64 k ∧ Hid (inR l v t = inR (l.drop k) v t) ∧ Ext w wr) (fun i _ => l.length - (intOf i).toNat)
  case atStart => exact ⟨0, Nat.zero_le _, rfl, Lib.hid (by simp), Ext.refl' _⟩
  case round =>
    obtain ⟨k, hk, rfl, HC, hext⟩ := hrel
    obtain ⟨x, rfl⟩ := hext.get
    clear hext
    by_cases hlt : k < l.length
    · obtain ⟨b, o, rfl, hb, hc1, hc2, hc3, hc4⟩ := hA.rect hlt
      have HD := Lib.hid (inR_drop hlt v t)
      generalize l[k] = r at hc1 hc2 hc3 hc4 HD
      have HQ1 := Lib.hid (fun w => rcontains_any r.1 v w)
      have HQ2 := Lib.hid (fun w => rcontains_any r.2 t w)
      rcases hv : rvB r with _ | _
      · have HE : Hid (inR l v t = inR (l.drop (k + 1)) v t) := Lib.hid (by rw [HC.out, HD.out, hv]; simp)
        clear HC HD
        go_wp2_with (first | (go_at_call 25; refine (sound_any r _).mono ?_; rintro e w1 ⟨rfl, hb1⟩; obtain ⟨x1, rfl⟩ := hb1.get; clear hb1) | (go_at_call 48; (with_reducible refine Calls.mono (HQ1.out _) ?_); rintro e w1 ⟨rfl, hb1⟩; obtain ⟨x2, rfl⟩ := hb1.get; clear hb1) | (go_at_call 48; (with_reducible refine Calls.mono (HQ2.out _) ?_); rintro e w1 ⟨rfl, hb1⟩; obtain ⟨x3, rfl⟩ := hb1.get; clear hb1))
        go_roundw
        case rel => exact ⟨k + 1, by omega, by go_num, HE, by repeat (first | exact Ext.refl' _ | assumption | apply Ext.ex' | apply Ext.al | apply Ext.drN | apply Ext.dr)⟩
        case measure => simp [intOf]; omega
      · rcases h1 : inP r.1 v with _ | _
        · rw [h1] at HQ1
          have HE : Hid (inR l v t = inR (l.drop (k + 1)) v t) := Lib.hid (by rw [HC.out, HD.out, hv, h1]; simp)
          clear HC HD
          go_wp2_with (first | (go_at_call 25; refine (sound_any r _).mono ?_; rintro e w1 ⟨rfl, hb1⟩; obtain ⟨x1, rfl⟩ := hb1.get; clear hb1) | (go_at_call 48; (with_reducible refine Calls.mono (HQ1.out _) ?_); rintro e w1 ⟨rfl, hb1⟩; obtain ⟨x2, rfl⟩ := hb1.get; clear hb1) | (go_at_call 48; (with_reducible refine Calls.mono (HQ2.out _) ?_); rintro e w1 ⟨rfl, hb1⟩; obtain ⟨x3, rfl⟩ := hb1.get; clear hb1))
          go_roundw
          case rel => exact ⟨k + 1, by omega, by go_num, HE, by repeat (first | exact Ext.refl' _ | assumption | apply Ext.ex' | apply Ext.al | apply Ext.drN | apply Ext.dr)⟩
          case measure => simp [intOf]; omega
        · rw [h1] at HQ1
          rcases h2 : inP r.2 t with _ | _
          · rw [h2] at HQ2
            have HE : Hid (inR l v t = inR (l.drop (k + 1)) v t) := Lib.hid (by rw [HC.out, HD.out, hv, h1, h2]; simp)
            clear HC HD
            go_wp2_with (first | (go_at_call 25; refine (sound_any r _).mono ?_; rintro e w1 ⟨rfl, hb1⟩; obtain ⟨x1, rfl⟩ := hb1.get; clear hb1) | (go_at_call 48; (with_reducible refine Calls.mono (HQ1.out _) ?_); rintro e w1 ⟨rfl, hb1⟩; obtain ⟨x2, rfl⟩ := hb1.get; clear hb1) | (go_at_call 48; (with_reducible refine Calls.mono (HQ2.out _) ?_); rintro e w1 ⟨rfl, hb1⟩; obtain ⟨x3, rfl⟩ := hb1.get; clear hb1))
            go_roundw
            case rel => exact ⟨k + 1, by omega, by go_num, HE, by repeat (first | exact Ext.refl' _ | assumption | apply Ext.ex' | apply Ext.al | apply Ext.drN | apply Ext.dr)⟩
            case measure => simp [intOf]; omega
          · rw [h2] at HQ2
            have HE : Hid (inR l v t = true) := Lib.hid (by rw [HC.out, HD.out, hv, h1, h2]; rfl)
            clear HC HD
            go_wp2_with (first | (go_at_call 25; refine (sound_any r _).mono ?_; rintro e w1 ⟨rfl, hb1⟩; obtain ⟨x1, rfl⟩ := hb1.get; clear hb1) | (go_at_call 48; (with_reducible refine Calls.mono (HQ1.out _) ?_); rintro e w1 ⟨rfl, hb1⟩; obtain ⟨x2, rfl⟩ := hb1.get; clear hb1) | (go_at_call 48; (with_reducible refine Calls.mono (HQ2.out _) ?_); rintro e w1 ⟨rfl, hb1⟩; obtain ⟨x3, rfl⟩ := hb1.get; clear hb1))
            go_ret
            exact ⟨by rw [HE.out]; rfl, by repeat (first | exact Ext.refl' _ | assumption | apply Ext.ex' | apply Ext.al | apply Ext.drN | apply Ext.dr)⟩
    · have H0 : Hid (inR l v t = false) := Lib.hid (by rw [HC.out, List.drop_eq_nil_of_le (Nat.le_of_not_lt hlt)]; rfl)
      go_wp2
      go_ret
      exact ⟨by rw [H0.out]; rfl, Ext.ex _ _⟩


set_option maxHeartbeats 400000 in
theorem gcontR_any (A : Option Addr) (c : Nat) (l : List Rct) (v t : Int) (w : World) (hA : Rd w 4 A l.length (rcl l)) (hl : l.length ≤ 549755813888) :
    Calls Try.prog 31 #[.slice A l.length c, .int .i64 v, .int .i64 t] w fun e w' => e = .returned (.bool (inR l v t)) ∧ Ext w w' := by
  have H1 := Lib.hid (fun w h => gslice_any A c l t w h hl)
  have hle := sliR_length l t
  have H2 := Lib.hid (fun A c w h => scont_any A c (sliR l t) v w h (by omega))
  rw [sli_in] at H2
  generalize sliR l t = s at H1 H2 hle
  go_enter Try.func31, Try.ntmps31
  go_wp2_with fail
  refine Calls.mono (H1.out _ hA) ?_
  rintro e w1 ⟨A1, c1, rfl, hb1, hP⟩
  obtain ⟨x1, rfl⟩ := hb1.get
  clear hb1
  go_wp2_with fail
  refine Calls.mono (H2.out _ _ _ hP) ?_
  rintro e w1 ⟨rfl, hb1⟩
  obtain ⟨x2, rfl⟩ := hb1.get
  clear hb1
  go_wp2
  go_ret
  exact ⟨rfl, by repeat (first | exact Ext.refl' _ | assumption | apply Ext.ex' | apply Ext.al | apply Ext.drN | apply Ext.dr)⟩
set_option maxHeartbeats 400000 in
theorem gsliceS_any (A : Option Addr) (c : Nat) (l : List Rct) (t : Int) (w : World) (hA : Rd w 4 A l.length (rcl l)) (hl : l.length ≤ 549755813888) :
    Calls Try.prog 19 #[.slice A l.length c, .int .i64 t] w (RdP 2 (ofF (sliR l t)).length (pc (ofF (sliR l t))) w) := by
  have H1 := Lib.hid (fun w h => gslice_any A c l t w h hl)
  have hle := sliR_length l t
  have H2 := Lib.hid (fun A c w h => sof_any A c (sliR l t) w h (by omega))
  generalize ofF (sliR l t) = z at H2 ⊢
  generalize sliR l t = s at H1 H2 hle
  go_enter Try.func19, Try.ntmps19
  go_wp2_with fail
  refine Calls.mono (H1.out _ hA) ?_
  rintro e w1 ⟨A1, c1, rfl, hb1, hP⟩
  obtain ⟨x1, rfl⟩ := hb1.get
  clear hb1
  go_wp2_with fail
  refine Calls.mono (H2.out _ _ _ hP) ?_
  rintro e w1 ⟨A2, c2, rfl, hb1, hP2⟩
  go_wp2
  go_ret
  exact ⟨A2, c2, rfl, (Ext.ex _ _).tr hb1, hP2⟩


set_option maxHeartbeats 800000 in
theorem rsl1_any (A B : Option Addr) (ca cb : Nat) (a b : List Rct) (t : Int) (w : World) (hA : Rd w 4 A a.length (rcl a)) (hB : Rd w 4 B b.length (rcl b)) (ha : a.length ≤ 274877906944) (hb : b.length ≤ 274877906944) :
    Calls Try.prog 57 #[.int .i64 1, .slice A a.length ca, .slice B b.length cb, .int .i64 t] w (OwR 34 2 (sK ofK a b t).length (pc (sK ofK a b t)) w) := by
  have H1 := Lib.hid (fun w h => rslice_any A ca a t w h (by omega))
  have H2 := Lib.hid (fun w h => rslice_any B cb b t w h (by omega))
  have s1 := can_short (ofF_can (sliR a t))
  have s2 := can_short (ofF_can (sliR b t))
  have H3 := Lib.hid (fun A B c d w h1 h2 => runionO_any A B c d (ofF (sliR a t)) (ofF (sliR b t)) w h1 h2 s1 s2)
  rw [show combF ofK (ofF (sliR a t)) (ofF (sliR b t)) = sK ofK a b t from combF_eq fun v _ _ => by rw [ofF_in, ofF_in]] at H3
  generalize sK ofK a b t = z at H3 ⊢
  generalize ofF (sliR a t) = p at H1 H3 s1
  generalize ofF (sliR b t) = q at H2 H3 s2
  go_enter Try.func57, Try.ntmps57
  go_wp2_with fail
  refine Calls.mono (H1.out _ hA) ?_
  rintro e w1 ⟨A1, c1, rfl, hb1, hP1⟩
  obtain ⟨x1, rfl⟩ := hb1.get
  clear hb1
  go_wp2_with fail
  refine Calls.mono (H2.out _ (hB.ext (by repeat (first | exact Ext.refl' _ | assumption | apply Ext.ex' | apply Ext.al | apply Ext.drN | apply Ext.dr)))) ?_
  rintro e w1 ⟨A2, c2, rfl, hb1, hP2⟩
  obtain ⟨x2, rfl⟩ := hb1.get
  clear hb1
  go_wp2_with fail
  refine Calls.mono (H3.out _ _ _ _ _ (hP1.ext (by repeat (first | exact Ext.refl' _ | assumption | apply Ext.ex' | apply Ext.al | apply Ext.drN | apply Ext.dr))) hP2) ?_
  rintro e w1 ⟨v3, rfl, hb1, hP3⟩
  go_wp2
  go_ret
  exact ⟨v3, rfl, Ext.tr (by repeat (first | exact Ext.refl' _ | assumption | apply Ext.ex' | apply Ext.al | apply Ext.drN | apply Ext.dr)) hb1, own_mono hP3 (by simp [size_ext]; omega)⟩


set_option maxHeartbeats 800000 in
theorem rsl2_any (A B : Option Addr) (ca cb : Nat) (a b : List Rct) (t : Int) (w : World) (hA : Rd w 4 A a.length (rcl a)) (hB : Rd w 4 B b.length (rcl b)) (ha : a.length ≤ 274877906944) (hb : b.length ≤ 274877906944) :
    Calls Try.prog 57 #[.int .i64 2, .slice A a.length ca, .slice B b.length cb, .int .i64 t] w (OwR 34 2 (sK interK a b t).length (pc (sK interK a b t)) w) := by
  have H1 := Lib.hid (fun w h => rslice_any A ca a t w h (by omega))
  have H2 := Lib.hid (fun w h => rslice_any B cb b t w h (by omega))
  have s1 := can_short (ofF_can (sliR a t))
  have s2 := can_short (ofF_can (sliR b t))
  have H3 := Lib.hid (fun A B c d w h1 h2 => rintersectO_any A B c d (ofF (sliR a t)) (ofF (sliR b t)) w h1 h2 s1 s2)
  rw [show combF interK (ofF (sliR a t)) (ofF (sliR b t)) = sK interK a b t from combF_eq fun v _ _ => by rw [ofF_in, ofF_in]] at H3
  generalize sK interK a b t = z at H3 ⊢
  generalize ofF (sliR a t) = p at H1 H3 s1
  generalize ofF (sliR b t) = q at H2 H3 s2
  go_enter Try.func57, Try.ntmps57
  go_wp2_with fail
  refine Calls.mono (H1.out _ hA) ?_
  rintro e w1 ⟨A1, c1, rfl, hb1, hP1⟩
  obtain ⟨x1, rfl⟩ := hb1.get
  clear hb1
  go_wp2_with fail
  refine Calls.mono (H2.out _ (hB.ext (by repeat (first | exact Ext.refl' _ | assumption | apply Ext.ex' | apply Ext.al | apply Ext.drN | apply Ext.dr)))) ?_
  rintro e w1 ⟨A2, c2, rfl, hb1, hP2⟩
  obtain ⟨x2, rfl⟩ := hb1.get
  clear hb1
  go_wp2_with fail
  refine Calls.mono (H3.out _ _ _ _ _ (hP1.ext (by repeat (first | exact Ext.refl' _ | assumption | apply Ext.ex' | apply Ext.al | apply Ext.drN | apply Ext.dr))) hP2) ?_
  rintro e w1 ⟨v3, rfl, hb1, hP3⟩
  go_wp2
  go_ret
  exact ⟨v3, rfl, Ext.tr (by repeat (first | exact Ext.refl' _ | assumption | apply Ext.ex' | apply Ext.al | apply Ext.drN | apply Ext.dr)) hb1, own_mono hP3 (by simp [size_ext]; omega)⟩


set_option maxHeartbeats 800000 in
theorem rsl3_any (A B : Option Addr) (ca cb : Nat) (a b : List Rct) (t : Int) (w : World) (hA : Rd w 4 A a.length (rcl a)) (hB : Rd w 4 B b.length (rcl b)) (ha : a.length ≤ 274877906944) (hb : b.length ≤ 274877906944) :
    Calls Try.prog 57 #[.int .i64 3, .slice A a.length ca, .slice B b.length cb, .int .i64 t] w (OwR 34 2 (sK subK a b t).length (pc (sK subK a b t)) w) := by
  have H1 := Lib.hid (fun w h => rslice_any A ca a t w h (by omega))
  have H2 := Lib.hid (fun w h => rslice_any B cb b t w h (by omega))
  have s1 := can_short (ofF_can (sliR a t))
  have s2 := can_short (ofF_can (sliR b t))
  have H3 := Lib.hid (fun A B c d w h1 h2 => rsubtractO_any A B c d (ofF (sliR a t)) (ofF (sliR b t)) w h1 h2 s1 s2)
  rw [show combF subK (ofF (sliR a t)) (ofF (sliR b t)) = sK subK a b t from combF_eq fun v _ _ => by rw [ofF_in, ofF_in]] at H3
  generalize sK subK a b t = z at H3 ⊢
  generalize ofF (sliR a t) = p at H1 H3 s1
  generalize ofF (sliR b t) = q at H2 H3 s2
  go_enter Try.func57, Try.ntmps57
  go_wp2_with fail
  refine Calls.mono (H1.out _ hA) ?_
  rintro e w1 ⟨A1, c1, rfl, hb1, hP1⟩
  obtain ⟨x1, rfl⟩ := hb1.get
  clear hb1
  go_wp2_with fail
  refine Calls.mono (H2.out _ (hB.ext (by repeat (first | exact Ext.refl' _ | assumption | apply Ext.ex' | apply Ext.al | apply Ext.drN | apply Ext.dr)))) ?_
  rintro e w1 ⟨A2, c2, rfl, hb1, hP2⟩
  obtain ⟨x2, rfl⟩ := hb1.get
  clear hb1
  go_wp2_with fail
  refine Calls.mono (H3.out _ _ _ _ _ (hP1.ext (by repeat (first | exact Ext.refl' _ | assumption | apply Ext.ex' | apply Ext.al | apply Ext.drN | apply Ext.dr))) hP2) ?_
  rintro e w1 ⟨v3, rfl, hb1, hP3⟩
  go_wp2
  go_ret
  exact ⟨v3, rfl, Ext.tr (by repeat (first | exact Ext.refl' _ | assumption | apply Ext.ex' | apply Ext.al | apply Ext.drN | apply Ext.dr)) hb1, own_mono hP3 (by simp [size_ext]; omega)⟩


theorem held_rect : Try.prog.stoodInHeld 36 = false := by kernel_rfl
@[go_sem] theorem guard_rect : Try.prog.eqGuardType Try.prog.depth 36 = false := by kernel_rfl
theorem ne_r {a b : Rct} (h : (decide (a = b)) = false) : a ≠ b := by simpa using h
theorem eq_r {a b : Rct} (h : (decide (a = b)) = true) : a = b := by simpa using h
@[go_sem high] theorem neq_rect (a b : Rct) (w : World) : (binOp .neq 36 (.agg #[.int .i64 a.1.1, .int .i64 a.1.2, .int .i64 a.2.1, .int .i64 a.2.2]) (.agg #[.int .i64 b.1.1, .int .i64 b.1.2, .int .i64 b.2.1, .int .i64 b.2.2])).run Try.prog w = .ok (.bool (!decide (a = b))) w := by
  obtain ⟨⟨a1, a2⟩, ⟨a3, a4⟩⟩ := a
  obtain ⟨⟨b1, b2⟩, ⟨b3, b4⟩⟩ := b
  simp [go_sem, held_rect, held_period, Try.underlying36, Try.underlying34]
  by_cases h1 : a1 = b1 <;> by_cases h2 : a2 = b2 <;> by_cases h3 : a3 = b3 <;> by_cases h4 : a4 = b4 <;> simp [h1, h2, h3, h4]


set_option maxHeartbeats 800000 in
theorem sameR_any (A B : Option Addr) (c d : Nat) (l m : List Rct) (w : World) (hA : Rd w 4 A l.length (rcl l)) (hB : Rd w 4 B m.length (rcl m)) (hl : l.length ≤ 9223372036854775807) (hm : m.length ≤ 9223372036854775807) :
    Calls Try.prog 11 #[.slice A l.length c, .slice B m.length d] w fun e w' => e = .returned (.bool (decide (l = m))) ∧ Ext w w' := by
  go_enter Try.func11, Try.ntmps11
  by_cases hn : l.length = m.length
  · have hb : ((l.length : Int) != (m.length : Int)) = false := by simp [hn]
    have HN := Lib.hid hn
    clear hn
    go_wp2
    go_loopw [5] (fun i wr => ∃ k : Nat, k ≤ l.length ∧ i = .int .i64 k ∧ Hid (l.take k = m.take k) ∧ Ext w wr) (fun i _ => l.length - (intOf i).toNat)
    case atStart => exact ⟨0, Nat.zero_le _, rfl, Lib.hid (by simp), Ext.refl' _⟩
    case round =>
      obtain ⟨k, hk, rfl, HT, hext⟩ := hrel
      obtain ⟨x, rfl⟩ := hext.get
      clear hext
      by_cases hlt : k < l.length
      · obtain ⟨b, o, rfl, hb, hc1, hc2, hc3, hc4⟩ := hA.rect hlt
        have hlt' : k < m.length := by have := HN.out; omega
        obtain ⟨b', o', rfl, hb', hd1, hd2, hd3, hd4⟩ := hB.rect hlt'
        by_cases heq : l[k] = m[k]
        · have HE := Lib.hid (take_succ_eq hlt hlt' HT.out heq)
          have hdq : decide (l[k] = m[k]) = true := by simp [heq]
          clear heq
          generalize l[k] = p at hc1 hc2 hc3 hc4 hdq
          generalize m[k] = q at hd1 hd2 hd3 hd4 hdq
          go_wp2
          go_quiet (fail)
          go_wp2
          go_roundw
          case rel => exact ⟨k + 1, by omega, by go_num, HE, by repeat (first | exact Ext.refl' _ | assumption | apply Ext.ex' | apply Ext.al | apply Ext.drN | apply Ext.dr)⟩
          case measure => simp [intOf]; omega
        · have HE := Lib.hid (take_ne hlt hlt' heq)
          have hdq : decide (l[k] = m[k]) = false := by simp [heq]
          clear heq
          generalize l[k] = p at hc1 hc2 hc3 hc4 hdq
          generalize m[k] = q at hd1 hd2 hd3 hd4 hdq
          go_wp2
          go_quiet (fail)
          go_wp2
          go_ret
          exact ⟨by simp [HE.out], by repeat (first | exact Ext.refl' _ | assumption | apply Ext.ex' | apply Ext.al | apply Ext.drN | apply Ext.dr)⟩
      · go_wp2
        go_ret
        exact ⟨by rw [eq_of_takes HN.out hlt HT.out]; simp, Ext.ex _ _⟩
  · have hb : ((l.length : Int) != (m.length : Int)) = true := by simp; omega
    have hlm : decide (l = m) = false := by simp; rintro rfl; exact hn rfl
    rw [hlm]
    clear hn hlm
    go_wp2
    go_ret
    exact ⟨rfl, Ext.refl' _⟩


def rovB (a b : Rct) : Bool := rvB a && rvB b && povB a.1 b.1 && povB a.2 b.2


set_option maxHeartbeats 400000 in
theorem poverlaps_any (p q : Int × Int) (w : World) : Calls Try.prog 47 #[pr p, pr q] w fun e w' => e = .returned (.bool (povB p q)) ∧ Ext w w' := by
  go_enter Try.func47, Try.ntmps47
  go_wp2_with (go_at_call 65; refine (pvalid_any _ _).mono ?_; rintro e w1 ⟨rfl, hb1⟩; obtain ⟨x1, rfl⟩ := hb1.get; clear hb1)
  all_goals go_ret
  all_goals refine ⟨?_, by repeat (first | exact Ext.refl' _ | assumption | apply Ext.ex' | apply Ext.al | apply Ext.drN | apply Ext.dr)⟩
  all_goals simp_all [povB]
  all_goals omega


set_option maxHeartbeats 800000 in
theorem goverlaps_any (a b : Rct) (w : World) : Calls Try.prog 27 #[rr a, rr b] w fun e w' => e = .returned (.bool (rovB a b)) ∧ Ext w w' := by
  have H1 := Lib.hid (fun w => gvalid_any a w)
  have H2 := Lib.hid (fun w => gvalid_any b w)
  have H3 := Lib.hid (fun w => poverlaps_any a.1 b.1 w)
  have H4 := Lib.hid (fun w => poverlaps_any a.2 b.2 w)
  rcases h1 : rvB a with _ | _
  · rw [h1] at H1
    have HE : Hid (rovB a b = false) := Lib.hid (by unfold rovB; rw [h1]; rfl)
    go_enter Try.func27, Try.ntmps27
    go_wp2_with (first | (go_at_call 44; (with_reducible refine Calls.mono (H1.out _) ?_); rintro e w1 ⟨rfl, hb1⟩; obtain ⟨y1, rfl⟩ := hb1.get; clear hb1) | (go_at_call 44; (with_reducible refine Calls.mono (H2.out _) ?_); rintro e w1 ⟨rfl, hb1⟩; obtain ⟨y2, rfl⟩ := hb1.get; clear hb1) | (go_at_call 47; (with_reducible refine Calls.mono (H3.out _) ?_); rintro e w1 ⟨rfl, hb1⟩; obtain ⟨y3, rfl⟩ := hb1.get; clear hb1) | (go_at_call 47; (with_reducible refine Calls.mono (H4.out _) ?_); rintro e w1 ⟨rfl, hb1⟩; obtain ⟨y4, rfl⟩ := hb1.get; clear hb1))
    go_ret
    exact ⟨by rw [HE.out]; rfl, by repeat (first | exact Ext.refl' _ | assumption | apply Ext.ex' | apply Ext.al | apply Ext.drN | apply Ext.dr)⟩
  · rw [h1] at H1
    rcases h2 : rvB b with _ | _
    · rw [h2] at H2
      have HE : Hid (rovB a b = false) := Lib.hid (by unfold rovB; rw [h1, h2]; rfl)
      go_enter Try.func27, Try.ntmps27
      go_wp2_with (first | (go_at_call 44; (with_reducible refine Calls.mono (H1.out _) ?_); rintro e w1 ⟨rfl, hb1⟩; obtain ⟨y1, rfl⟩ := hb1.get; clear hb1) | (go_at_call 44; (with_reducible refine Calls.mono (H2.out _) ?_); rintro e w1 ⟨rfl, hb1⟩; obtain ⟨y2, rfl⟩ := hb1.get; clear hb1) | (go_at_call 47; (with_reducible refine Calls.mono (H3.out _) ?_); rintro e w1 ⟨rfl, hb1⟩; obtain ⟨y3, rfl⟩ := hb1.get; clear hb1) | (go_at_call 47; (with_reducible refine Calls.mono (H4.out _) ?_); rintro e w1 ⟨rfl, hb1⟩; obtain ⟨y4, rfl⟩ := hb1.get; clear hb1))
      go_ret
      exact ⟨by rw [HE.out]; rfl, by repeat (first | exact Ext.refl' _ | assumption | apply Ext.ex' | apply Ext.al | apply Ext.drN | apply Ext.dr)⟩
    · rw [h2] at H2
      rcases h3 : povB a.1 b.1 with _ | _
      · rw [h3] at H3
        have HE : Hid (rovB a b = false) := Lib.hid (by unfold rovB; rw [h1, h2, h3]; rfl)
        go_enter Try.func27, Try.ntmps27
        go_wp2_with (first | (go_at_call 44; (with_reducible refine Calls.mono (H1.out _) ?_); rintro e w1 ⟨rfl, hb1⟩; obtain ⟨y1, rfl⟩ := hb1.get; clear hb1) | (go_at_call 44; (with_reducible refine Calls.mono (H2.out _) ?_); rintro e w1 ⟨rfl, hb1⟩; obtain ⟨y2, rfl⟩ := hb1.get; clear hb1) | (go_at_call 47; (with_reducible refine Calls.mono (H3.out _) ?_); rintro e w1 ⟨rfl, hb1⟩; obtain ⟨y3, rfl⟩ := hb1.get; clear hb1) | (go_at_call 47; (with_reducible refine Calls.mono (H4.out _) ?_); rintro e w1 ⟨rfl, hb1⟩; obtain ⟨y4, rfl⟩ := hb1.get; clear hb1))
        go_ret
        exact ⟨by rw [HE.out]; rfl, by repeat (first | exact Ext.refl' _ | assumption | apply Ext.ex' | apply Ext.al | apply Ext.drN | apply Ext.dr)⟩
      · rw [h3] at H3
        rcases h4 : povB a.2 b.2 with _ | _
        · rw [h4] at H4
          have HE : Hid (rovB a b = false) := Lib.hid (by unfold rovB; rw [h1, h2, h3, h4]; rfl)
          go_enter Try.func27, Try.ntmps27
          go_wp2_with (first | (go_at_call 44; (with_reducible refine Calls.mono (H1.out _) ?_); rintro e w1 ⟨rfl, hb1⟩; obtain ⟨y1, rfl⟩ := hb1.get; clear hb1) | (go_at_call 44; (with_reducible refine Calls.mono (H2.out _) ?_); rintro e w1 ⟨rfl, hb1⟩; obtain ⟨y2, rfl⟩ := hb1.get; clear hb1) | (go_at_call 47; (with_reducible refine Calls.mono (H3.out _) ?_); rintro e w1 ⟨rfl, hb1⟩; obtain ⟨y3, rfl⟩ := hb1.get; clear hb1) | (go_at_call 47; (with_reducible refine Calls.mono (H4.out _) ?_); rintro e w1 ⟨rfl, hb1⟩; obtain ⟨y4, rfl⟩ := hb1.get; clear hb1))
          go_ret
          exact ⟨by rw [HE.out]; rfl, by repeat (first | exact Ext.refl' _ | assumption | apply Ext.ex' | apply Ext.al | apply Ext.drN | apply Ext.dr)⟩
        · rw [h4] at H4
          have HE : Hid (rovB a b = true) := Lib.hid (by unfold rovB; rw [h1, h2, h3, h4]; rfl)
          go_enter Try.func27, Try.ntmps27
          go_wp2_with (first | (go_at_call 44; (with_reducible refine Calls.mono (H1.out _) ?_); rintro e w1 ⟨rfl, hb1⟩; obtain ⟨y1, rfl⟩ := hb1.get; clear hb1) | (go_at_call 44; (with_reducible refine Calls.mono (H2.out _) ?_); rintro e w1 ⟨rfl, hb1⟩; obtain ⟨y2, rfl⟩ := hb1.get; clear hb1) | (go_at_call 47; (with_reducible refine Calls.mono (H3.out _) ?_); rintro e w1 ⟨rfl, hb1⟩; obtain ⟨y3, rfl⟩ := hb1.get; clear hb1) | (go_at_call 47; (with_reducible refine Calls.mono (H4.out _) ?_); rintro e w1 ⟨rfl, hb1⟩; obtain ⟨y4, rfl⟩ := hb1.get; clear hb1))
          go_ret
          exact ⟨by rw [HE.out]; rfl, by repeat (first | exact Ext.refl' _ | assumption | apply Ext.ex' | apply Ext.al | apply Ext.drN | apply Ext.dr)⟩


set_option maxHeartbeats 800000 in
theorem roverlapsR_any (a b : Rct) (w : World) : Calls Try.prog 26 #[rr a, rr b] w fun e w' => e = .returned (.bool (rovB a b)) ∧ Ext w w' := by
  have H1 := Lib.hid (fun w => sound_any a w)
  have H2 := Lib.hid (fun w => sound_any b w)
  have H3 := Lib.hid (fun w => roverlaps_any a.1 b.1 w)
  have H4 := Lib.hid (fun w => roverlaps_any a.2 b.2 w)
  rcases h1 : rvB a with _ | _
  · rw [h1] at H1
    have HE : Hid (rovB a b = false) := Lib.hid (by unfold rovB; rw [h1]; rfl)
    go_enter Try.func26, Try.ntmps26
    go_wp2_with (first | (go_at_call 25; (with_reducible refine Calls.mono (H1.out _) ?_); rintro e w1 ⟨rfl, hb1⟩; obtain ⟨y1, rfl⟩ := hb1.get; clear hb1) | (go_at_call 25; (with_reducible refine Calls.mono (H2.out _) ?_); rintro e w1 ⟨rfl, hb1⟩; obtain ⟨y2, rfl⟩ := hb1.get; clear hb1) | (go_at_call 46; (with_reducible refine Calls.mono (H3.out _) ?_); rintro e w1 ⟨rfl, hb1⟩; obtain ⟨y3, rfl⟩ := hb1.get; clear hb1) | (go_at_call 46; (with_reducible refine Calls.mono (H4.out _) ?_); rintro e w1 ⟨rfl, hb1⟩; obtain ⟨y4, rfl⟩ := hb1.get; clear hb1))
    go_ret
    exact ⟨by rw [HE.out]; rfl, by repeat (first | exact Ext.refl' _ | assumption | apply Ext.ex' | apply Ext.al | apply Ext.drN | apply Ext.dr)⟩
  · rw [h1] at H1
    rcases h2 : rvB b with _ | _
    · rw [h2] at H2
      have HE : Hid (rovB a b = false) := Lib.hid (by unfold rovB; rw [h1, h2]; rfl)
      go_enter Try.func26, Try.ntmps26
      go_wp2_with (first | (go_at_call 25; (with_reducible refine Calls.mono (H1.out _) ?_); rintro e w1 ⟨rfl, hb1⟩; obtain ⟨y1, rfl⟩ := hb1.get; clear hb1) | (go_at_call 25; (with_reducible refine Calls.mono (H2.out _) ?_); rintro e w1 ⟨rfl, hb1⟩; obtain ⟨y2, rfl⟩ := hb1.get; clear hb1) | (go_at_call 46; (with_reducible refine Calls.mono (H3.out _) ?_); rintro e w1 ⟨rfl, hb1⟩; obtain ⟨y3, rfl⟩ := hb1.get; clear hb1) | (go_at_call 46; (with_reducible refine Calls.mono (H4.out _) ?_); rintro e w1 ⟨rfl, hb1⟩; obtain ⟨y4, rfl⟩ := hb1.get; clear hb1))
      go_ret
      exact ⟨by rw [HE.out]; rfl, by repeat (first | exact Ext.refl' _ | assumption | apply Ext.ex' | apply Ext.al | apply Ext.drN | apply Ext.dr)⟩
    · rw [h2] at H2
      rcases h3 : povB a.1 b.1 with _ | _
      · rw [h3] at H3
        have HE : Hid (rovB a b = false) := Lib.hid (by unfold rovB; rw [h1, h2, h3]; rfl)
        go_enter Try.func26, Try.ntmps26
        go_wp2_with (first | (go_at_call 25; (with_reducible refine Calls.mono (H1.out _) ?_); rintro e w1 ⟨rfl, hb1⟩; obtain ⟨y1, rfl⟩ := hb1.get; clear hb1) | (go_at_call 25; (with_reducible refine Calls.mono (H2.out _) ?_); rintro e w1 ⟨rfl, hb1⟩; obtain ⟨y2, rfl⟩ := hb1.get; clear hb1) | (go_at_call 46; (with_reducible refine Calls.mono (H3.out _) ?_); rintro e w1 ⟨rfl, hb1⟩; obtain ⟨y3, rfl⟩ := hb1.get; clear hb1) | (go_at_call 46; (with_reducible refine Calls.mono (H4.out _) ?_); rintro e w1 ⟨rfl, hb1⟩; obtain ⟨y4, rfl⟩ := hb1.get; clear hb1))
        go_ret
        exact ⟨by rw [HE.out]; rfl, by repeat (first | exact Ext.refl' _ | assumption | apply Ext.ex' | apply Ext.al | apply Ext.drN | apply Ext.dr)⟩
      · rw [h3] at H3
        rcases h4 : povB a.2 b.2 with _ | _
        · rw [h4] at H4
          have HE : Hid (rovB a b = false) := Lib.hid (by unfold rovB; rw [h1, h2, h3, h4]; rfl)
          go_enter Try.func26, Try.ntmps26
          go_wp2_with (first | (go_at_call 25; (with_reducible refine Calls.mono (H1.out _) ?_); rintro e w1 ⟨rfl, hb1⟩; obtain ⟨y1, rfl⟩ := hb1.get; clear hb1) | (go_at_call 25; (with_reducible refine Calls.mono (H2.out _) ?_); rintro e w1 ⟨rfl, hb1⟩; obtain ⟨y2, rfl⟩ := hb1.get; clear hb1) | (go_at_call 46; (with_reducible refine Calls.mono (H3.out _) ?_); rintro e w1 ⟨rfl, hb1⟩; obtain ⟨y3, rfl⟩ := hb1.get; clear hb1) | (go_at_call 46; (with_reducible refine Calls.mono (H4.out _) ?_); rintro e w1 ⟨rfl, hb1⟩; obtain ⟨y4, rfl⟩ := hb1.get; clear hb1))
          go_ret
          exact ⟨by rw [HE.out]; rfl, by repeat (first | exact Ext.refl' _ | assumption | apply Ext.ex' | apply Ext.al | apply Ext.drN | apply Ext.dr)⟩
        · rw [h4] at H4
          have HE : Hid (rovB a b = true) := Lib.hid (by unfold rovB; rw [h1, h2, h3, h4]; rfl)
          go_enter Try.func26, Try.ntmps26
          go_wp2_with (first | (go_at_call 25; (with_reducible refine Calls.mono (H1.out _) ?_); rintro e w1 ⟨rfl, hb1⟩; obtain ⟨y1, rfl⟩ := hb1.get; clear hb1) | (go_at_call 25; (with_reducible refine Calls.mono (H2.out _) ?_); rintro e w1 ⟨rfl, hb1⟩; obtain ⟨y2, rfl⟩ := hb1.get; clear hb1) | (go_at_call 46; (with_reducible refine Calls.mono (H3.out _) ?_); rintro e w1 ⟨rfl, hb1⟩; obtain ⟨y3, rfl⟩ := hb1.get; clear hb1) | (go_at_call 46; (with_reducible refine Calls.mono (H4.out _) ?_); rintro e w1 ⟨rfl, hb1⟩; obtain ⟨y4, rfl⟩ := hb1.get; clear hb1))
          go_ret
          exact ⟨by rw [HE.out]; rfl, by repeat (first | exact Ext.refl' _ | assumption | apply Ext.ex' | apply Ext.al | apply Ext.drN | apply Ext.dr)⟩

end Go.Proofs.Ytcnhnbdgmfhfgaa
