/- The contracts of the reference of chapter 5: Slice, Section, times, Contains, Same, Overlaps; and of the program: Contains, Slice, Overlaps. -/
import Derived.Test.YtccndjnaakmlkaaGreatRgA
set_option linter.unusedSimpArgs false
set_option linter.unusedVariables false
namespace Go.Proofs.YtccndjnaakmlkaaGreat
open Go.RowKit


set_option maxHeartbeats 2000000 in
theorem rslice_any (A : Option Addr) (c : Nat) (l : List Rct) (t : Int) (w : World) (hA : Rd w 4 A l.length (rcl l)) (hl : l.length ≤ 549755813888) :
    Calls Tryz.prog 71 #[.slice A l.length c, .int .i64 t] w (RdP 2 (ofF (sliR l t)).length (pc (ofF (sliR l t))) w) := by
  go_enter Tryz.func71, Tryz.ntmps71
  go_wp2
  go_loopw [5, 6] (fun out i wr => ∃ (k : Nat) (acc : List (Int × Int)) (x : Add), k ≤ l.length ∧ acc.length ≤ k ∧ i = .int .i64 k ∧ Hid (sliR l t = acc ++ sliR (l.drop k) t) ∧ wr = ext w x ∧ Own w x 25 2 out acc.length (pc acc)) (fun _ i _ => l.length - (intOf i).toNat)
  case atStart =>
    obtain ⟨x, hx⟩ := (Ext.refl' w).get
    exact ⟨0, [], x, by omega, by simp, rfl, Lib.hid (by simp), hx, own_nil _ _ _ _⟩
  case round =>
    obtain ⟨k, acc, x, hk, hal, rfl, HC, rfl, hown⟩ := hrel
    by_cases hlt : k < l.length
    · obtain ⟨b, o, rfl, hb, hc1, hc2, hc3, hc4⟩ := hA.rect hlt
      have HD : Hid (sliR l t = acc ++ ((if slB t l[k] then [l[k].1] else []) ++ sliR (l.drop (k + 1)) t)) := Lib.hid (by rw [HC.out, List.drop_eq_getElem_cons hlt, sliR_cons])
      generalize l[k] = r at hc1 hc2 hc3 hc4 HD
      clear HC
      have HQ := Lib.hid (fun w => rcontains_any r.2 t w)
      rcases hv : rvB r with _ | _
      · have HE : Hid (sliR l t = acc ++ sliR (l.drop (k + 1)) t) := Lib.hid (by rw [HD.out, slB_inP, hv]; rfl)
        go_wp2_with (first | (go_at_call 69; refine (sound_any r _).mono ?_; rintro e w1 ⟨rfl, hb1⟩; obtain ⟨x1, rfl⟩ := hb1.get; clear hb1) | (go_at_call 38; refine Calls.mono (HQ.out _) ?_; rintro e w1 ⟨rfl, hb1⟩; obtain ⟨x2, rfl⟩ := hb1.get; clear hb1))
        go_roundw
        case rel => exact rel_same hown (by repeat (first | exact Ext.refl' _ | assumption | apply Ext.ex' | apply Ext.al | apply Ext.drN | apply Ext.dr)) fun x' hx' ho' => ⟨k + 1, acc, x', by omega, by omega, by go_num, HE, hx', ho'⟩
        case measure => simp [intOf]; omega
      · rcases hi : inP r.2 t with _ | _
        · have HE : Hid (sliR l t = acc ++ sliR (l.drop (k + 1)) t) := Lib.hid (by rw [HD.out, slB_inP, hv, hi]; rfl)
          rw [hi] at HQ
          go_wp2_with (first | (go_at_call 69; refine (sound_any r _).mono ?_; rintro e w1 ⟨rfl, hb1⟩; obtain ⟨x1, rfl⟩ := hb1.get; clear hb1) | (go_at_call 38; refine Calls.mono (HQ.out _) ?_; rintro e w1 ⟨rfl, hb1⟩; obtain ⟨x2, rfl⟩ := hb1.get; clear hb1))
          go_roundw
          case rel => exact rel_same hown (by repeat (first | exact Ext.refl' _ | assumption | apply Ext.ex' | apply Ext.al | apply Ext.drN | apply Ext.dr)) fun x' hx' ho' => ⟨k + 1, acc, x', by omega, by omega, by go_num, HE, hx', ho'⟩
          case measure => simp [intOf]; omega
        · have HE : Hid (sliR l t = acc ++ [r.1] ++ sliR (l.drop (k + 1)) t) := Lib.hid (by rw [HD.out, slB_inP, hv, hi]; simp)
          rw [hi] at HQ
          go_wp2_with (first | (go_at_call 69; refine (sound_any r _).mono ?_; rintro e w1 ⟨rfl, hb1⟩; obtain ⟨x1, rfl⟩ := hb1.get; clear hb1) | (go_at_call 38; refine Calls.mono (HQ.out _) ?_; rintro e w1 ⟨rfl, hb1⟩; obtain ⟨x2, rfl⟩ := hb1.get; clear hb1) | (at_builtin; refine wpList_app _ rfl (.tmp 27) (.tmp 33) rfl elPeriod w (by repeat (first | exact Ext.refl' _ | assumption | apply Ext.ex' | apply Ext.al | apply Ext.drN | apply Ext.dr)) _ _ _ rfl (World.ownsRow.alloc (own_ext (own_ext (by exact hown) x1) x2) _) _ 1 1 [.int .i64 r.1.1, .int .i64 r.1.2] rfl (Rd.lit _ _ _ 1 2 rfl (by simp [size_ext])) (oneCell_pc [r.1]) (by unfold maxLen; omega) (by omega) ?_; intro v' x' hown' _))
          go_roundw
          case rel => exact ⟨k + 1, acc ++ [r.1], x', by omega, by simp; omega, by go_num, HE, rfl, by simpa [pc] using hown'⟩
          case measure => simp [intOf]; omega
    · have H0 : Hid (sliR l t = acc) := Lib.hid (by rw [HC.out, List.drop_eq_nil_of_le (Nat.le_of_not_lt hlt)]; simp [sliR])
      obtain ⟨A', c', rfl, _, _⟩ := Own.form hown
      have HO := Lib.hid (fun w h => rof_any A' c' acc w h (by omega))
      rw [← H0.out] at HO
      have hR := Rd.of_own hown
      have HL := Lib.hid (congrArg List.length H0.out)
      rw [← H0.out] at hR
      go_wp2_with fail
      rw [← HL.out]
      refine Calls.mono (HO.out _ hR) ?_
      rintro e w1 ⟨A1, c1, rfl, hb1, hP⟩
      go_wp2
      go_ret
      exact ⟨A1, c1, rfl, (Ext.ex _ _).tr hb1, hP⟩


set_option maxHeartbeats 2000000 in
theorem times_any (A : Option Addr) (c : Nat) (l : List Rct) (w : World) (hA : Rd w 4 A l.length (rcl l)) (hl : l.length ≤ 1099511627776) :
    Calls Tryz.prog 60 #[.slice A l.length c] w (RdP 1 (ptsF (sysR l)).length (ic (ptsF (sysR l))) w) := by
  go_enter Tryz.func60, Tryz.ntmps60
  go_wp2
  go_loopw [3, 4] (fun out i wr => ∃ (k : Nat) (acc : List (Int × Int)) (x : Add), k ≤ l.length ∧ acc.length ≤ k ∧ i = .int .i64 k ∧ Hid (sysR l = acc ++ sysR (l.drop k)) ∧ wr = ext w x ∧ Own w x 25 2 out acc.length (pc acc)) (fun _ i _ => l.length - (intOf i).toNat)
  case atStart =>
    obtain ⟨x, hx⟩ := (Ext.refl' w).get
    exact ⟨0, [], x, by omega, by simp, rfl, Lib.hid (by simp), hx, own_nil _ _ _ _⟩
  case round =>
    obtain ⟨k, acc, x, hk, hal, rfl, HC, rfl, hown⟩ := hrel
    by_cases hlt : k < l.length
    · obtain ⟨b, o, rfl, hb, hc1, hc2, hc3, hc4⟩ := hA.rect hlt
      have HD : Hid (sysR l = acc ++ ((if rvB l[k] then [l[k].2] else []) ++ sysR (l.drop (k + 1)))) := Lib.hid (by rw [HC.out, List.drop_eq_getElem_cons hlt, sysR_cons])
      generalize l[k] = r at hc1 hc2 hc3 hc4 HD
      clear HC
      rcases hv : rvB r with _ | _
      · have HE : Hid (sysR l = acc ++ sysR (l.drop (k + 1))) := Lib.hid (by rw [HD.out, hv]; rfl)
        go_wp2_with (go_at_call 69; refine (sound_any r _).mono ?_; rintro e w1 ⟨rfl, hb1⟩; obtain ⟨x1, rfl⟩ := hb1.get; clear hb1)
        go_roundw
        case rel => exact rel_same hown (by repeat (first | exact Ext.refl' _ | assumption | apply Ext.ex' | apply Ext.al | apply Ext.drN | apply Ext.dr)) fun x' hx' ho' => ⟨k + 1, acc, x', by omega, by omega, by go_num, HE, hx', ho'⟩
        case measure => simp [intOf]; omega
      · have HE : Hid (sysR l = acc ++ [r.2] ++ sysR (l.drop (k + 1))) := Lib.hid (by rw [HD.out, hv]; simp)
        go_wp2_with (first | (go_at_call 69; refine (sound_any r _).mono ?_; rintro e w1 ⟨rfl, hb1⟩; obtain ⟨x1, rfl⟩ := hb1.get; clear hb1) | (at_builtin; refine wpList_app _ rfl (.tmp 16) (.tmp 22) rfl elPeriod w (by repeat (first | exact Ext.refl' _ | assumption | apply Ext.ex' | apply Ext.al | apply Ext.drN | apply Ext.dr)) _ _ _ rfl (World.ownsRow.alloc (own_ext (by exact hown) x1) _) _ 1 1 [.int .i64 r.2.1, .int .i64 r.2.2] rfl (Rd.lit _ _ _ 1 2 rfl (by simp [size_ext])) (oneCell_pc [r.2]) (by unfold maxLen; omega) (by omega) ?_; intro v' x' hown' _))
        go_roundw
        case rel => exact ⟨k + 1, acc ++ [r.2], x', by omega, by simp; omega, by go_num, HE, rfl, by simpa [pc] using hown'⟩
        case measure => simp [intOf]; omega
    · have H0 : Hid (sysR l = acc) := Lib.hid (by rw [HC.out, List.drop_eq_nil_of_le (Nat.le_of_not_lt hlt)]; simp [sysR])
      obtain ⟨A', c', rfl, _, _⟩ := Own.form hown
      have HO := Lib.hid (fun w h => rpoints_any A' c' acc w h (by omega))
      rw [← H0.out] at HO
      have hR := Rd.of_own hown
      have HL := Lib.hid (congrArg List.length H0.out)
      rw [← H0.out] at hR
      go_wp2_with fail
      rw [← HL.out]
      refine Calls.mono (HO.out _ hR) ?_
      rintro e w1 ⟨A1, c1, rfl, hb1, hP⟩
      go_wp2
      go_ret
      exact ⟨A1, c1, rfl, (Ext.ex _ _).tr hb1, hP⟩


theorem inR_drop {l : List Rct} {k : Nat} (h : k < l.length) (v t : Int) : inR (l.drop k) v t = ((rvB l[k] && (inP l[k].1 v && inP l[k].2 t)) || inR (l.drop (k + 1)) v t) := by
  rw [List.drop_eq_getElem_cons h]; unfold inR; rw [List.any_cons]
set_option maxHeartbeats 800000 in
theorem rsl1_any (A B : Option Addr) (ca cb : Nat) (a b : List Rct) (t : Int) (w : World) (hA : Rd w 4 A a.length (rcl a)) (hB : Rd w 4 B b.length (rcl b)) (ha : a.length ≤ 274877906944) (hb : b.length ≤ 274877906944) :
    Calls Tryz.prog 61 #[.int .i64 1, .slice A a.length ca, .slice B b.length cb, .int .i64 t] w (OwR 25 2 (sK ofK a b t).length (pc (sK ofK a b t)) w) := by
  have H1 := Lib.hid (fun w h => rslice_any A ca a t w h (by omega))
  have H2 := Lib.hid (fun w h => rslice_any B cb b t w h (by omega))
  have s1 := can_short (ofF_can (sliR a t))
  have s2 := can_short (ofF_can (sliR b t))
  have H3 := Lib.hid (fun A B c d w h1 h2 => runionO_any A B c d (ofF (sliR a t)) (ofF (sliR b t)) w h1 h2 s1 s2)
  rw [show combF ofK (ofF (sliR a t)) (ofF (sliR b t)) = sK ofK a b t from combF_eq fun v _ _ => by rw [ofF_in, ofF_in]] at H3
  generalize sK ofK a b t = z at H3 ⊢
  generalize ofF (sliR a t) = p at H1 H3 s1
  generalize ofF (sliR b t) = q at H2 H3 s2
  go_enter Tryz.func61, Tryz.ntmps61
  go_wp2_with fail
  refine Calls.mono (H1.out _ hA) ?_
  rintro e w1 ⟨A1, c1, rfl, hb1, hP1⟩
  obtain ⟨x1, rfl⟩ := hb1.get
  clear hb1
  go_wp2_with fail
  refine Calls.mono (H2.out _ (hB.ext (by repeat (first | exact Ext.refl' _ | assumption | apply Ext.ex' | apply Ext.al | apply Ext.drN | apply Ext.dr)))) ?_
  rintro e w1 ⟨A2, c2, rfl, hb1, hP2⟩
  obtain ⟨x2, rfl⟩ := hb1.get
  clear hb1
  go_wp2_with fail
  refine Calls.mono (H3.out _ _ _ _ _ (hP1.ext (by repeat (first | exact Ext.refl' _ | assumption | apply Ext.ex' | apply Ext.al | apply Ext.drN | apply Ext.dr))) hP2) ?_
  rintro e w1 ⟨v3, rfl, hb1, hP3⟩
  go_wp2
  go_ret
  exact ⟨v3, rfl, Ext.tr (by repeat (first | exact Ext.refl' _ | assumption | apply Ext.ex' | apply Ext.al | apply Ext.drN | apply Ext.dr)) hb1, own_mono hP3 (by simp [size_ext]; omega)⟩


set_option maxHeartbeats 800000 in
theorem rsl2_any (A B : Option Addr) (ca cb : Nat) (a b : List Rct) (t : Int) (w : World) (hA : Rd w 4 A a.length (rcl a)) (hB : Rd w 4 B b.length (rcl b)) (ha : a.length ≤ 274877906944) (hb : b.length ≤ 274877906944) :
    Calls Tryz.prog 61 #[.int .i64 2, .slice A a.length ca, .slice B b.length cb, .int .i64 t] w (OwR 25 2 (sK interK a b t).length (pc (sK interK a b t)) w) := by
  have H1 := Lib.hid (fun w h => rslice_any A ca a t w h (by omega))
  have H2 := Lib.hid (fun w h => rslice_any B cb b t w h (by omega))
  have s1 := can_short (ofF_can (sliR a t))
  have s2 := can_short (ofF_can (sliR b t))
  have H3 := Lib.hid (fun A B c d w h1 h2 => rintersectO_any A B c d (ofF (sliR a t)) (ofF (sliR b t)) w h1 h2 s1 s2)
  rw [show combF interK (ofF (sliR a t)) (ofF (sliR b t)) = sK interK a b t from combF_eq fun v _ _ => by rw [ofF_in, ofF_in]] at H3
  generalize sK interK a b t = z at H3 ⊢
  generalize ofF (sliR a t) = p at H1 H3 s1
  generalize ofF (sliR b t) = q at H2 H3 s2
  go_enter Tryz.func61, Tryz.ntmps61
  go_wp2_with fail
  refine Calls.mono (H1.out _ hA) ?_
  rintro e w1 ⟨A1, c1, rfl, hb1, hP1⟩
  obtain ⟨x1, rfl⟩ := hb1.get
  clear hb1
  go_wp2_with fail
  refine Calls.mono (H2.out _ (hB.ext (by repeat (first | exact Ext.refl' _ | assumption | apply Ext.ex' | apply Ext.al | apply Ext.drN | apply Ext.dr)))) ?_
  rintro e w1 ⟨A2, c2, rfl, hb1, hP2⟩
  obtain ⟨x2, rfl⟩ := hb1.get
  clear hb1
  go_wp2_with fail
  refine Calls.mono (H3.out _ _ _ _ _ (hP1.ext (by repeat (first | exact Ext.refl' _ | assumption | apply Ext.ex' | apply Ext.al | apply Ext.drN | apply Ext.dr))) hP2) ?_
  rintro e w1 ⟨v3, rfl, hb1, hP3⟩
  go_wp2
  go_ret
  exact ⟨v3, rfl, Ext.tr (by repeat (first | exact Ext.refl' _ | assumption | apply Ext.ex' | apply Ext.al | apply Ext.drN | apply Ext.dr)) hb1, own_mono hP3 (by simp [size_ext]; omega)⟩


set_option maxHeartbeats 800000 in
theorem rsl3_any (A B : Option Addr) (ca cb : Nat) (a b : List Rct) (t : Int) (w : World) (hA : Rd w 4 A a.length (rcl a)) (hB : Rd w 4 B b.length (rcl b)) (ha : a.length ≤ 274877906944) (hb : b.length ≤ 274877906944) :
    Calls Tryz.prog 61 #[.int .i64 3, .slice A a.length ca, .slice B b.length cb, .int .i64 t] w (OwR 25 2 (sK subK a b t).length (pc (sK subK a b t)) w) := by
  have H1 := Lib.hid (fun w h => rslice_any A ca a t w h (by omega))
  have H2 := Lib.hid (fun w h => rslice_any B cb b t w h (by omega))
  have s1 := can_short (ofF_can (sliR a t))
  have s2 := can_short (ofF_can (sliR b t))
  have H3 := Lib.hid (fun A B c d w h1 h2 => rsubtractO_any A B c d (ofF (sliR a t)) (ofF (sliR b t)) w h1 h2 s1 s2)
  rw [show combF subK (ofF (sliR a t)) (ofF (sliR b t)) = sK subK a b t from combF_eq fun v _ _ => by rw [ofF_in, ofF_in]] at H3
  generalize sK subK a b t = z at H3 ⊢
  generalize ofF (sliR a t) = p at H1 H3 s1
  generalize ofF (sliR b t) = q at H2 H3 s2
  go_enter Tryz.func61, Tryz.ntmps61
  go_wp2_with fail
  refine Calls.mono (H1.out _ hA) ?_
  rintro e w1 ⟨A1, c1, rfl, hb1, hP1⟩
  obtain ⟨x1, rfl⟩ := hb1.get
  clear hb1
  go_wp2_with fail
  refine Calls.mono (H2.out _ (hB.ext (by repeat (first | exact Ext.refl' _ | assumption | apply Ext.ex' | apply Ext.al | apply Ext.drN | apply Ext.dr)))) ?_
  rintro e w1 ⟨A2, c2, rfl, hb1, hP2⟩
  obtain ⟨x2, rfl⟩ := hb1.get
  clear hb1
  go_wp2_with fail
  refine Calls.mono (H3.out _ _ _ _ _ (hP1.ext (by repeat (first | exact Ext.refl' _ | assumption | apply Ext.ex' | apply Ext.al | apply Ext.drN | apply Ext.dr))) hP2) ?_
  rintro e w1 ⟨v3, rfl, hb1, hP3⟩
  go_wp2
  go_ret
  exact ⟨v3, rfl, Ext.tr (by repeat (first | exact Ext.refl' _ | assumption | apply Ext.ex' | apply Ext.al | apply Ext.drN | apply Ext.dr)) hb1, own_mono hP3 (by simp [size_ext]; omega)⟩


theorem held_rect : Tryz.prog.stoodInHeld 27 = false := by kernel_rfl
@[go_sem] theorem guard_rect : Tryz.prog.eqGuardType Tryz.prog.depth 27 = false := by kernel_rfl
theorem ne_r {a b : Rct} (h : (decide (a = b)) = false) : a ≠ b := by simpa using h
theorem eq_r {a b : Rct} (h : (decide (a = b)) = true) : a = b := by simpa using h
@[go_sem high] theorem neq_rect (a b : Rct) (w : World) : (binOp .neq 27 (.agg #[.int .i64 a.1.1, .int .i64 a.1.2, .int .i64 a.2.1, .int .i64 a.2.2]) (.agg #[.int .i64 b.1.1, .int .i64 b.1.2, .int .i64 b.2.1, .int .i64 b.2.2])).run Tryz.prog w = .ok (.bool (!decide (a = b))) w := by
  obtain ⟨⟨a1, a2⟩, ⟨a3, a4⟩⟩ := a
  obtain ⟨⟨b1, b2⟩, ⟨b3, b4⟩⟩ := b
  simp [go_sem, held_rect, held_period, Tryz.underlying27, Tryz.underlying25]
  by_cases h1 : a1 = b1 <;> by_cases h2 : a2 = b2 <;> by_cases h3 : a3 = b3 <;> by_cases h4 : a4 = b4 <;> simp [h1, h2, h3, h4]


def rovB (a b : Rct) : Bool := rvB a && rvB b && povB a.1 b.1 && povB a.2 b.2


end Go.Proofs.YtccndjnaakmlkaaGreat
