/- The contract of the reference's Shown. -/
import Derived.Test.YtfimkjponcnlmaaClkY
set_option linter.unusedSimpArgs false
set_option linter.unusedVariables false
namespace Go.Proofs.Ytfimkjponcnlmaa
open Go.RowKit

theorem own_drN {w : World} {base e size n : Nat} {v : Value} {xs : List Value} (h : w.ownsRow base e size v n xs) (k : Nat) : (w.drewN k).ownsRow base e size v n xs := h
theorem pc_set2 (init : List (Int × Int)) (q : Int × Int) (r : Int) : (pc (init ++ [q])).set (init.length * 2 + 1) (.int .i64 r) = pc (init ++ [(q.1, r)]) := by
  have hl := pc_length init
  rw [pc_app, pc_app, List.set_append, if_neg (by omega), hl]
  simp [pc]
theorem all_form {w : World} {x0 xa : Add} {v1 : Value} {l : List (Int × Int)} (h : Own (ext w x0) xa 34 2 v1 (1 + l.length) ([.int .i64 0, .int .i64 0] ++ pc l)) :
    ∃ A1 c1 all W2, v1 = .slice A1 all.length c1 ∧ ext (ext w x0) xa = W2 ∧ Rd W2 2 A1 all.length (pc all) ∧ Hid (all = (0, 0) :: l) ∧ Ext w W2 ∧ all.length ≤ l.length + 1 := by
  obtain ⟨A1, c1, rfl, h1, h2⟩ := h.form
  have e : 1 + l.length = ((0, 0) :: l : List (Int × Int)).length := by simp; omega
  have e2 : [.int .i64 0, .int .i64 0] ++ pc l = pc ((0, 0) :: l) := by simp [pc]
  rw [e, e2] at h
  exact ⟨A1, c1, (0, 0) :: l, _, by rw [e], rfl, Rd.of_own h, Lib.hid rfl, (Ext.ex w x0).ex' xa, by simp⟩
theorem rsT_skip {wall : Int} {out all : List (Int × Int)} {k : Nat} (hk : k < all.length) (h : mayR all k wall = false) : rsT wall out (all.drop k) = rsT wall out (all.drop (k + 1)) := by
  have e : all.drop (k + 1) = (all.drop k).tail := by simp
  rw [e]
  unfold mayR at h
  have hne : all.drop k ≠ [] := by simp; omega
  revert h hne
  cases all.drop k with
  | nil => simp
  | cons a r =>
    cases r with
    | nil => intro h _; simp at h; simp [rsT]; omega
    | cons b r => intro h _; simp at h; simp [rsT, h]
theorem rsT_next {wall : Int} {out all : List (Int × Int)} {k : Nat} (hk : k + 1 < all.length) (h : mayR all k wall = true) : rsT wall out (all.drop k) = rsT wall (addR out (all[k].1, all[k + 1].1)) (all.drop (k + 1)) := by
  unfold mayR at h
  rw [List.drop_eq_getElem_cons (show k < all.length by omega), List.drop_eq_getElem_cons hk] at h ⊢
  simp at h
  simp [rsT, h]
theorem rsT_last {wall : Int} {out all : List (Int × Int)} {k : Nat} (hk : k < all.length) (hk1 : ¬ k + 1 < all.length) (h : mayR all k wall = true) : rsT wall out (all.drop k) = rsT wall (addR out (all[k].1, 1099511627776)) (all.drop (k + 1)) := by
  unfold mayR at h
  rw [List.drop_eq_getElem_cons hk, List.drop_eq_nil_of_le (by omega)] at h ⊢
  simp at h
  simp [rsT, h]

set_option maxHeartbeats 4000000 in
theorem rshown_any (A : Option Addr) (c : Nat) (l : List (Int × Int)) (wall : Int) (w : World) (hr : Rd w 2 A l.length (pc l)) (hl : l.length * 16 ≤ 140737488351232) :
    Calls Try.prog 24 #[.slice A l.length c, .int .i64 wall] w fun e w' => ∃ v, e = .returned v ∧ Ext w w' ∧ w'.ownsRow w.heap.size 49 2 v (rshown l wall).length (pc (rshown l wall)) := by
  by_cases hok : chk 0 l = 0 ∧ instB wall = true
  · have HS : Hid (rshown l wall = rsT wall [] ((0, 0) :: l)) := Lib.hid (if_pos hok)
    obtain ⟨hk0, hi⟩ := hok
    have hkb : (chk 0 l != 0) = false := by simp [hk0]
    clear hk0
    go_enter Try.func24, Try.ntmps24
    go_wp2_with (first
      | (go_at_call 16; refine (rcheck_any _ _ _ _ hr (by omega)).mono ?_; rintro e w1 ⟨rfl, hb1⟩; obtain ⟨x0, rfl⟩ := hb1.get; clear hb1)
      | (go_at_call 31; refine (rinst_any _ _).mono ?_; rintro e w1 ⟨rfl, rfl⟩)
      | (at_builtin; (refine wpList_app _ rfl (.tmp 19) (.tmp 20) rfl elStamp (ext w x0) (by repeat (first | exact Ext.refl' _ | assumption | apply Ext.ex' | apply Ext.al | apply Ext.drN | apply Ext.dr)) (.slice (some ⟨w.heap.size + x0.n, 0, none⟩) 1 1) 1 [.int .i64 0, .int .i64 0] rfl (by have := World.ownsRow_lit (e := 34) (size := 2) (base := (ext w x0).heap.size) (ext w x0) #[.int .i64 0, .int .i64 0] 1 (Nat.le_refl _) (by decide) rfl; simpa [size_ext] using this) A l.length c (pc l) rfl (hr.ext (by repeat (first | exact Ext.refl' _ | assumption | apply Ext.ex' | apply Ext.al | apply Ext.drN | apply Ext.dr))) (oneCell_pc l) (by unfold maxLen; omega) (by omega) ?_; intro v1 xa hown1 hgx; clear hgx; obtain ⟨A1, c1, all, W2, rfl, hW, hR, HALL, hE, hln⟩ := all_form hown1; rw [hW]; clear hW hown1)))
    have HC0 : Hid (rshown l wall = rsT wall [] all) := Lib.hid (by rw [HS.out, HALL.out])
    clear HS HALL
    go_loopw [6, 24] (fun out i wr => ∃ (k : Nat) (acc : List (Int × Int)), k ≤ all.length ∧ i = .int .i64 k ∧ acc.length ≤ k ∧ Hid (rshown l wall = rsT wall acc (all.drop k)) ∧ Ext W2 wr ∧ wr.ownsRow W2.heap.size 49 2 out acc.length (pc acc)) (fun _ i _ => all.length - (intOf i).toNat)
    case atStart => exact ⟨0, [], Nat.zero_le _, rfl, by simp, HC0, Ext.refl' _, World.ownsRow_nil _ _ _ _⟩
    case round =>
      obtain ⟨k, acc, hk, rfl, hal, HC, hext, hown⟩ := hrel
      obtain ⟨x, rfl⟩ := hext.get
      clear hext
      have HAL : Hid (all.length ≤ 9223372036854775807) := Lib.hid (by omega)
      have HMX : Hid (acc.length + 1 ≤ maxLen) := Lib.hid (by unfold maxLen; omega)
      have HBY : Hid ((acc.length + 1) * 16 ≤ 140737488355328) := Lib.hid (by omega)
      by_cases hlt : k < all.length
      · obtain ⟨b0, o0, rfl, hb0, hc1, hc2⟩ := hR.pair rfl hlt
        rcases hmy : mayR all k wall with _ | _
        · have HR : Hid (rshown l wall = rsT wall acc (all.drop (k + 1))) := Lib.hid (by rw [HC.out, rsT_skip hlt hmy])
          clear HC
          go_wp2_with (go_at_call 34; (refine (may_any _ c1 all k wall _ (by exact hR.ext (by repeat (first | exact Ext.refl' _ | assumption | apply Ext.ex' | apply Ext.al | apply Ext.drN | apply Ext.dr))) hlt HAL.out).mono ?_; rintro e w1 ⟨rfl, rfl⟩))
          go_roundw
          case rel =>
            go_light
            exact ⟨k + 1, acc, by omega, by go_num, by omega, HR, by repeat (first | exact Ext.refl' _ | assumption | apply Ext.ex' | apply Ext.al | apply Ext.drN | apply Ext.dr), hown⟩
          case measure => go_light; simp [intOf]; omega
        by_cases hk1 : k + 1 < all.length
        · obtain ⟨b1, o1, he, hb1, hd1, hd2⟩ := hR.pair rfl hk1
          simp only [Option.some.injEq, Addr.mk.injEq, and_true] at he
          obtain ⟨rfl, rfl⟩ := he
          have HT := Lib.hid (rsT_next (out := acc) hk1 hmy)
          rw [← HC.out] at HT
          clear HC
          generalize all[k] = a at hc1 hc2 HT
          generalize all[k + 1] = b at hd1 hd2 HT
          rcases List.eq_nil_or_concat acc with rfl | ⟨init, q, rfl⟩
          · have HR : Hid (rshown l wall = rsT wall [(a.1, b.1)] (all.drop (k + 1))) := Lib.hid (by rw [HT.out]; simp [addR])
            clear HT
            have hg0 : decide ((0 : Int) < 0) = false := by decide
            obtain ⟨A2, c2, rfl, he1, he2⟩ := Own.form hown
            · go_wp2_with (go_at_call 34; (refine (may_any _ c1 all k wall _ (by exact hR.ext (by repeat (first | exact Ext.refl' _ | assumption | apply Ext.ex' | apply Ext.al | apply Ext.drN | apply Ext.dr))) hlt HAL.out).mono ?_; rintro e w1 ⟨rfl, rfl⟩))
              go_quiet (fail)
              go_wp2_with (at_builtin; (refine wpList_app _ rfl (.tmp 72) (.tmp 74) rfl elPeriod W2 (by repeat (first | exact Ext.refl' _ | assumption | apply Ext.ex' | apply Ext.al | apply Ext.drN | apply Ext.dr)) (.slice A2 0 c2) 0 (pc []) rfl (by repeat (first | exact hown | apply own_ext | apply World.ownsRow.alloc | apply own_drN | apply World.ownsRow.drew)) _ 1 1 [.int .i64 a.1, .int .i64 b.1] rfl (Rd.lit _ _ _ 1 2 rfl (by simp [size_ext])) (oneCell_pc [(a.1, b.1)]) HMX.out HBY.out ?_; intro v' x' hown' hg; have HO := Lib.hid hown'; clear hown' hg))
              go_roundw
              case rel =>
                go_light
                exact ⟨k + 1, _, by omega, by go_num, by (simp <;> omega), HR, by repeat (first | exact Ext.refl' _ | assumption | apply Ext.ex' | apply Ext.al | apply Ext.drN | apply Ext.dr), by simpa [pc] using HO.out⟩
              case measure => go_light; simp [intOf]; omega
          · rw [List.concat_eq_append] at *
            simp only [List.length_append, List.length_cons, List.length_nil, Nat.zero_add] at hown hal HMX HBY
            obtain ⟨A2, c2, rfl, he1, he2⟩ := Own.form hown
            obtain ⟨g, rfl, hg1, hg2, hgc, hgf⟩ := Own.at hown (by omega)
            obtain ⟨_, hq2⟩ := pc_get (init ++ [q]) init.length (by simp)
            simp only [List.getElem_append_right (Nat.le_refl _), Nat.sub_self, List.getElem_cons_zero] at hq2
            have hr2 := hgc _ _ hq2
            clear hq2 hgc
            have hw1 : IntKind.i64.wrap (init.length : Int) = init.length := IntWalk.i64_in _ (by omega)
            have hw2 : IntKind.i64.wrap ((init.length : Int) + 1 - 1) = init.length := by rw [Int.add_sub_cancel]; exact hw1
            have hw3 : (0 : Int) ≤ init.length := by omega
            have hw4 : (init.length : Int) < init.length + 1 := by omega
            have hw5 : decide ((0 : Int) < init.length + 1) = true := by (simp <;> omega)
            by_cases hqa : q.2 = a.1
            · have HR : Hid (rshown l wall = rsT wall (init ++ [(q.1, b.1)]) (all.drop (k + 1))) := Lib.hid (by rw [HT.out]; simp [addR, hqa])
              clear HT
              obtain ⟨xb, hb1, hb2, hb3, hb4, hb5, hb6⟩ := Own.set hown (init.length * 2 + 1) (.int .i64 b.1)
              rw [pc_set2] at hb3
              clear hb4 hb5 hb6
              have hqb : (q.2 == a.1) = true := by simp [hqa]
              have HQ := Lib.hid hqa
              clear hqa
              go_wp2_with (go_at_call 34; (refine (may_any _ c1 all k wall _ (by exact hR.ext (by repeat (first | exact Ext.refl' _ | assumption | apply Ext.ex' | apply Ext.al | apply Ext.drN | apply Ext.dr))) hlt HAL.out).mono ?_; rintro e w1 ⟨rfl, rfl⟩))
              go_quiet (fail)
              go_wp2
              go_roundw
              case rel =>
                go_light
                exact ⟨k + 1, _, by omega, by go_num, by (simp <;> omega), HR, by repeat (first | exact Ext.refl' _ | assumption | apply Ext.ex' | apply Ext.al | apply Ext.drN | apply Ext.dr), by simpa using (show World.ownsRow _ W2.heap.size 49 2 _ (init.length + 1) (pc (init ++ [(q.1, b.1)])) from by repeat (first | exact hb3 | apply own_ext | apply World.ownsRow.alloc | apply own_drN | apply World.ownsRow.drew))⟩
              case measure => go_light; simp [intOf]; omega
            · have HR : Hid (rshown l wall = rsT wall (init ++ [q] ++ [(a.1, b.1)]) (all.drop (k + 1))) := Lib.hid (by rw [HT.out]; simp [addR, hqa])
              clear HT
              have hqb : (q.2 == a.1) = false := by simp [hqa]
              go_wp2_with (go_at_call 34; (refine (may_any _ c1 all k wall _ (by exact hR.ext (by repeat (first | exact Ext.refl' _ | assumption | apply Ext.ex' | apply Ext.al | apply Ext.drN | apply Ext.dr))) hlt HAL.out).mono ?_; rintro e w1 ⟨rfl, rfl⟩))
              go_quiet (fail)
              go_wp2_with (at_builtin; (refine wpList_app _ rfl (.tmp 72) (.tmp 74) rfl elPeriod W2 (by repeat (first | exact Ext.refl' _ | assumption | apply Ext.ex' | apply Ext.al | apply Ext.drN | apply Ext.dr)) (.slice (some ⟨g, 0, none⟩) (init.length + 1) c2) (init.length + 1) (pc (init ++ [q])) rfl (by repeat (first | exact hown | apply own_ext | apply World.ownsRow.alloc | apply own_drN | apply World.ownsRow.drew)) _ 1 1 [.int .i64 a.1, .int .i64 b.1] rfl (Rd.lit _ _ _ 1 2 rfl (by simp [size_ext])) (oneCell_pc [(a.1, b.1)]) HMX.out HBY.out ?_; intro v' x' hown' hg; have HO := Lib.hid hown'; clear hown' hg))
              go_roundw
              case rel =>
                go_light
                exact ⟨k + 1, _, by omega, by go_num, by (simp <;> omega), HR, by repeat (first | exact Ext.refl' _ | assumption | apply Ext.ex' | apply Ext.al | apply Ext.drN | apply Ext.dr), by simpa [pc] using HO.out⟩
              case measure => go_light; simp [intOf]; omega

        · have HT := Lib.hid (rsT_last (out := acc) hlt hk1 hmy)
          rw [← HC.out] at HT
          clear HC
          generalize all[k] = a at hc1 hc2 HT
          rcases List.eq_nil_or_concat acc with rfl | ⟨init, q, rfl⟩
          · have HR : Hid (rshown l wall = rsT wall [(a.1, 1099511627776)] (all.drop (k + 1))) := Lib.hid (by rw [HT.out]; simp [addR])
            clear HT
            have hg0 : decide ((0 : Int) < 0) = false := by decide
            obtain ⟨A2, c2, rfl, he1, he2⟩ := Own.form hown
            · go_wp2_with (go_at_call 34; (refine (may_any _ c1 all k wall _ (by exact hR.ext (by repeat (first | exact Ext.refl' _ | assumption | apply Ext.ex' | apply Ext.al | apply Ext.drN | apply Ext.dr))) hlt HAL.out).mono ?_; rintro e w1 ⟨rfl, rfl⟩))
              go_quiet (fail)
              go_wp2_with (at_builtin; (refine wpList_app _ rfl (.tmp 72) (.tmp 74) rfl elPeriod W2 (by repeat (first | exact Ext.refl' _ | assumption | apply Ext.ex' | apply Ext.al | apply Ext.drN | apply Ext.dr)) (.slice A2 0 c2) 0 (pc []) rfl (by repeat (first | exact hown | apply own_ext | apply World.ownsRow.alloc | apply own_drN | apply World.ownsRow.drew)) _ 1 1 [.int .i64 a.1, .int .i64 1099511627776] rfl (Rd.lit _ _ _ 1 2 rfl (by simp [size_ext])) (oneCell_pc [(a.1, 1099511627776)]) HMX.out HBY.out ?_; intro v' x' hown' hg; have HO := Lib.hid hown'; clear hown' hg))
              go_roundw
              case rel =>
                go_light
                exact ⟨k + 1, _, by omega, by go_num, by (simp <;> omega), HR, by repeat (first | exact Ext.refl' _ | assumption | apply Ext.ex' | apply Ext.al | apply Ext.drN | apply Ext.dr), by simpa [pc] using HO.out⟩
              case measure => go_light; simp [intOf]; omega
          · rw [List.concat_eq_append] at *
            simp only [List.length_append, List.length_cons, List.length_nil, Nat.zero_add] at hown hal HMX HBY
            obtain ⟨A2, c2, rfl, he1, he2⟩ := Own.form hown
            obtain ⟨g, rfl, hg1, hg2, hgc, hgf⟩ := Own.at hown (by omega)
            obtain ⟨_, hq2⟩ := pc_get (init ++ [q]) init.length (by simp)
            simp only [List.getElem_append_right (Nat.le_refl _), Nat.sub_self, List.getElem_cons_zero] at hq2
            have hr2 := hgc _ _ hq2
            clear hq2 hgc
            have hw1 : IntKind.i64.wrap (init.length : Int) = init.length := IntWalk.i64_in _ (by omega)
            have hw2 : IntKind.i64.wrap ((init.length : Int) + 1 - 1) = init.length := by rw [Int.add_sub_cancel]; exact hw1
            have hw3 : (0 : Int) ≤ init.length := by omega
            have hw4 : (init.length : Int) < init.length + 1 := by omega
            have hw5 : decide ((0 : Int) < init.length + 1) = true := by (simp <;> omega)
            by_cases hqa : q.2 = a.1
            · have HR : Hid (rshown l wall = rsT wall (init ++ [(q.1, 1099511627776)]) (all.drop (k + 1))) := Lib.hid (by rw [HT.out]; simp [addR, hqa])
              clear HT
              obtain ⟨xb, hb1, hb2, hb3, hb4, hb5, hb6⟩ := Own.set hown (init.length * 2 + 1) (.int .i64 1099511627776)
              rw [pc_set2] at hb3
              clear hb4 hb5 hb6
              have hqb : (q.2 == a.1) = true := by simp [hqa]
              have HQ := Lib.hid hqa
              clear hqa
              go_wp2_with (go_at_call 34; (refine (may_any _ c1 all k wall _ (by exact hR.ext (by repeat (first | exact Ext.refl' _ | assumption | apply Ext.ex' | apply Ext.al | apply Ext.drN | apply Ext.dr))) hlt HAL.out).mono ?_; rintro e w1 ⟨rfl, rfl⟩))
              go_quiet (fail)
              go_wp2
              go_roundw
              case rel =>
                go_light
                exact ⟨k + 1, _, by omega, by go_num, by (simp <;> omega), HR, by repeat (first | exact Ext.refl' _ | assumption | apply Ext.ex' | apply Ext.al | apply Ext.drN | apply Ext.dr), by simpa using (show World.ownsRow _ W2.heap.size 49 2 _ (init.length + 1) (pc (init ++ [(q.1, 1099511627776)])) from by repeat (first | exact hb3 | apply own_ext | apply World.ownsRow.alloc | apply own_drN | apply World.ownsRow.drew))⟩
              case measure => go_light; simp [intOf]; omega
            · have HR : Hid (rshown l wall = rsT wall (init ++ [q] ++ [(a.1, 1099511627776)]) (all.drop (k + 1))) := Lib.hid (by rw [HT.out]; simp [addR, hqa])
              clear HT
              have hqb : (q.2 == a.1) = false := by simp [hqa]
              go_wp2_with (go_at_call 34; (refine (may_any _ c1 all k wall _ (by exact hR.ext (by repeat (first | exact Ext.refl' _ | assumption | apply Ext.ex' | apply Ext.al | apply Ext.drN | apply Ext.dr))) hlt HAL.out).mono ?_; rintro e w1 ⟨rfl, rfl⟩))
              go_quiet (fail)
              go_wp2_with (at_builtin; (refine wpList_app _ rfl (.tmp 72) (.tmp 74) rfl elPeriod W2 (by repeat (first | exact Ext.refl' _ | assumption | apply Ext.ex' | apply Ext.al | apply Ext.drN | apply Ext.dr)) (.slice (some ⟨g, 0, none⟩) (init.length + 1) c2) (init.length + 1) (pc (init ++ [q])) rfl (by repeat (first | exact hown | apply own_ext | apply World.ownsRow.alloc | apply own_drN | apply World.ownsRow.drew)) _ 1 1 [.int .i64 a.1, .int .i64 1099511627776] rfl (Rd.lit _ _ _ 1 2 rfl (by simp [size_ext])) (oneCell_pc [(a.1, 1099511627776)]) HMX.out HBY.out ?_; intro v' x' hown' hg; have HO := Lib.hid hown'; clear hown' hg))
              go_roundw
              case rel =>
                go_light
                exact ⟨k + 1, _, by omega, by go_num, by (simp <;> omega), HR, by repeat (first | exact Ext.refl' _ | assumption | apply Ext.ex' | apply Ext.al | apply Ext.drN | apply Ext.dr), by simpa [pc] using HO.out⟩
              case measure => go_light; simp [intOf]; omega

      · have H1 : Hid (rshown l wall = acc) := Lib.hid (by rw [HC.out, List.drop_eq_nil_of_le (Nat.le_of_not_lt hlt), rsT])
        clear HC
        go_wp2
        go_ret
        exact ⟨_, rfl, hE.tr (Ext.ex _ _), by rw [H1.out]; exact own_mono hown hE.size⟩
  · have HS : Hid (rshown l wall = []) := Lib.hid (if_neg hok)
    have hcs : (chk 0 l != 0) = true ∨ ((chk 0 l != 0) = false ∧ instB wall = false) := by
      rcases Decidable.em (chk 0 l = 0) with h | h
      · right; simp [h] at hok; simp [h, hok]
      · left; simp [h]
    clear hok
    rcases hcs with h | ⟨h, h'⟩
    all_goals
      go_enter Try.func24, Try.ntmps24
      go_wp2_with (first
        | (go_at_call 16; refine (rcheck_any _ _ _ _ hr (by omega)).mono ?_; rintro e w1 ⟨rfl, hb1⟩; obtain ⟨x0, rfl⟩ := hb1.get; clear hb1)
        | (go_at_call 31; refine (rinst_any _ _).mono ?_; rintro e w1 ⟨rfl, rfl⟩))
      go_ret
      exact ⟨_, rfl, by repeat (first | exact Ext.refl' _ | assumption | apply Ext.ex' | apply Ext.al | apply Ext.drN | apply Ext.dr), by rw [HS.out]; exact World.ownsRow_nil _ _ _ _⟩
end Go.Proofs.Ytfimkjponcnlmaa
