/- The reference of packed trees: before, put, Check, ordered. -/
import Derived.Test.YtgobmiahhmajdaaTrB
import Derived.Deep.QuietTactic
set_option linter.unusedSimpArgs false
set_option linter.unusedVariables false
namespace Go.Proofs.Ytgobmiahhmajdaa
open Go.RowKit


def cpX (b : Bxs) : Nat → Int | 0 => b.1.1.1 | 1 => b.1.1.2 | 2 => b.1.2.1 | 3 => b.1.2.2 | _ => b.2


set_option maxHeartbeats 4000000 in
theorem rbefore_any (a b : Bxs) (w : World) : Calls Try.prog 53 #[bxg a, bxg b] w fun e w' => e = .returned (.bool (ltB a b)) ∧ Ext w w' := by
  go_enter Try.func53, Try.ntmps53
  go_wp2
  go_loopw [7] (fun i wr => ∃ j : Nat, j ≤ 5 ∧ i = .int .i64 j ∧ (∀ t, t < j → cpX a t = cpX b t) ∧ Ext ((((w.alloc (.cells #[.int .i64 a.1.1.1, .int .i64 a.1.1.2, .int .i64 a.1.2.1, .int .i64 a.1.2.2, .int .i64 a.2] 55)).alloc (.cells #[.int .i64 b.1.1.1, .int .i64 b.1.1.2, .int .i64 b.1.2.1, .int .i64 b.1.2.2, .int .i64 b.2] 55)).alloc (.cells #[.int .i64 a.1.1.1, .int .i64 a.1.1.2, .int .i64 a.1.2.1, .int .i64 a.1.2.2, .int .i64 a.2] 119)).alloc (.cells #[.int .i64 b.1.1.1, .int .i64 b.1.1.2, .int .i64 b.1.2.1, .int .i64 b.1.2.2, .int .i64 b.2] 119)) wr) (fun i _ => 5 - (intOf i).toNat)
  case atStart => exact ⟨0, by omega, rfl, fun t ht => by omega, Ext.refl' _⟩
  case round =>
    obtain ⟨j, hj, rfl, hall, hE⟩ := hrel
    obtain ⟨x, rfl⟩ := hE.get
    clear hE
    rcases (show j = 0 ∨ j = 1 ∨ j = 2 ∨ j = 3 ∨ j = 4 ∨ j = 5 by omega) with rfl | rfl | rfl | rfl | rfl | rfl
    · -- 0
      have HP := Lib.hid hall
      clear hall
      by_cases he : a.1.1.1 = b.1.1.1
      · have hq : (a.1.1.1 != b.1.1.1) = false := by simp [he]
        have HE := Lib.hid he
        clear he
        go_wp2
        go_quiet (fail)
        go_wp2
        go_roundw
        case rel => exact ⟨1, by omega, rfl, fun t ht => by
          rcases (show t < 0 ∨ t = 0 by omega) with h | rfl
          · exact HP.out t h
          · exact HE.out, by repeat (first | exact Ext.refl' _ | assumption | apply Ext.ex' | apply Ext.al | apply Ext.drN | apply Ext.dr)⟩
        case measure => simp [intOf]
      · have hq : (a.1.1.1 != b.1.1.1) = true := by simp [he]
        have HE : Hid (ltB a b = decide (a.1.1.1 < b.1.1.1)) := Lib.hid (by unfold ltB; rw [decide_eq_decide]; unfold ltX; omega)
        clear he
        go_wp2
        go_quiet (fail)
        go_wp2
        go_quiet (fail)
        go_wp2
        go_ret
        exact ⟨by rw [HE.out]; rfl, by repeat (first | exact Ext.refl' _ | assumption | apply Ext.ex' | apply Ext.al | apply Ext.drN | apply Ext.dr)⟩
    · -- 1
      have h0 : a.1.1.1 = b.1.1.1 := hall 0 (by omega)
      have HP := Lib.hid hall
      clear hall
      by_cases he : a.1.1.2 = b.1.1.2
      · have hq : (a.1.1.2 != b.1.1.2) = false := by simp [he]
        have HE := Lib.hid he
        clear he h0
        go_wp2
        go_quiet (fail)
        go_wp2
        go_roundw
        case rel => exact ⟨2, by omega, rfl, fun t ht => by
          rcases (show t < 1 ∨ t = 1 by omega) with h | rfl
          · exact HP.out t h
          · exact HE.out, by repeat (first | exact Ext.refl' _ | assumption | apply Ext.ex' | apply Ext.al | apply Ext.drN | apply Ext.dr)⟩
        case measure => simp [intOf]
      · have hq : (a.1.1.2 != b.1.1.2) = true := by simp [he]
        have HE : Hid (ltB a b = decide (a.1.1.2 < b.1.1.2)) := Lib.hid (by unfold ltB; rw [decide_eq_decide]; unfold ltX; omega)
        clear he h0
        go_wp2
        go_quiet (fail)
        go_wp2
        go_quiet (fail)
        go_wp2
        go_ret
        exact ⟨by rw [HE.out]; rfl, by repeat (first | exact Ext.refl' _ | assumption | apply Ext.ex' | apply Ext.al | apply Ext.drN | apply Ext.dr)⟩
    · -- 2
      have h0 : a.1.1.1 = b.1.1.1 := hall 0 (by omega)
      have h1 : a.1.1.2 = b.1.1.2 := hall 1 (by omega)
      have HP := Lib.hid hall
      clear hall
      by_cases he : a.1.2.1 = b.1.2.1
      · have hq : (a.1.2.1 != b.1.2.1) = false := by simp [he]
        have HE := Lib.hid he
        clear he h0 h1
        go_wp2
        go_quiet (fail)
        go_wp2
        go_roundw
        case rel => exact ⟨3, by omega, rfl, fun t ht => by
          rcases (show t < 2 ∨ t = 2 by omega) with h | rfl
          · exact HP.out t h
          · exact HE.out, by repeat (first | exact Ext.refl' _ | assumption | apply Ext.ex' | apply Ext.al | apply Ext.drN | apply Ext.dr)⟩
        case measure => simp [intOf]
      · have hq : (a.1.2.1 != b.1.2.1) = true := by simp [he]
        have HE : Hid (ltB a b = decide (a.1.2.1 < b.1.2.1)) := Lib.hid (by unfold ltB; rw [decide_eq_decide]; unfold ltX; omega)
        clear he h0 h1
        go_wp2
        go_quiet (fail)
        go_wp2
        go_quiet (fail)
        go_wp2
        go_ret
        exact ⟨by rw [HE.out]; rfl, by repeat (first | exact Ext.refl' _ | assumption | apply Ext.ex' | apply Ext.al | apply Ext.drN | apply Ext.dr)⟩
    · -- 3
      have h0 : a.1.1.1 = b.1.1.1 := hall 0 (by omega)
      have h1 : a.1.1.2 = b.1.1.2 := hall 1 (by omega)
      have h2 : a.1.2.1 = b.1.2.1 := hall 2 (by omega)
      have HP := Lib.hid hall
      clear hall
      by_cases he : a.1.2.2 = b.1.2.2
      · have hq : (a.1.2.2 != b.1.2.2) = false := by simp [he]
        have HE := Lib.hid he
        clear he h0 h1 h2
        go_wp2
        go_quiet (fail)
        go_wp2
        go_roundw
        case rel => exact ⟨4, by omega, rfl, fun t ht => by
          rcases (show t < 3 ∨ t = 3 by omega) with h | rfl
          · exact HP.out t h
          · exact HE.out, by repeat (first | exact Ext.refl' _ | assumption | apply Ext.ex' | apply Ext.al | apply Ext.drN | apply Ext.dr)⟩
        case measure => simp [intOf]
      · have hq : (a.1.2.2 != b.1.2.2) = true := by simp [he]
        have HE : Hid (ltB a b = decide (a.1.2.2 < b.1.2.2)) := Lib.hid (by unfold ltB; rw [decide_eq_decide]; unfold ltX; omega)
        clear he h0 h1 h2
        go_wp2
        go_quiet (fail)
        go_wp2
        go_quiet (fail)
        go_wp2
        go_ret
        exact ⟨by rw [HE.out]; rfl, by repeat (first | exact Ext.refl' _ | assumption | apply Ext.ex' | apply Ext.al | apply Ext.drN | apply Ext.dr)⟩
    · -- 4
      have h0 : a.1.1.1 = b.1.1.1 := hall 0 (by omega)
      have h1 : a.1.1.2 = b.1.1.2 := hall 1 (by omega)
      have h2 : a.1.2.1 = b.1.2.1 := hall 2 (by omega)
      have h3 : a.1.2.2 = b.1.2.2 := hall 3 (by omega)
      have HP := Lib.hid hall
      clear hall
      by_cases he : a.2 = b.2
      · have hq : (a.2 != b.2) = false := by simp [he]
        have HE := Lib.hid he
        clear he h0 h1 h2 h3
        go_wp2
        go_quiet (fail)
        go_wp2
        go_roundw
        case rel => exact ⟨5, by omega, rfl, fun t ht => by
          rcases (show t < 4 ∨ t = 4 by omega) with h | rfl
          · exact HP.out t h
          · exact HE.out, by repeat (first | exact Ext.refl' _ | assumption | apply Ext.ex' | apply Ext.al | apply Ext.drN | apply Ext.dr)⟩
        case measure => simp [intOf]
      · have hq : (a.2 != b.2) = true := by simp [he]
        have HE : Hid (ltB a b = decide (a.2 < b.2)) := Lib.hid (by unfold ltB; rw [decide_eq_decide]; unfold ltX; omega)
        clear he h0 h1 h2 h3
        go_wp2
        go_quiet (fail)
        go_wp2
        go_quiet (fail)
        go_wp2
        go_ret
        exact ⟨by rw [HE.out]; rfl, by repeat (first | exact Ext.refl' _ | assumption | apply Ext.ex' | apply Ext.al | apply Ext.drN | apply Ext.dr)⟩
    · have h0 : a.1.1.1 = b.1.1.1 := hall 0 (by omega)
      have h1 : a.1.1.2 = b.1.1.2 := hall 1 (by omega)
      have h2 : a.1.2.1 = b.1.2.1 := hall 2 (by omega)
      have h3 : a.1.2.2 = b.1.2.2 := hall 3 (by omega)
      have h4 : a.2 = b.2 := hall 4 (by omega)
      have HE : Hid (ltB a b = false) := Lib.hid (by unfold ltB; rw [decide_eq_false_iff_not]; unfold ltX; omega)
      clear h0 h1 h2 h3 h4 hall
      go_wp2
      go_ret
      exact ⟨by rw [HE.out]; rfl, by repeat (first | exact Ext.refl' _ | assumption | apply Ext.ex' | apply Ext.al | apply Ext.drN | apply Ext.dr)⟩


theorem fl_take (p : Int → Bool) (l : List Int) {k : Nat} (h : k < l.length) : (l.take (k + 1)).filter p = (l.take k).filter p ++ if p l[k] then [l[k]] else [] := by
  rw [List.take_succ_eq_append_getElem h, List.filter_append]
  congr 1
  cases hp : p l[k] <;> simp [hp]
set_option maxHeartbeats 4000000 in
theorem put_any (A : Option Addr) (c : Nat) (l : List Int) (n : Int) (w : World) (hr : Rd w 1 A l.length (ic l)) (hl : l.length ≤ 1099511627776) :
    Calls Try.prog 41 #[.slice A l.length c, .int .i64 n] w (RdP 1 (putF l n).length (ic (putF l n)) w) := by
  go_enter Try.func41, Try.ntmps41
  go_wp2
  go_loopw [5, 12] (fun out i wr => ∃ (k : Nat) (zs : List Int) (x : Add), k ≤ l.length ∧ zs.length ≤ k ∧ i = .int .i64 k ∧ Hid (zs = (l.take k).filter fun x => decide (x < n)) ∧ wr = ext w x ∧ Own w x 3 1 out zs.length (ic zs)) (fun _ i _ => l.length - (intOf i).toNat)
  case atStart =>
    obtain ⟨x, hx⟩ := (Ext.refl' w).get
    exact ⟨0, [], x, Nat.zero_le _, Nat.le_refl _, rfl, Lib.hid rfl, hx, own_nil _ _ _ _⟩
  case round =>
    obtain ⟨k, zs, x, hk, hal, rfl, HC, rfl, hown⟩ := hrel
    by_cases hlt : k < l.length
    · obtain ⟨b, o, rfl, hb, hc⟩ := hr.int hlt
      have HT := Lib.hid (fl_take (fun x => decide (x < n)) l hlt)
      generalize l[k] = y at hc HT
      by_cases hy : y < n
      · have HN : Hid (zs ++ [y] = (l.take (k + 1)).filter fun x => decide (x < n)) := Lib.hid (by rw [HC.out, HT.out]; simp [hy])
        clear HT HC
        go_wp2_with (at_builtin; refine wpList_app _ rfl (.tmp 19) (.tmp 21) rfl elInt w (by repeat (first | exact Ext.refl' _ | assumption | apply Ext.ex' | apply Ext.al | apply Ext.drN | apply Ext.dr)) _ _ _ rfl (by repeat (first | exact hown | apply World.ownsRow.alloc | apply own_ext)) _ 1 1 [.int .i64 y] rfl (Rd.lit _ _ _ 1 1 rfl (by simp [size_ext])) (oneCell_ic [y]) (by unfold maxLen; omega) (by omega) ?_; intro v' x' hown' _)
        go_roundw
        case rel => exact ⟨k + 1, zs ++ [y], x', by omega, by simp; omega, by go_num, HN, rfl, by simpa [ic] using hown'⟩
        case measure => simp [intOf]; omega
      · have HN : Hid (zs = (l.take (k + 1)).filter fun x => decide (x < n)) := Lib.hid (by rw [HC.out, HT.out]; simp [hy])
        clear HT HC
        go_wp2
        go_roundw
        case rel => exact ⟨k + 1, zs, x, by omega, by omega, by go_num, HN, rfl, hown⟩
        case measure => simp [intOf]; omega
    · have HN : Hid (zs ++ [n] = (l.filter fun x => decide (x < n)) ++ [n]) := Lib.hid (by rw [HC.out, List.take_of_length_le (Nat.le_of_not_lt hlt)])
      clear HC
      go_wp2_with (at_builtin; refine wpList_app _ rfl (.tmp 24) (.tmp 26) rfl elInt w (by repeat (first | exact Ext.refl' _ | assumption | apply Ext.ex' | apply Ext.al | apply Ext.drN | apply Ext.dr)) _ _ _ rfl (by repeat (first | exact hown | apply World.ownsRow.alloc | apply own_ext)) _ 1 1 [.int .i64 n] rfl (Rd.lit _ _ _ 1 1 rfl (by simp [size_ext])) (oneCell_ic [n]) (by unfold maxLen; omega) (by omega) ?_; intro v' x' hown' _)
      go_loopw [5, 30] (fun out i wr => ∃ (k : Nat) (zs : List Int) (x : Add), k ≤ l.length ∧ zs.length ≤ l.length + 1 + k ∧ i = .int .i64 k ∧ Hid (zs = (l.filter fun x => decide (x < n)) ++ [n] ++ (l.take k).filter fun x => decide (n < x)) ∧ wr = ext w x ∧ Own w x 3 1 out zs.length (ic zs)) (fun _ i _ => l.length - (intOf i).toNat)
      case atStart => exact ⟨0, zs ++ [n], x', Nat.zero_le _, by simp; omega, rfl, Lib.hid (by rw [HN.out]; simp), rfl, by simpa [ic] using hown'⟩
      case round =>
        clear hown hown'
        obtain ⟨k, zs, x, hk, hal, rfl, HC, rfl, hown⟩ := hrel
        by_cases hlt : k < l.length
        · obtain ⟨b, o, rfl, hb, hc⟩ := hr.int hlt
          have HT := Lib.hid (fl_take (fun x => decide (n < x)) l hlt)
          generalize l[k] = y at hc HT
          by_cases hy : n < y
          · have HN : Hid (zs ++ [y] = (l.filter fun x => decide (x < n)) ++ [n] ++ (l.take (k + 1)).filter fun x => decide (n < x)) := Lib.hid (by rw [HC.out, HT.out]; simp [hy])
            clear HT HC
            go_wp2_with (at_builtin; refine wpList_app _ rfl (.tmp 37) (.tmp 39) rfl elInt w (by repeat (first | exact Ext.refl' _ | assumption | apply Ext.ex' | apply Ext.al | apply Ext.drN | apply Ext.dr)) _ _ _ rfl (by repeat (first | exact hown | apply World.ownsRow.alloc | apply own_ext)) _ 1 1 [.int .i64 y] rfl (Rd.lit _ _ _ 1 1 rfl (by simp [size_ext])) (oneCell_ic [y]) (by unfold maxLen; omega) (by omega) ?_; intro v' x' hown' _)
            go_roundw
            case rel => exact ⟨k + 1, zs ++ [y], x', by omega, by simp; omega, by go_num, HN, rfl, by simpa [ic] using hown'⟩
            case measure => simp [intOf]; omega
          · have HN : Hid (zs = (l.filter fun x => decide (x < n)) ++ [n] ++ (l.take (k + 1)).filter fun x => decide (n < x)) := Lib.hid (by rw [HC.out, HT.out]; simp [hy])
            clear HT HC
            go_wp2
            go_roundw
            case rel => exact ⟨k + 1, zs, x, by omega, by omega, by go_num, HN, rfl, hown⟩
            case measure => simp [intOf]; omega
        · have HP : Hid (putF l n = zs) := Lib.hid (by rw [HC.out, List.take_of_length_le (Nat.le_of_not_lt hlt)]; simp [putF])
          go_wp2
          go_ret
          obtain ⟨A', c', rfl, _, _⟩ := Own.form hown
          exact ⟨A', c', by rw [HP.out]; rfl, Ext.ex _ _, by rw [HP.out]; exact Rd.of_own hown⟩

end Go.Proofs.Ytgobmiahhmajdaa
