/- The contracts of Replay, of package clock and of the reference. -/
import Derived.Test.YtfimkjponcnlmaaClkS
set_option linter.unusedSimpArgs false
set_option linter.unusedVariables false
namespace Go.Proofs.Ytfimkjponcnlmaa
open Go.RowKit

def rpl (c : Int × Int) (acc : List (Int × Int)) : List Int → List (Int × Int) × Int
  | [] => (acc, 0)
  | x :: r => if (nextF c x).2.2 = 0 then rpl (nextF c x).1 (acc ++ [((nextF c x).2.1, x)]) r else ([], (nextF c x).2.2)
theorem next_ok {c : Int × Int} {x : Int} (h : (nextF c x).2.2 = 0) : cvB (nextF c x).1 = true ∧ c.1 + 1 ≤ (nextF c x).1.1 ∧ (nextF c x).1.1 < 1099511627776 := by
  unfold nextF at *
  split at h
  · simp at h
  · rename_i hc
    rw [if_neg hc]
    split at h
    · simp at h
    · rename_i hi
      rw [if_neg hi]
      split at h
      · simp at h
      · rename_i hm
        rw [if_neg hm]
        have h1 := cv_le (by simpa using hc)
        have h2 := inst_le (by simpa using hi)
        simp only [mx, cvB] at *
        split <;> simp [*] at * <;> omega


set_option maxHeartbeats 1000000 in
theorem creplay_any (A : Option Addr) (c : Nat) (l : List Int) (w : World) (hr : Rd w 1 A l.length (ic l)) (hl : l.length * 8 ≤ 140737488351232) :
    Calls Try.prog 25 #[.slice A l.length c] w fun e w' => ∃ v, e = .returned (.tuple #[v, .int .i64 (rpl (0, 0) [] l).2]) ∧ Ext w w' ∧ w'.ownsRow w.heap.size 34 2 v (rpl (0, 0) [] l).1.length (pc (rpl (0, 0) [] l).1) := by
  go_enter Try.func25, Try.ntmps25
  go_wp2_with (at_make; refine wpList_mk _ rfl _ _ rfl elStamp (w.alloc (.cells #[.int .i64 0, .int .i64 0] 23)) (by repeat (first | exact Ext.refl' _ | assumption | apply Ext.ex' | apply Ext.al | apply Ext.drN | apply Ext.dr)) .i64 .i64 _ l.length rfl rfl rfl (by omega) (by unfold maxLen; omega) ?_; intro x0 hown0)
  go_loopw [5, 16] (fun out i wr => ∃ (k : Nat) (c : Int × Int) (acc : List (Int × Int)) (x : Add), k ≤ l.length ∧ i = .int .i64 k ∧ cvB c = true ∧ (acc.length : Int) ≤ c.1 ∧ Hid (rpl (0, 0) [] l = rpl c acc (l.drop k)) ∧
    wr = ext (w.alloc (.cells #[.int .i64 c.1, .int .i64 c.2] 23)) x ∧ Own (w.alloc (.cells #[.int .i64 c.1, .int .i64 c.2] 23)) x 34 2 out acc.length (pc acc)) (fun _ i _ => l.length - (intOf i).toNat)
  case atStart =>
    exact ⟨0, (0, 0), [], x0, Nat.zero_le _, rfl, by simp [cvB], by simp, Lib.hid rfl, rfl, by simpa [pc] using hown0⟩
  case round =>
    obtain ⟨k, c, acc, x, hk, rfl, hcv, hal, HC, rfl, hown⟩ := hrel
    have hcl := cv_le hcv
    by_cases hlt : k < l.length
    · obtain ⟨b, o, rfl, hb, hc⟩ := hr.int hlt
      have hd := Lib.hid (List.drop_eq_getElem_cons hlt)
      generalize l[k] = y at hc hd
      have HN := Lib.hid (fun w => cnext_any c y w)
      by_cases hz : (nextF c y).2.2 = 0
      · have hnx := next_ok hz
        have H0 : Hid (rpl (0, 0) [] l = rpl (nextF c y).1 (acc ++ [((nextF c y).2.1, y)]) (l.drop (k + 1))) := Lib.hid (by rw [HC.out, hd.out, rpl, if_pos hz])
        have hzb : ((nextF c y).2.2 != 0) = false := by simp [hz]
        clear HC hd hz
        generalize nextF c y = nx at hnx H0 hzb HN
        obtain ⟨hn1, hn2, hn3⟩ := hnx
        go_wp2_with (first
          | (go_at_call 10; refine (HN.out _).mono ?_; rintro e w1 ⟨rfl, hb1⟩; obtain ⟨x1, rfl⟩ := hb1.get; clear hb1)
          | (at_builtin; refine wpList_app _ rfl (.tmp 30) (.tmp 34) rfl elStamp (w.alloc (.cells #[.int .i64 c.1, .int .i64 c.2] 23)) (by repeat (first | exact Ext.refl' _ | assumption | apply Ext.ex' | apply Ext.al | apply Ext.drN | apply Ext.dr)) _ _ _ rfl (by repeat (first | exact hown | exact own_base hown (by simp) | apply World.ownsRow.alloc | apply own_ext | exact World.ownsRow.drew ‹_›)) _ 1 1 [.int .i64 nx.2.1, .int .i64 y] rfl (Rd.lit _ _ _ 1 2 rfl (by simp [size_ext])) (oneCell_pc [(nx.2.1, y)]) (by unfold maxLen; omega) (by omega) ?_; intro v' x' hown' hg; have hq0 := grown_cell hg (g := w.heap.size + 1 + x.n + x1.n) (o := 0) (v := .int .i64 nx.1.1) (by simp [go_sem, ↓IntWalk.iteOmega]) (own_ne hown (by (try simp); (try omega))); have hq1 := grown_cell hg (g := w.heap.size + 1 + x.n + x1.n) (o := 1) (v := .int .i64 nx.1.2) (by simp [go_sem, ↓IntWalk.iteOmega]) (own_ne hown (by (try simp); (try omega))); clear hown hg))
        go_roundw
        case rel => exact ⟨k + 1, nx.1, acc ++ [(nx.2.1, y)], x', by omega, by go_num, hn1, by simp; omega, H0, by simp, by simpa [pc] using own_base hown' (by simp)⟩
        case measure => simp [intOf]; omega
      · have H0 : Hid (rpl (0, 0) [] l = ([], (nextF c y).2.2)) := Lib.hid (by rw [HC.out, hd.out, rpl, if_neg hz])
        have hzb : ((nextF c y).2.2 != 0) = true := by simp [hz]
        clear HC hd hz
        generalize nextF c y = nx at H0 hzb HN
        go_wp2_with (go_at_call 10; refine (HN.out _).mono ?_; rintro e w1 ⟨rfl, hb1⟩; obtain ⟨x1, rfl⟩ := hb1.get; clear hb1)
        go_ret2
        exact ⟨.slice none 0 0, by rw [H0.out]; rfl, by repeat (first | exact Ext.refl' _ | assumption | apply Ext.ex' | apply Ext.al | apply Ext.drN | apply Ext.dr), by rw [H0.out]; exact World.ownsRow_nil _ _ _ _⟩
    · have H0 : Hid (rpl (0, 0) [] l = (acc, 0)) := Lib.hid (by rw [HC.out, List.drop_eq_nil_of_le (Nat.le_of_not_lt hlt)]; rfl)
      clear HC
      go_wp2
      go_ret2
      exact ⟨_, by rw [H0.out]; rfl, by repeat (first | exact Ext.refl' _ | assumption | apply Ext.ex' | apply Ext.al | apply Ext.drN | apply Ext.dr), by rw [H0.out]; exact own_mono hown (by simp)⟩


set_option maxHeartbeats 1000000 in
theorem rreplay_any (A : Option Addr) (c : Nat) (l : List Int) (w : World) (hr : Rd w 1 A l.length (ic l)) (hl : l.length * 8 ≤ 140737488351232) :
    Calls Try.prog 26 #[.slice A l.length c] w fun e w' => ∃ v, e = .returned (.tuple #[v, .int .i64 (rpl (0, 0) [] l).2]) ∧ Ext w w' ∧ w'.ownsRow w.heap.size 34 2 v (rpl (0, 0) [] l).1.length (pc (rpl (0, 0) [] l).1) := by
  go_enter Try.func26, Try.ntmps26
  go_wp2
  go_loopw [4, 14] (fun out i wr => ∃ (k : Nat) (c : Int × Int) (acc : List (Int × Int)) (x : Add), k ≤ l.length ∧ i = .int .i64 k ∧ cvB c = true ∧ (acc.length : Int) ≤ c.1 ∧ Hid (rpl (0, 0) [] l = rpl c acc (l.drop k)) ∧
    wr = ext (w.alloc (.cells #[.int .i64 c.1, .int .i64 c.2] 23)) x ∧ Own (w.alloc (.cells #[.int .i64 c.1, .int .i64 c.2] 23)) x 34 2 out acc.length (pc acc)) (fun _ i _ => l.length - (intOf i).toNat)
  case atStart =>
    obtain ⟨x0, hx0⟩ := (Ext.refl' (w.alloc (.cells #[.int .i64 0, .int .i64 0] 23))).get
    exact ⟨0, (0, 0), [], x0, Nat.zero_le _, rfl, by simp [cvB], by simp, Lib.hid rfl, hx0, own_nil _ _ _ _⟩
  case round =>
    obtain ⟨k, c, acc, x, hk, rfl, hcv, hal, HC, rfl, hown⟩ := hrel
    have hcl := cv_le hcv
    by_cases hlt : k < l.length
    · obtain ⟨b, o, rfl, hb, hc⟩ := hr.int hlt
      have hd := Lib.hid (List.drop_eq_getElem_cons hlt)
      generalize l[k] = y at hc hd
      have HN := Lib.hid (fun w => rnext_any c y w)
      by_cases hz : (nextF c y).2.2 = 0
      · have hnx := next_ok hz
        have H0 : Hid (rpl (0, 0) [] l = rpl (nextF c y).1 (acc ++ [((nextF c y).2.1, y)]) (l.drop (k + 1))) := Lib.hid (by rw [HC.out, hd.out, rpl, if_pos hz])
        have hzb : ((nextF c y).2.2 != 0) = false := by simp [hz]
        clear HC hd hz
        generalize nextF c y = nx at hnx H0 hzb HN
        obtain ⟨hn1, hn2, hn3⟩ := hnx
        go_wp2_with (first
          | (go_at_call 11; refine (HN.out _).mono ?_; rintro e w1 ⟨rfl, hb1⟩; obtain ⟨x1, rfl⟩ := hb1.get; clear hb1)
          | (at_builtin; refine wpList_app _ rfl (.tmp 29) (.tmp 33) rfl elStamp (w.alloc (.cells #[.int .i64 nx.1.1, .int .i64 nx.1.2] 23)) (by repeat (first | exact Ext.refl' _ | assumption | apply Ext.ex' | apply Ext.al | apply Ext.drN | apply Ext.dr)) _ _ _ rfl (by repeat (first | exact hown | exact own_base hown (by simp) | apply World.ownsRow.alloc | apply own_ext | exact World.ownsRow.drew ‹_›)) _ 1 1 [.int .i64 nx.2.1, .int .i64 y] rfl (Rd.lit _ _ _ 1 2 rfl (by simp [size_ext])) (oneCell_pc [(nx.2.1, y)]) (by unfold maxLen; omega) (by omega) ?_; intro v' x' hown' hg; clear hown hg))
        go_roundw
        case rel => exact ⟨k + 1, nx.1, acc ++ [(nx.2.1, y)], x', by omega, by go_num, hn1, by simp; omega, H0, by simp, by simpa [pc] using hown'⟩
        case measure => simp [intOf]; omega
      · have H0 : Hid (rpl (0, 0) [] l = ([], (nextF c y).2.2)) := Lib.hid (by rw [HC.out, hd.out, rpl, if_neg hz])
        have hzb : ((nextF c y).2.2 != 0) = true := by simp [hz]
        clear HC hd hz
        generalize nextF c y = nx at H0 hzb HN
        go_wp2_with (go_at_call 11; refine (HN.out _).mono ?_; rintro e w1 ⟨rfl, hb1⟩; obtain ⟨x1, rfl⟩ := hb1.get; clear hb1)
        go_ret2
        exact ⟨.slice none 0 0, by rw [H0.out]; rfl, by repeat (first | exact Ext.refl' _ | assumption | apply Ext.ex' | apply Ext.al | apply Ext.drN | apply Ext.dr), by rw [H0.out]; exact World.ownsRow_nil _ _ _ _⟩
    · have H0 : Hid (rpl (0, 0) [] l = (acc, 0)) := Lib.hid (by rw [HC.out, List.drop_eq_nil_of_le (Nat.le_of_not_lt hlt)]; rfl)
      clear HC
      go_wp2
      go_ret2
      exact ⟨_, by rw [H0.out]; rfl, by repeat (first | exact Ext.refl' _ | assumption | apply Ext.ex' | apply Ext.al | apply Ext.drN | apply Ext.dr), by rw [H0.out]; exact own_mono hown (by simp)⟩

end Go.Proofs.Ytfimkjponcnlmaa
