/- The contracts of Check and Latest, of package clock and of the reference. -/
import Derived.Test.YtfimkjponcnlmaaClkE
set_option linter.unusedSimpArgs false
set_option linter.unusedVariables false
namespace Go.Proofs.Ytfimkjponcnlmaa
open Go.RowKit

/-- what Check answers for the stamps that follow the time last -/
def chk (last : Int) : List (Int × Int) → Int
  | [] => 0
  | (t, x) :: l => if instB x && instB t then (if t ≤ last then 9 else if t = mx (last + 1) x then chk t l else 8) else 6
theorem chk6 {last t x : Int} {l : List (Int × Int)} (h : (instB x && instB t) = false) : chk last ((t, x) :: l) = 6 := by simp [chk, h]
theorem chk9 {last t x : Int} {l : List (Int × Int)} (h : (instB x && instB t) = true) (h1 : t ≤ last) : chk last ((t, x) :: l) = 9 := by simp [chk, h, h1]
theorem chk8 {last t x : Int} {l : List (Int × Int)} (h : (instB x && instB t) = true) (h1 : last < t) (h2 : (t != if last + 1 < x then x else last + 1) = true) : chk last ((t, x) :: l) = 8 := by
  have h3 : ¬ t ≤ last := by omega
  have h4 : ¬ t = mx (last + 1) x := by simpa [mx] using h2
  simp [chk, h, h3, h4]
theorem chk0 {last t x : Int} {l : List (Int × Int)} (h : (instB x && instB t) = true) (h1 : last < t) (h2 : (t != if last + 1 < x then x else last + 1) = false) : chk last ((t, x) :: l) = chk t l := by
  have h3 : ¬ t ≤ last := by omega
  have h4 : t = mx (last + 1) x := by simpa [mx] using h2
  rw [chk, if_pos h, if_neg h3, if_pos h4]

/-- the last stamp up to a time, as a fold -/
def latF (time : Int) : (Int × Int) × Bool → List (Int × Int) → (Int × Int) × Bool
  | s, [] => s
  | s, x :: l => if x.1 ≤ time then latF time (x, true) l else latF time s l
theorem latF_snoc (time : Int) (x : Int × Int) : ∀ (l : List (Int × Int)) (s : (Int × Int) × Bool), latF time s (l ++ [x]) = if x.1 ≤ time then (x, true) else latF time s l
  | [], s => by simp [latF]
  | y :: l, s => by
    simp only [List.cons_append, latF]
    split <;> rw [latF_snoc time x l]


set_option maxHeartbeats 800000 in
theorem ccheck_any (A : Option Addr) (c : Nat) (l : List (Int × Int)) (w : World) (hr : Rd w 2 A l.length (pc l)) (hl : l.length ≤ 9223372036854775807) :
    Calls Try.prog 15 #[.slice A l.length c] w fun e w' => e = .returned (.int .i64 (chk 0 l)) ∧ Ext w w' := by
  go_enter Try.func15, Try.ntmps15
  go_wp2
  go_loopw [3, 8] (fun t i wr => ∃ (k : Nat) (last : Int), k ≤ l.length ∧ i = .int .i64 k ∧ t = .int .i64 last ∧ 0 ≤ last ∧ last < 1099511627776 ∧ Hid (chk 0 l = chk last (l.drop k)) ∧ Ext w wr) (fun _ i _ => l.length - (intOf i).toNat)
  case atStart => exact ⟨0, 0, Nat.zero_le _, rfl, rfl, by omega, by omega, Lib.hid rfl, Ext.refl' _⟩
  case round =>
    obtain ⟨k, last, hk, rfl, rfl, hl0, hl1, HC, hext⟩ := hrel
    obtain ⟨xr, rfl⟩ := hext.get
    clear hext
    by_cases hlt : k < l.length
    · obtain ⟨b, o, rfl, hb, hc1, hc2⟩ := hr.pair rfl hlt
      have hd := Lib.hid (List.drop_eq_getElem_cons hlt)
      generalize hx : l[k] = x at hc1 hc2 hd
      clear hx
      obtain ⟨t, y⟩ := x
      simp only at hc1 hc2
      have hcs : (instB y = false) ∨ (instB y = true ∧ instB t = false ∧ (t < 0 ∨ 1099511627776 ≤ t)) ∨ (instB y && instB t) = true := by
        rcases hy : instB y with _ | _
        · simp
        · rcases ht : instB t with _ | _
          · simp [instB] at ht; simp; omega
          · simp
      rcases hcs with hy | ⟨hy, ht, hto⟩ | hbb
      · have H6 := Lib.hid (chk6 (last := last) (t := t) (x := y) (l := l.drop (k + 1)) (by simp [hy]))
        go_wp2_with (first | (go_at_call 29; refine (cinst_any _ _).mono ?_; rintro e w2 ⟨rfl, rfl⟩))
        go_ret
        exact ⟨by rw [HC.out, hd.out, H6.out]; rfl, by repeat (first | exact Ext.refl' _ | assumption | apply Ext.ex' | apply Ext.al | apply Ext.drN | apply Ext.dr)⟩
      · have H6 := Lib.hid (chk6 (last := last) (t := t) (x := y) (l := l.drop (k + 1)) (by simp [ht]))
        rcases hto with hto | hto
        all_goals go_wp2_with (first | (go_at_call 29; refine (cinst_any _ _).mono ?_; rintro e w2 ⟨rfl, rfl⟩))
        all_goals go_ret
        all_goals exact ⟨by rw [HC.out, hd.out, H6.out]; rfl, by repeat (first | exact Ext.refl' _ | assumption | apply Ext.ex' | apply Ext.al | apply Ext.drN | apply Ext.dr)⟩
      · have hbb' := hbb
        simp only [Bool.and_eq_true] at hbb'
        have hy' := inst_le hbb'.1
        have ht' := inst_le hbb'.2
        have H9 := fun h1 => Lib.hid (chk9 (last := last) (l := l.drop (k + 1)) hbb h1)
        have H8 := fun h1 h2 => Lib.hid (chk8 (last := last) (l := l.drop (k + 1)) hbb h1 h2)
        have H0 := fun h1 h2 => Lib.hid (chk0 (last := last) (l := l.drop (k + 1)) hbb h1 h2)
        obtain ⟨hy, ht⟩ := hbb'
        clear hbb
        go_wp2_with (first | (go_at_call 29; refine (cinst_any _ _).mono ?_; rintro e w2 ⟨rfl, rfl⟩))
        all_goals first
          | (go_ret; exact ⟨by rw [HC.out, hd.out, (H9 (by assumption)).out]; rfl, by repeat (first | exact Ext.refl' _ | assumption | apply Ext.ex' | apply Ext.al | apply Ext.drN | apply Ext.dr)⟩)
          | (go_ret; exact ⟨by rw [HC.out, hd.out, (H8 (by assumption) (by assumption)).out]; rfl, by repeat (first | exact Ext.refl' _ | assumption | apply Ext.ex' | apply Ext.al | apply Ext.drN | apply Ext.dr)⟩)
          | (go_roundw
             case rel => exact ⟨k + 1, t, by omega, by go_num, rfl, by omega, by omega, Lib.hid (by rw [HC.out, hd.out, (H0 (by assumption) (by assumption)).out]), by repeat (first | exact Ext.refl' _ | assumption | apply Ext.ex' | apply Ext.al | apply Ext.drN | apply Ext.dr)⟩
             case measure => simp [intOf]; omega)
    · have hd := Lib.hid (List.drop_eq_nil_of_le (Nat.le_of_not_lt hlt))
      go_wp2
      go_ret
      exact ⟨by rw [HC.out, hd.out]; rfl, by repeat (first | exact Ext.refl' _ | assumption | apply Ext.ex' | apply Ext.al | apply Ext.drN | apply Ext.dr)⟩


set_option maxHeartbeats 800000 in
theorem rcheck_any (A : Option Addr) (c : Nat) (l : List (Int × Int)) (w : World) (hr : Rd w 2 A l.length (pc l)) (hl : l.length ≤ 9223372036854775807) :
    Calls Try.prog 16 #[.slice A l.length c] w fun e w' => e = .returned (.int .i64 (chk 0 l)) ∧ Ext w w' := by
  go_enter Try.func16, Try.ntmps16
  go_wp2
  go_loopw [3, 8] (fun t i wr => ∃ (k : Nat) (last : Int), k ≤ l.length ∧ i = .int .i64 k ∧ t = .int .i64 last ∧ 0 ≤ last ∧ last < 1099511627776 ∧ Hid (chk 0 l = chk last (l.drop k)) ∧ Ext w wr) (fun _ i _ => l.length - (intOf i).toNat)
  case atStart => exact ⟨0, 0, Nat.zero_le _, rfl, rfl, by omega, by omega, Lib.hid rfl, Ext.refl' _⟩
  case round =>
    obtain ⟨k, last, hk, rfl, rfl, hl0, hl1, HC, hext⟩ := hrel
    obtain ⟨xr, rfl⟩ := hext.get
    clear hext
    by_cases hlt : k < l.length
    · obtain ⟨b, o, rfl, hb, hc1, hc2⟩ := hr.pair rfl hlt
      have hd := Lib.hid (List.drop_eq_getElem_cons hlt)
      generalize hx : l[k] = x at hc1 hc2 hd
      clear hx
      obtain ⟨t, y⟩ := x
      simp only at hc1 hc2
      have hcs : (instB y = false) ∨ (instB y = true ∧ instB t = false ∧ (t < 0 ∨ 1099511627776 ≤ t)) ∨ (instB y && instB t) = true := by
        rcases hy : instB y with _ | _
        · simp
        · rcases ht : instB t with _ | _
          · simp [instB] at ht; simp; omega
          · simp
      rcases hcs with hy | ⟨hy, ht, hto⟩ | hbb
      · have H6 := Lib.hid (chk6 (last := last) (t := t) (x := y) (l := l.drop (k + 1)) (by simp [hy]))
        go_wp2_with (first | (go_at_call 31; refine (rinst_any _ _).mono ?_; rintro e w2 ⟨rfl, rfl⟩))
        go_ret
        exact ⟨by rw [HC.out, hd.out, H6.out]; rfl, by repeat (first | exact Ext.refl' _ | assumption | apply Ext.ex' | apply Ext.al | apply Ext.drN | apply Ext.dr)⟩
      · have H6 := Lib.hid (chk6 (last := last) (t := t) (x := y) (l := l.drop (k + 1)) (by simp [ht]))
        rcases hto with hto | hto
        all_goals go_wp2_with (first | (go_at_call 31; refine (rinst_any _ _).mono ?_; rintro e w2 ⟨rfl, rfl⟩))
        all_goals go_ret
        all_goals exact ⟨by rw [HC.out, hd.out, H6.out]; rfl, by repeat (first | exact Ext.refl' _ | assumption | apply Ext.ex' | apply Ext.al | apply Ext.drN | apply Ext.dr)⟩
      · have hbb' := hbb
        simp only [Bool.and_eq_true] at hbb'
        have hy' := inst_le hbb'.1
        have ht' := inst_le hbb'.2
        have H9 := fun h1 => Lib.hid (chk9 (last := last) (l := l.drop (k + 1)) hbb h1)
        have H8 := fun h1 h2 => Lib.hid (chk8 (last := last) (l := l.drop (k + 1)) hbb h1 h2)
        have H0 := fun h1 h2 => Lib.hid (chk0 (last := last) (l := l.drop (k + 1)) hbb h1 h2)
        obtain ⟨hy, ht⟩ := hbb'
        clear hbb
        go_wp2_with (first | (go_at_call 31; refine (rinst_any _ _).mono ?_; rintro e w2 ⟨rfl, rfl⟩))
        all_goals first
          | (go_ret; exact ⟨by rw [HC.out, hd.out, (H9 (by assumption)).out]; rfl, by repeat (first | exact Ext.refl' _ | assumption | apply Ext.ex' | apply Ext.al | apply Ext.drN | apply Ext.dr)⟩)
          | (go_ret; exact ⟨by rw [HC.out, hd.out, (H8 (by assumption) (by assumption)).out]; rfl, by repeat (first | exact Ext.refl' _ | assumption | apply Ext.ex' | apply Ext.al | apply Ext.drN | apply Ext.dr)⟩)
          | (go_roundw
             case rel => exact ⟨k + 1, t, by omega, by go_num, rfl, by omega, by omega, Lib.hid (by rw [HC.out, hd.out, (H0 (by assumption) (by assumption)).out]), by repeat (first | exact Ext.refl' _ | assumption | apply Ext.ex' | apply Ext.al | apply Ext.drN | apply Ext.dr)⟩
             case measure => simp [intOf]; omega)
    · have hd := Lib.hid (List.drop_eq_nil_of_le (Nat.le_of_not_lt hlt))
      go_wp2
      go_ret
      exact ⟨by rw [HC.out, hd.out]; rfl, by repeat (first | exact Ext.refl' _ | assumption | apply Ext.ex' | apply Ext.al | apply Ext.drN | apply Ext.dr)⟩

end Go.Proofs.Ytfimkjponcnlmaa
