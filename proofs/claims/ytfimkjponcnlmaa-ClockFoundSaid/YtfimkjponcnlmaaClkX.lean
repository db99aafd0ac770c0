/- The contract of clock.Shown. -/
import Derived.Test.YtfimkjponcnlmaaClkW
import Derived.Deep.Light
set_option linter.unusedSimpArgs false
set_option linter.unusedVariables false
namespace Go.Proofs.Ytfimkjponcnlmaa
open Go.RowKit

/-- may the clock have shown wall between two stamps -/
def mayB (a b wall : Int) : Bool := (decide (a ≤ wall) && decide (wall ≤ b)) || (decide (b < a) && (decide (a ≤ wall) || decide (wall ≤ b)))
def shF (wall : Int) : Int × Int → List (Int × Int) → List (Int × Int) → List (Int × Int)
  | fr, out, [] => if fr.2 ≤ wall then addF out (fr.1, 1099511627776) else out
  | fr, out, nx :: l => shF wall nx (if mayB fr.2 nx.2 wall then addF out (fr.1, nx.1) else out) l
def shown (l : List (Int × Int)) (wall : Int) : List (Int × Int) := if chk 0 l = 0 ∧ instB wall = true then shF wall (0, 0) [] l else []
theorem addF_length (out : List (Int × Int)) (p : Int × Int) : (addF out p).length ≤ out.length + 1 := by
  unfold addF
  split
  · simp
  · split
    · rcases out with _ | ⟨a, t⟩
      · simp
      · simp
    · simp

set_option maxHeartbeats 2000000 in
theorem cshown_any (A : Option Addr) (c : Nat) (l : List (Int × Int)) (wall : Int) (w : World) (hr : Rd w 2 A l.length (pc l)) (hl : l.length * 16 ≤ 140737488351232) :
    Calls Try.prog 23 #[.slice A l.length c, .int .i64 wall] w fun e w' => ∃ v, e = .returned v ∧ Ext w w' ∧ w'.ownsRow w.heap.size 49 2 v (shown l wall).length (pc (shown l wall)) := by
  by_cases hok : chk 0 l = 0 ∧ instB wall = true
  · have HS : Hid (shown l wall = shF wall (0, 0) [] l) := Lib.hid (if_pos hok)
    obtain ⟨hk0, hi⟩ := hok
    have hkb : (chk 0 l != 0) = false := by simp [hk0]
    clear hk0
    go_enter Try.func23, Try.ntmps23
    go_wp2_with (first
      | (go_at_call 15; refine (ccheck_any _ _ _ _ hr (by omega)).mono ?_; rintro e w1 ⟨rfl, hb1⟩; obtain ⟨x0, rfl⟩ := hb1.get; clear hb1)
      | (go_at_call 29; refine (cinst_any _ _).mono ?_; rintro e w1 ⟨rfl, rfl⟩))
    go_loopw [24] (fun i wr => ∃ (k : Nat) (fr : Int × Int) (out : List (Int × Int)) (v : Value) (x : Add), k ≤ l.length ∧ i = .int .i64 k ∧ out.length ≤ k ∧ Hid (shown l wall = shF wall fr out (l.drop k)) ∧
      wr = ext (((ext w x0).alloc (.cells #[v] 42)).alloc (.cells #[.int .i64 fr.1, .int .i64 fr.2] 34)) x ∧ Own (((ext w x0).alloc (.cells #[v] 42)).alloc (.cells #[.int .i64 fr.1, .int .i64 fr.2] 34)) x 49 2 v out.length (pc out)) (fun i _ => l.length - (intOf i).toNat)
    case atStart =>
      obtain ⟨x, hx⟩ := (Ext.refl' (((ext w x0).alloc (.cells #[.slice none 0 0] 42)).alloc (.cells #[.int .i64 ((0 : Int), (0 : Int)).1, .int .i64 ((0 : Int), (0 : Int)).2] 34))).get
      exact ⟨0, (0, 0), [], _, x, Nat.zero_le _, rfl, by simp, HS, hx, own_nil _ _ _ _⟩
    case round =>
      obtain ⟨k, fr, out, v, x, hk, rfl, hol, HC, rfl, hown⟩ := hrel
      by_cases hlt : k < l.length
      · obtain ⟨b, o, rfl, hb, hc1, hc2⟩ := hr.pair rfl hlt
        have hd := Lib.hid (List.drop_eq_getElem_cons hlt)
        generalize l[k] = nx at hc1 hc2 hd
        have HD : Hid (shown l wall = shF wall nx (if mayB fr.2 nx.2 wall then addF out (fr.1, nx.1) else out) (l.drop (k + 1))) := Lib.hid (by rw [HC.out, hd.out, shF])
        clear HC hd
        obtain ⟨x2, hx2⟩ := (show Ext (((ext w x0).alloc (.cells #[v] 42)).alloc (.cells #[.int .i64 fr.1, .int .i64 fr.2] 34)) ((ext (((ext w x0).alloc (.cells #[v] 42)).alloc (.cells #[.int .i64 fr.1, .int .i64 fr.2] 34)) x).alloc (.cells #[.int .i64 nx.1, .int .i64 nx.2] 34)) from by repeat (first | exact Ext.refl' _ | assumption | apply Ext.ex' | apply Ext.al | apply Ext.drN | apply Ext.dr)).get
        have ho2 : Own (((ext w x0).alloc (.cells #[v] 42)).alloc (.cells #[.int .i64 fr.1, .int .i64 fr.2] 34)) x2 49 2 v out.length (pc out) := Own.of_eq (World.ownsRow.alloc hown _) hx2
        have hx2n : x2.n = x.n + 1 := by
          have := congrArg (fun w => w.heap.size) hx2
          simp [size_ext] at this
          omega
        have HC0 : Hid ((ext (((ext w x0).alloc (.cells #[v] 42)).alloc (.cells #[.int .i64 fr.1, .int .i64 fr.2] 34)) x2).cell? ⟨w.heap.size + x0.n + 1 + 1 + x.n, 0, none⟩ = some (.int .i64 nx.1)) := Lib.hid (by rw [← hx2, World.cell?_alloc_at _ _ _ _ (by simp [size_ext])]; rfl)
        have HC1 : Hid ((ext (((ext w x0).alloc (.cells #[v] 42)).alloc (.cells #[.int .i64 fr.1, .int .i64 fr.2] 34)) x2).cell? ⟨w.heap.size + x0.n + 1 + 1 + x.n, 1, none⟩ = some (.int .i64 nx.2)) := Lib.hid (by rw [← hx2, World.cell?_alloc_at _ _ _ _ (by simp [size_ext])]; rfl)
        have hn0 : (extR (((ext w x0).alloc (.cells #[v] 42)).alloc (.cells #[.int .i64 fr.1, .int .i64 fr.2] 34)) x2).cell? ⟨w.heap.size + x0.n + 1 + 1 + x.n, 0, none⟩ = some (.int .i64 nx.1) := HC0.out
        have hn1 : (extR (((ext w x0).alloc (.cells #[v] 42)).alloc (.cells #[.int .i64 fr.1, .int .i64 fr.2] 34)) x2).cell? ⟨w.heap.size + x0.n + 1 + 1 + x.n, 1, none⟩ = some (.int .i64 nx.2) := HC1.out
        have HB2 : Hid (out.length * 16 ≤ 140737488351232) := Lib.hid (by omega)
        have HK : Hid ((ext w x0).heap.size + 2 ≤ w.heap.size + x0.n + 1 + 1 + x.n) := Lib.hid (by rw [size_ext]; omega)
        have HN : Hid ((((ext w x0).alloc (.cells #[v] 42)).alloc (.cells #[.int .i64 fr.1, .int .i64 fr.2] 34)).heap.size + x.n ≤ w.heap.size + x0.n + 1 + 1 + x.n) := Lib.hid (by simp [size_ext])
        have HOL := addF_length out (fr.1, nx.1)
        rcases (show (fr.2 ≤ wall ∧ wall ≤ nx.2 ∧ ¬ nx.2 < fr.2) ∨ (fr.2 ≤ wall ∧ ¬ wall ≤ nx.2 ∧ nx.2 < fr.2) ∨ (¬ fr.2 ≤ wall ∧ wall ≤ nx.2 ∧ nx.2 < fr.2) ∨ (fr.2 ≤ wall ∧ ¬ wall ≤ nx.2 ∧ ¬ nx.2 < fr.2) ∨ (¬ fr.2 ≤ wall ∧ wall ≤ nx.2 ∧ ¬ nx.2 < fr.2) ∨ (¬ fr.2 ≤ wall ∧ ¬ wall ≤ nx.2 ∧ nx.2 < fr.2) from by omega) with ⟨h1, h2, h3⟩ | ⟨h1, h2, h3⟩ | ⟨h1, h2, h3⟩ | ⟨h1, h2, h3⟩ | ⟨h1, h2, h3⟩ | ⟨h1, h2, h3⟩
        iterate 3
          · have H1 : Hid (shown l wall = shF wall nx (addF out (fr.1, nx.1)) (l.drop (k + 1))) := Lib.hid (by rw [HD.out, if_pos (by simp [mayB, h1, h2, h3])])
            clear HD
            go_wp2_with (go_at_call 32; (refine (add_at _ (ext w x0) (size_ext w x0) _ _ _ _ (fr.1, nx.1) ho2 HB2.out).mono ?_; rintro e w1 ⟨rfl, v2, x3, rfl, ho3, hk⟩; have hm0 := hk _ _ _ HK.out (own_ne hown HN.out) HC0.out; have hm1 := hk _ _ _ HK.out (own_ne hown HN.out) HC1.out; have HO3 := Lib.hid ho3; clear ho3 hk))
            go_roundw
            case rel =>
              go_light
              exact ⟨k + 1, nx, _, v2, x3, by omega, by go_num, by omega, H1, by simp, own_base HO3.out (by simp)⟩
            case measure => go_light; simp [intOf]; omega
        iterate 3
          · have H1 : Hid (shown l wall = shF wall nx out (l.drop (k + 1))) := Lib.hid (by rw [HD.out, if_neg (by simp [mayB, h1, h2, h3])])
            clear HD
            go_wp2
            go_roundw
            case rel =>
              go_light
              exact ⟨k + 1, nx, out, v, x2, by omega, by go_num, by omega, H1, by simp, own_base ho2 (by simp)⟩
            case measure => go_light; simp [intOf]; omega
      · have H0 : Hid (shown l wall = if fr.2 ≤ wall then addF out (fr.1, 1099511627776) else out) := Lib.hid (by rw [HC.out, List.drop_eq_nil_of_le (Nat.le_of_not_lt hlt), shF])
        clear HC
        have HB2 : Hid (out.length * 16 ≤ 140737488351232) := Lib.hid (by omega)
        by_cases h1 : fr.2 ≤ wall
        · have H1 : Hid (shown l wall = addF out (fr.1, 1099511627776)) := Lib.hid (by rw [H0.out, if_pos h1])
          clear H0
          go_wp2_with (go_at_call 32; (refine (add_at _ (ext w x0) (size_ext w x0) _ _ _ _ (fr.1, 1099511627776) hown HB2.out).mono ?_; rintro e w1 ⟨rfl, v2, x3, rfl, ho3, hk⟩; obtain ⟨A2, c2, rfl, hd1, hd2⟩ := ho3.form; have HO3 := Lib.hid ho3; clear ho3 hk))
          go_ret
          exact ⟨_, rfl, by repeat (first | exact Ext.refl' _ | assumption | apply Ext.ex' | apply Ext.al | apply Ext.drN | apply Ext.dr), by rw [H1.out]; exact own_mono HO3.out (by simp [size_ext]; omega)⟩
        · have H1 : Hid (shown l wall = out) := Lib.hid (by rw [H0.out, if_neg h1])
          clear H0
          obtain ⟨A2, c2, rfl, hd1, hd2⟩ := hown.form
          go_wp2
          go_ret
          exact ⟨_, rfl, by repeat (first | exact Ext.refl' _ | assumption | apply Ext.ex' | apply Ext.al | apply Ext.drN | apply Ext.dr), by rw [H1.out]; exact own_mono hown (by simp [size_ext]; omega)⟩
  · have HS : Hid (shown l wall = []) := Lib.hid (if_neg hok)
    have hcs : (chk 0 l != 0) = true ∨ ((chk 0 l != 0) = false ∧ instB wall = false) := by
      rcases Decidable.em (chk 0 l = 0) with h | h
      · right; simp [h] at hok; simp [h, hok]
      · left; simp [h]
    clear hok
    rcases hcs with h | ⟨h, h'⟩
    all_goals
      go_enter Try.func23, Try.ntmps23
      go_wp2_with (first
        | (go_at_call 15; refine (ccheck_any _ _ _ _ hr (by omega)).mono ?_; rintro e w1 ⟨rfl, hb1⟩; obtain ⟨x0, rfl⟩ := hb1.get; clear hb1)
        | (go_at_call 29; refine (cinst_any _ _).mono ?_; rintro e w1 ⟨rfl, rfl⟩))
      go_ret
      exact ⟨_, rfl, by repeat (first | exact Ext.refl' _ | assumption | apply Ext.ex' | apply Ext.al | apply Ext.drN | apply Ext.dr), by rw [HS.out]; exact World.ownsRow_nil _ _ _ _⟩
end Go.Proofs.Ytfimkjponcnlmaa
