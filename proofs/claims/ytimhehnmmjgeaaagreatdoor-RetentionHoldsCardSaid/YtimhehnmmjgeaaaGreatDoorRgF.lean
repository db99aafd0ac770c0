/- The contracts of slices.Grow and slices.Concat at rectangles. -/
import Derived.Test.YtimhehnmmjgeaaaGreatDoorRgE
set_option linter.unusedSimpArgs false
set_option linter.unusedVariables false
namespace Go.Proofs.YtimhehnmmjgeaaaGreatDoor
open Go.RowKit


theorem grow_any (n : Nat) (hn : n ≤ 1000000) (w : World) : Calls Tryz.prog 98 #[.slice none 0 0, .int .i64 n] w fun e w' => ∃ v x', e = .returned v ∧ w' = ext w x' ∧ Own w x' 27 4 v 0 [] := by
  rcases Nat.eq_zero_or_pos n with rfl | h0
  · have h := Any8.slices_Grow_room Tryz.laysGrow none 0 0 0 w (by omega) (by omega) (by omega) (by omega)
    change Calls Tryz.prog 98 _ _ _ at h
    refine h.mono ?_
    rintro e w' ⟨rfl, rfl⟩
    obtain ⟨x, hx⟩ := (Ext.refl' w').get
    exact ⟨_, x, rfl, hx, own_nil _ _ _ _⟩
  · obtain ⟨i0, hi, hz, hs, hb⟩ := elRect.hi
    have h := Any8.slices_Grow_grow Tryz.laysGrow i0 _ hi hz (by rw [hs]; decide) none 0 0 n [] w (by omega) (by omega) (by rw [hb]; omega) (by omega) (by simp) (by simp) (by simp)
    change Calls Tryz.prog 98 _ _ _ at h
    refine h.mono ?_
    rintro e w' ⟨rfl, rfl⟩
    have hge := grownCap_ge w (0 + n) 0 27
    have hle := grownCap_le_maxLen w (0 + n) 0 27 (by unfold maxLen; omega)
    obtain ⟨x, hx⟩ := (show Ext w (w.drew.alloc _) from Ext.al (Ext.dr (Ext.refl' w)) _).get
    refine ⟨_, x, rfl, hx, ?_⟩
    unfold Own
    rw [← hx]
    refine World.ownsRow_made (base := w.heap.size) (e := 27) (size := 4) w.drew _ _ (Nat.le_refl _) hle ?_
    simp only [Array.size_append, size_zeroCells]
    simp only [Value.cells, List.size_toArray, List.length_nil, List.length_cons]
    have hge' : 0 + n ≤ grownCap w (0 + n) 0 27 := hge
    show 0 + (0 + n - 0) * 4 + (grownCap w (0 + n) 0 27 - (0 + n)) * 4 = grownCap w (0 + n) 0 27 * 4
    omega
theorem grow_i (N : Int) (n : Nat) (hN : N = n) (hn : n ≤ 1000000) (w : World) : Calls Tryz.prog 98 #[.slice none 0 0, .int .i64 N] w fun e w' => ∃ v x', e = .returned v ∧ w' = ext w x' ∧ Own w x' 27 4 v 0 [] := by
  subst hN; exact grow_any n hn w
set_option maxHeartbeats 1000000 in
theorem concat_any (A B : Option Addr) (ca cb gb : Nat) (a b : List Rct) (w : World) (hA : Rd w 4 A a.length (rcl a)) (hB : Rd w 4 B b.length (rcl b)) (ha : a.length ≤ 50000) (hb : b.length ≤ 50000)
    (hg : gb < w.heap.size) (h0 : w.cell? ⟨gb, 0, none⟩ = some (.slice A a.length ca)) (h1 : w.cell? ⟨gb, 1, none⟩ = some (.slice B b.length cb)) :
    Calls Tryz.prog 88 #[.slice (some ⟨gb, 0, none⟩) 2 2] w (RdP 4 (a ++ b).length (rcl (a ++ b)) w) := by
  go_enter Tryz.func88, Tryz.ntmps88
  go_wp2
  go_loop [3, 11] (fun sz i => (i = .int .i64 0 ∧ sz = .int .i64 0) ∨ (i = .int .i64 1 ∧ sz = .int .i64 a.length) ∨ (i = .int .i64 2 ∧ sz = .int .i64 (a.length + b.length : Nat))) (fun _ i => 2 - (intOf i).toNat)
  case atStart => exact .inl ⟨rfl, rfl⟩
  case round =>
    rcases hrel with ⟨rfl, rfl⟩ | ⟨rfl, rfl⟩ | ⟨rfl, rfl⟩
    · go_wp2
      go_round
      case rel => exact .inr (.inl ⟨rfl, by first | rfl | simp⟩)
      case measure => simp [intOf]
    · go_wp2
      go_round
      case rel => exact .inr (.inr ⟨rfl, by go_num⟩)
      case measure => simp [intOf]
    · have HG := Lib.hid (grow_i ((a.length : Int) + (b.length : Int)) (a.length + b.length) (by simp) (by omega) w)
      have hab : ¬ ((a.length : Int) + (b.length : Int) < 0) := by omega
      go_wp2_with fail
      refine Calls.mono HG.out ?_
      rintro e w1 ⟨v1, x1, rfl, rfl, ho1⟩
      go_wp2
      go_loopw [6, 27] (fun out i wr => ∃ x, wr = ext w x ∧ ((i = .int .i64 0 ∧ Own w x 27 4 out 0 []) ∨ (i = .int .i64 1 ∧ Own w x 27 4 out a.length (rcl a)) ∨ (i = .int .i64 2 ∧ Own w x 27 4 out (a ++ b).length (rcl (a ++ b))))) (fun _ i _ => 2 - (intOf i).toNat)
      case atStart => exact ⟨x1, rfl, .inl ⟨rfl, ho1⟩⟩
      case round =>
        obtain ⟨x, rfl, ⟨rfl, hown⟩ | ⟨rfl, hown⟩ | ⟨rfl, hown⟩⟩ := hrel
        · go_wp2_with (at_builtin; refine wpList_app _ rfl (.tmp 31) (.tmp 32) rfl elRect w (by repeat (first | exact Ext.refl' _ | assumption | apply Ext.ex' | apply Ext.al | apply Ext.drN | apply Ext.dr)) _ _ _ rfl (by exact hown) _ a.length ca (rcl a) rfl (hA.ext (by repeat (first | exact Ext.refl' _ | assumption | apply Ext.ex' | apply Ext.al | apply Ext.drN | apply Ext.dr))) (oneCell_rcl a) (by unfold maxLen; omega) (by omega) ?_; intro v' x' hown' _)
          go_roundw
          case rel => exact ⟨x', rfl, .inr (.inl ⟨rfl, by simpa using hown'⟩)⟩
          case measure => simp [intOf]
        · go_wp2_with (at_builtin; refine wpList_app _ rfl (.tmp 31) (.tmp 32) rfl elRect w (by repeat (first | exact Ext.refl' _ | assumption | apply Ext.ex' | apply Ext.al | apply Ext.drN | apply Ext.dr)) _ _ _ rfl (by exact hown) _ b.length cb (rcl b) rfl (hB.ext (by repeat (first | exact Ext.refl' _ | assumption | apply Ext.ex' | apply Ext.al | apply Ext.drN | apply Ext.dr))) (oneCell_rcl b) (by unfold maxLen; omega) (by omega) ?_; intro v' x' hown' _)
          go_roundw
          case rel => exact ⟨x', rfl, .inr (.inr ⟨rfl, by rw [List.length_append, rcl_append]; exact hown'⟩)⟩
          case measure => simp [intOf]
        · go_wp2
          go_ret
          obtain ⟨A', c', rfl, _, _⟩ := Own.form hown
          exact ⟨A', c', rfl, Ext.ex _ _, Rd.of_own hown⟩

end Go.Proofs.YtimhehnmmjgeaaaGreatDoor
