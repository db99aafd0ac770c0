/- The contracts of the small functions of regions, of the program and of the reference. -/
import Derived.Test.YtimhehnmmjgeaaaGreatDoorSpF
import Derived.Test.YtimhehnmmjgeaaaGreatDoorRgP
import Derived.Deep.RegionHeld3
set_option linter.unusedSimpArgs false
set_option linter.unusedVariables false
namespace Go.Proofs.YtimhehnmmjgeaaaGreatDoor
open Go.RowKit


/-- a row that can be read, in a block that the call made -/
def RdN (sz n : Nat) (xs : List Value) (w : World) (e : Ending) (w' : World) : Prop := ∃ A c, e = .returned (.slice A n c) ∧ Ext w w' ∧ Rd w' sz A n xs ∧ ∀ a, A = some a → 0 < n → w.heap.size ≤ a.block
theorem RdN.rd {sz n : Nat} {xs : List Value} {w : World} {e : Ending} {w' : World} (h : RdN sz n xs w e w') : RdP sz n xs w e w' := by
  obtain ⟨A, c, h1, h2, h3, _⟩ := h
  exact ⟨A, c, h1, h2, h3⟩
abbrev rr (r : Rct) : Value := .agg #[.int .i64 r.1.1, .int .i64 r.1.2, .int .i64 r.2.1, .int .i64 r.2.2]
def rcl (l : List Rct) : List Value := l.flatMap fun r => [.int .i64 r.1.1, .int .i64 r.1.2, .int .i64 r.2.1, .int .i64 r.2.2]
theorem rcl_length (l : List Rct) : (rcl l).length = l.length * 4 := flatMap_len _ 4 (fun _ => rfl) l
theorem rcl_append (a b : List Rct) : rcl (a ++ b) = rcl a ++ rcl b := by simp [rcl]
theorem rcl_get (l : List Rct) (k : Nat) (h : k < l.length) : (rcl l)[k * 4]? = some (.int .i64 l[k].1.1) ∧ (rcl l)[k * 4 + 1]? = some (.int .i64 l[k].1.2) ∧ (rcl l)[k * 4 + 2]? = some (.int .i64 l[k].2.1) ∧ (rcl l)[k * 4 + 3]? = some (.int .i64 l[k].2.2) := by
  have f := fun j hj => flatMap_get (fun r : Rct => [Value.int .i64 r.1.1, .int .i64 r.1.2, .int .i64 r.2.1, .int .i64 r.2.2]) 4 (fun _ => rfl) l k j h hj
  exact ⟨f 0 (by omega), f 1 (by omega), f 2 (by omega), f 3 (by omega)⟩
theorem oneCell_rcl (l : List Rct) : ∀ u ∈ rcl l, u.oneCell' = true := by
  intro u hu
  unfold rcl at hu
  obtain ⟨r, _, h⟩ := List.mem_flatMap.1 hu
  simp at h
  rcases h with rfl | rfl | rfl | rfl <;> rfl
theorem Rd.rect {w : World} {A : Option Addr} {l : List Rct} (h : Rd w 4 A l.length (rcl l)) {k : Nat} (hk : k < l.length) :
    ∃ b o, A = some ⟨b, o, none⟩ ∧ b < w.heap.size ∧ w.cell? ⟨b, o + k * 4, none⟩ = some (.int .i64 l[k].1.1) ∧ w.cell? ⟨b, o + k * 4 + 1, none⟩ = some (.int .i64 l[k].1.2) ∧ w.cell? ⟨b, o + k * 4 + 2, none⟩ = some (.int .i64 l[k].2.1) ∧ w.cell? ⟨b, o + k * 4 + 3, none⟩ = some (.int .i64 l[k].2.2) := by
  obtain ⟨b, o, hA, hb, hc⟩ := h.2 (by omega)
  obtain ⟨h1, h2, h3, h4⟩ := rcl_get l k hk
  exact ⟨b, o, hA, hb, hc _ _ h1, hc _ _ h2, hc _ _ h3, hc _ _ h4⟩
theorem elRect : El Tryz.prog 35 27 (.agg #[.int .i64 0, .int .i64 0, .int .i64 0, .int .i64 0]) 4 32 := ⟨Tryz.underlying35, info_parts (by kernel_rfl), rfl, by decide⟩


set_option maxHeartbeats 400000 in
theorem gvalid_any (r : Rct) (w : World) : Calls Tryz.prog 89 #[rr r] w fun e w' => e = .returned (.bool (rvB r)) ∧ Ext w w' := by
  have H1 := Lib.hid (fun w => pvalid_any r.1 w)
  have H2 := Lib.hid (fun w => pvalid_any r.2 w)
  have HR : Hid (rvB r = (pvB r.1 && pvB r.2)) := Lib.hid rfl
  rcases h1 : pvB r.1 with _ | _
  · rw [h1] at H1 HR
    go_enter Tryz.func89, Tryz.ntmps89
    go_wp2_with (go_at_call 27; refine Calls.mono (H1.out _) ?_; rintro e w1 ⟨rfl, hb1⟩; obtain ⟨x1, rfl⟩ := hb1.get; clear hb1)
    go_ret
    exact ⟨by rw [HR.out]; rfl, by repeat (first | exact Ext.refl' _ | assumption | apply Ext.ex' | apply Ext.al | apply Ext.drN | apply Ext.dr)⟩
  · rw [h1] at H1 HR
    generalize pvB r.2 = v2 at H2 HR
    go_enter Tryz.func89, Tryz.ntmps89
    go_wp2_with fail
    refine Calls.mono (H1.out _) ?_
    rintro e w1 ⟨rfl, hb1⟩
    obtain ⟨x1, rfl⟩ := hb1.get
    clear hb1
    go_wp2_with fail
    refine Calls.mono (H2.out _) ?_
    rintro e w1 ⟨rfl, hb1⟩
    obtain ⟨x2, rfl⟩ := hb1.get
    clear hb1
    go_wp2
    go_ret
    exact ⟨by rw [HR.out]; rfl, by repeat (first | exact Ext.refl' _ | assumption | apply Ext.ex' | apply Ext.al | apply Ext.drN | apply Ext.dr)⟩


def slB (t : Int) (r : Rct) : Bool := rvB r && (decide (r.2.1 ≤ t) && decide (t < r.2.2))
def scB (v : Int) (r : Rct) : Bool := rvB r && (decide (r.1.1 ≤ v) && decide (v < r.1.2))
theorem sliR_cons (t : Int) (r : Rct) (l : List Rct) : sliR (r :: l) t = (if slB t r then [r.1] else []) ++ sliR l t := by
  unfold sliR slB; rw [List.filter_cons]; split <;> simp
theorem secR_cons (t : Int) (r : Rct) (l : List Rct) : secR (r :: l) t = (if scB t r then [r.2] else []) ++ secR l t := by
  unfold secR scB; rw [List.filter_cons]; split <;> simp
theorem sysR_cons (r : Rct) (l : List Rct) : sysR (r :: l) = (if rvB r then [r.2] else []) ++ sysR l := by
  unfold sysR; rw [List.filter_cons]; split <;> simp
theorem sliR_length (l : List Rct) (t : Int) : (sliR l t).length ≤ l.length := by unfold sliR; rw [List.length_map]; exact List.length_filter_le _ _
theorem secR_length (l : List Rct) (t : Int) : (secR l t).length ≤ l.length := by unfold secR; rw [List.length_map]; exact List.length_filter_le _ _
theorem sysR_length (l : List Rct) : (sysR l).length ≤ l.length := by unfold sysR; rw [List.length_map]; exact List.length_filter_le _ _
theorem slB_inP (t : Int) (r : Rct) : slB t r = (rvB r && inP r.2 t) := by
  unfold slB rvB inP; cases pvB r.1 <;> cases pvB r.2 <;> simp
theorem scB_inP (t : Int) (r : Rct) : scB t r = (rvB r && inP r.1 t) := by
  unfold scB rvB inP; cases pvB r.1 <;> cases pvB r.2 <;> simp


set_option maxHeartbeats 2000000 in
theorem gslice_any (A : Option Addr) (c : Nat) (l : List Rct) (t : Int) (w : World) (hA : Rd w 4 A l.length (rcl l)) (hl : l.length ≤ 549755813888) :
    Calls Tryz.prog 74 #[.slice A l.length c, .int .i64 t] w (RdP 2 (sliR l t).length (pc (sliR l t)) w) := by
  go_enter Tryz.func74, Tryz.ntmps74
  go_wp2
  go_loopw [5, 10] (fun out i wr => ∃ (k : Nat) (acc : List (Int × Int)) (x : Add), k ≤ l.length ∧ acc.length ≤ k ∧ i = .int .i64 k ∧ Hid (sliR l t = acc ++ sliR (l.drop k) t) ∧ wr = ext w x ∧ Own w x 25 2 out acc.length (pc acc)) (fun _ i _ => l.length - (intOf i).toNat)
  case atStart =>
    obtain ⟨x, hx⟩ := (Ext.refl' w).get
    exact ⟨0, [], x, by omega, by simp, rfl, Lib.hid (by simp), hx, own_nil _ _ _ _⟩
  case round =>
    obtain ⟨k, acc, x, hk, hal, rfl, HC, rfl, hown⟩ := hrel
    by_cases hlt : k < l.length
    · obtain ⟨b, o, rfl, hb, hc1, hc2, hc3, hc4⟩ := hA.rect hlt
      have HD : Hid (sliR l t = acc ++ ((if slB t l[k] then [l[k].1] else []) ++ sliR (l.drop (k + 1)) t)) := Lib.hid (by rw [HC.out, List.drop_eq_getElem_cons hlt, sliR_cons])
      generalize l[k] = r at hc1 hc2 hc3 hc4 HD
      clear HC
      rcases (show (rvB r = false ∧ Hid (slB t r = false)) ∨ (rvB r = true ∧ t < r.2.1 ∧ Hid (slB t r = false)) ∨ (rvB r = true ∧ r.2.1 ≤ t ∧ r.2.2 ≤ t ∧ Hid (slB t r = false)) ∨ (rvB r = true ∧ r.2.1 ≤ t ∧ t < r.2.2 ∧ Hid (slB t r = true)) from by
        rcases hv : rvB r with _ | _
        · left; exact ⟨rfl, Lib.hid (by simp [slB, hv])⟩
        · right
          by_cases h1 : t < r.2.1
          · left; exact ⟨rfl, h1, Lib.hid (by simp [slB, hv]; omega)⟩
          · right
            by_cases h2 : r.2.2 ≤ t
            · left; exact ⟨rfl, by omega, h2, Lib.hid (by simp [slB, hv]; omega)⟩
            · right; exact ⟨rfl, by omega, by omega, Lib.hid (by simp [slB, hv]; omega)⟩) with ⟨hv, HI⟩ | ⟨hv, h1, HI⟩ | ⟨hv, h1, h2, HI⟩ | ⟨hv, h1, h2, HI⟩
      iterate 3
        · have HE : Hid (sliR l t = acc ++ sliR (l.drop (k + 1)) t) := Lib.hid (by rw [HD.out, HI.out]; rfl)
          clear HD HI
          go_wp2_with (go_at_call 89; refine (gvalid_any r _).mono ?_; rintro e w1 ⟨rfl, hb1⟩; obtain ⟨x1, rfl⟩ := hb1.get; clear hb1)
          go_roundw
          case rel => exact rel_same hown (by repeat (first | exact Ext.refl' _ | assumption | apply Ext.ex' | apply Ext.al | apply Ext.drN | apply Ext.dr)) fun x' hx' ho' => ⟨k + 1, acc, x', by omega, by omega, by go_num, HE, hx', ho'⟩
          case measure => simp [intOf]; omega
      · have HE : Hid (sliR l t = acc ++ [r.1] ++ sliR (l.drop (k + 1)) t) := Lib.hid (by rw [HD.out, HI.out]; simp)
        clear HD HI
        go_wp2_with (first | (go_at_call 89; refine (gvalid_any r _).mono ?_; rintro e w1 ⟨rfl, hb1⟩; obtain ⟨x1, rfl⟩ := hb1.get; clear hb1) | (at_builtin; refine wpList_app _ rfl (.tmp 30) (.tmp 33) rfl elPeriod w (by repeat (first | exact Ext.refl' _ | assumption | apply Ext.ex' | apply Ext.al | apply Ext.drN | apply Ext.dr)) _ _ _ rfl (World.ownsRow.alloc (own_ext (World.ownsRow.alloc (by exact hown) _) x1) _) _ 1 1 [.int .i64 r.1.1, .int .i64 r.1.2] rfl (Rd.lit _ _ _ 1 2 rfl (by simp [size_ext])) (oneCell_pc [r.1]) (by unfold maxLen; omega) (by omega) ?_; intro v' x' hown' _))
        go_roundw
        case rel => exact ⟨k + 1, acc ++ [r.1], x', by omega, by simp; omega, by go_num, HE, rfl, by simpa [pc] using hown'⟩
        case measure => simp [intOf]; omega
    · have H0 : Hid (sliR l t = acc) := Lib.hid (by rw [HC.out, List.drop_eq_nil_of_le (Nat.le_of_not_lt hlt)]; simp [sliR])
      go_wp2
      go_ret
      obtain ⟨A', c', rfl, _, _⟩ := Own.form hown
      exact ⟨A', c', by rw [H0.out]; rfl, Ext.ex _ _, by rw [H0.out]; exact Rd.of_own hown⟩


end Go.Proofs.YtimhehnmmjgeaaaGreatDoor
