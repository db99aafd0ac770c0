/- The contracts of the reference of chapter 3: Insert, Points, Slices. -/
import Derived.Test.YtccndjnaakmlkaaGreatSpA
import Derived.Deep.RegionHeld3
set_option linter.unusedSimpArgs false
set_option linter.unusedVariables false
namespace Go.Proofs.YtccndjnaakmlkaaGreat
open Go.RowKit


theorem insF_lt {x n : Int} {l : List Int} (h : x < n) : insF (x :: l) n = x :: insF l n := by simp [insF, h]
theorem insF_gt {x n : Int} {l : List Int} (h : n < x) : insF (x :: l) n = n :: x :: l := by
  have : ¬ x < n := by omega
  simp [insF, h, this]
theorem insF_eq {x n : Int} {l : List Int} (h : x = n) : insF (x :: l) n = x :: l := by subst h; simp [insF]
set_option maxHeartbeats 2000000 in
theorem insert_any (A : Option Addr) (c : Nat) (l : List Int) (n : Int) (w : World) (hr : Rd w 1 A l.length (ic l)) (hl : l.length ≤ 4398046511104) :
    Calls Tryz.prog 81 #[.slice A l.length c, .int .i64 n] w (RdP 1 (insF l n).length (ic (insF l n)) w) := by
  go_enter Tryz.func81, Tryz.ntmps81
  go_wp2
  go_loopw [5, 6] (fun out i wr => ∃ (k : Nat) (acc : List Int) (x : Add), k ≤ l.length ∧ acc.length ≤ k ∧ i = .int .i64 k ∧ Hid (insF l n = acc ++ insF (l.drop k) n) ∧ wr = ext w x ∧ Own w x 3 1 out acc.length (ic acc)) (fun _ i _ => l.length - (intOf i).toNat)
  case atStart =>
    obtain ⟨x, hx⟩ := (Ext.refl' w).get
    exact ⟨0, [], x, Nat.zero_le _, Nat.le_refl _, rfl, Lib.hid (by simp), hx, own_nil _ _ _ _⟩
  case round =>
    obtain ⟨k, acc, x, hk, hal, rfl, HC, rfl, hown⟩ := hrel
    by_cases hlt : k < l.length
    · obtain ⟨b, o, rfl, hb, hc⟩ := hr.int hlt
      have hd := List.drop_eq_getElem_cons hlt
      have hkb : ((k : Int) == (l.length : Int)) = false := by simp; omega
      rcases (show (l[k] < n) ∨ (n < l[k]) ∨ (¬ l[k] < n ∧ ¬ n < l[k] ∧ l[k] = n) from by omega) with hy | hy | ⟨hy, hy2, hy3⟩
      · have HD : Hid (insF l n = acc ++ [l[k]] ++ insF (l.drop (k + 1)) n) := Lib.hid (by rw [HC.out, hd, insF_lt hy]; simp)
        clear hd HC
        generalize l[k] = y at hc HD hy
        go_wp2_with (at_builtin; refine wpList_app _ rfl (.tmp 19) (.tmp 24) rfl elInt w (by repeat (first | exact Ext.refl' _ | assumption | apply Ext.ex' | apply Ext.al | apply Ext.drN | apply Ext.dr)) _ _ _ rfl (World.ownsRow.alloc (by exact hown) _) _ 1 1 [.int .i64 y] rfl (Rd.lit _ _ _ 1 1 rfl (by simp [size_ext])) (oneCell_ic [y]) (by unfold maxLen; omega) (by omega) ?_; intro v' x' hown' _)
        go_roundw
        case rel => exact ⟨k + 1, acc ++ [y], x', by omega, by simp; omega, by go_num, HD, rfl, by simpa [ic] using hown'⟩
        case measure => simp [intOf]; omega
      · have H2 : Hid (insF l n = acc ++ [n] ++ l.drop k) := Lib.hid (by rw [HC.out, hd, insF_gt hy]; simp)
        clear hd HC
        generalize hyy : l[k] = y at hc hy
        clear hyy
        have hy' : ¬ y < n := by omega
        go_wp2_with (at_builtin; refine wpList_app _ rfl (.tmp 40) (.tmp 42) rfl elInt w (by repeat (first | exact Ext.refl' _ | assumption | apply Ext.ex' | apply Ext.al | apply Ext.drN | apply Ext.dr)) _ _ _ rfl (World.ownsRow.alloc (by exact hown) _) _ 1 1 [.int .i64 n] rfl (Rd.lit _ _ _ 1 1 rfl (by simp [size_ext])) (oneCell_ic [n]) (by unfold maxLen; omega) (by omega) ?_; intro v' x' hown' _)
        
        go_loopw [5, 6] (fun out i wr => ∃ (k : Nat) (acc : List Int) (x : Add), k ≤ l.length ∧ acc.length ≤ k + 1 ∧ i = .int .i64 k ∧ Hid (insF l n = acc ++ l.drop k) ∧ wr = ext w x ∧ Own w x 3 1 out acc.length (ic acc)) (fun _ i _ => l.length - (intOf i).toNat)
        case atStart => exact ⟨k, acc ++ [n], x', hk, by simp; omega, rfl, H2, rfl, by simpa [ic] using hown'⟩
        case round =>
          obtain ⟨k, acc, x, hk, hal, rfl, HC, rfl, hown⟩ := hrel
          by_cases hlt : k < l.length
          · obtain ⟨b', o', he, hb', hc⟩ := hr.int hlt
            simp only [Option.some.injEq, Addr.mk.injEq, and_true] at he
            obtain ⟨rfl, rfl⟩ := he
            have HD := Lib.hid (List.drop_eq_getElem_cons hlt)
            generalize l[k] = y at hc HD
            go_wp2_with (at_builtin; refine wpList_app _ rfl (.tmp 48) (.tmp 53) rfl elInt w (by repeat (first | exact Ext.refl' _ | assumption | apply Ext.ex' | apply Ext.al | apply Ext.drN | apply Ext.dr)) _ _ _ rfl (World.ownsRow.alloc (by exact hown) _) _ 1 1 [.int .i64 y] rfl (Rd.lit _ _ _ 1 1 rfl (by simp [size_ext])) (oneCell_ic [y]) (by unfold maxLen; omega) (by omega) ?_; intro v' x' hown' _)
            go_roundw
            case rel => exact ⟨k + 1, acc ++ [y], x', by omega, by simp; omega, by go_num, Lib.hid (by rw [HC.out, HD.out]; simp), rfl, by simpa [ic] using hown'⟩
            case measure => simp [intOf]; omega
          · have H0 : Hid (insF l n = acc) := Lib.hid (by rw [HC.out, List.drop_eq_nil_of_le (Nat.le_of_not_lt hlt)]; simp)
            go_wp2
            go_ret
            obtain ⟨A', c', rfl, _, _⟩ := Own.form hown
            exact ⟨A', c', by rw [H0.out]; rfl, Ext.ex _ _, by rw [H0.out]; exact Rd.of_own hown⟩
      · have H2 : Hid (insF l n = acc ++ l.drop k) := Lib.hid (by rw [HC.out, hd, insF_eq hy3])
        clear hd HC
        clear hy3
        generalize hyy : l[k] = y at hc hy hy2
        clear hyy
        go_wp2
        
        go_loopw [5, 6] (fun out i wr => ∃ (k : Nat) (acc : List Int) (x : Add), k ≤ l.length ∧ acc.length ≤ k + 1 ∧ i = .int .i64 k ∧ Hid (insF l n = acc ++ l.drop k) ∧ wr = ext w x ∧ Own w x 3 1 out acc.length (ic acc)) (fun _ i _ => l.length - (intOf i).toNat)
        case atStart => exact ⟨k, acc, x, hk, by omega, rfl, H2, rfl, hown⟩
        case round =>
          obtain ⟨k, acc, x, hk, hal, rfl, HC, rfl, hown⟩ := hrel
          by_cases hlt : k < l.length
          · obtain ⟨b', o', he, hb', hc⟩ := hr.int hlt
            simp only [Option.some.injEq, Addr.mk.injEq, and_true] at he
            obtain ⟨rfl, rfl⟩ := he
            have HD := Lib.hid (List.drop_eq_getElem_cons hlt)
            generalize l[k] = y at hc HD
            go_wp2_with (at_builtin; refine wpList_app _ rfl (.tmp 48) (.tmp 53) rfl elInt w (by repeat (first | exact Ext.refl' _ | assumption | apply Ext.ex' | apply Ext.al | apply Ext.drN | apply Ext.dr)) _ _ _ rfl (World.ownsRow.alloc (by exact hown) _) _ 1 1 [.int .i64 y] rfl (Rd.lit _ _ _ 1 1 rfl (by simp [size_ext])) (oneCell_ic [y]) (by unfold maxLen; omega) (by omega) ?_; intro v' x' hown' _)
            go_roundw
            case rel => exact ⟨k + 1, acc ++ [y], x', by omega, by simp; omega, by go_num, Lib.hid (by rw [HC.out, HD.out]; simp), rfl, by simpa [ic] using hown'⟩
            case measure => simp [intOf]; omega
          · have H0 : Hid (insF l n = acc) := Lib.hid (by rw [HC.out, List.drop_eq_nil_of_le (Nat.le_of_not_lt hlt)]; simp)
            go_wp2
            go_ret
            obtain ⟨A', c', rfl, _, _⟩ := Own.form hown
            exact ⟨A', c', by rw [H0.out]; rfl, Ext.ex _ _, by rw [H0.out]; exact Rd.of_own hown⟩
    · have H2 : Hid (insF l n = acc ++ [n] ++ l.drop k) := Lib.hid (by rw [HC.out, List.drop_eq_nil_of_le (Nat.le_of_not_lt hlt)]; simp [insF])
      have hkb : ((k : Int) == (l.length : Int)) = true := by simp; omega
      clear HC
      go_wp2_with (at_builtin; refine wpList_app _ rfl (.tmp 40) (.tmp 42) rfl elInt w (by repeat (first | exact Ext.refl' _ | assumption | apply Ext.ex' | apply Ext.al | apply Ext.drN | apply Ext.dr)) _ _ _ rfl (World.ownsRow.alloc (by exact hown) _) _ 1 1 [.int .i64 n] rfl (Rd.lit _ _ _ 1 1 rfl (by simp [size_ext])) (oneCell_ic [n]) (by unfold maxLen; omega) (by omega) ?_; intro v' x' hown' _)
      
      go_loopw [5, 6] (fun out i wr => ∃ (k : Nat) (acc : List Int) (x : Add), k ≤ l.length ∧ acc.length ≤ k + 1 ∧ i = .int .i64 k ∧ Hid (insF l n = acc ++ l.drop k) ∧ wr = ext w x ∧ Own w x 3 1 out acc.length (ic acc)) (fun _ i _ => l.length - (intOf i).toNat)
      case atStart => exact ⟨k, acc ++ [n], x', hk, by simp; omega, rfl, H2, rfl, by simpa [ic] using hown'⟩
      case round =>
        obtain ⟨k, acc, x, hk, hal, rfl, HC, rfl, hown⟩ := hrel
        by_cases hlt : k < l.length
        · obtain ⟨b, o, rfl, hb, hc⟩ := hr.int hlt
          have HD := Lib.hid (List.drop_eq_getElem_cons hlt)
          generalize l[k] = y at hc HD
          go_wp2_with (at_builtin; refine wpList_app _ rfl (.tmp 48) (.tmp 53) rfl elInt w (by repeat (first | exact Ext.refl' _ | assumption | apply Ext.ex' | apply Ext.al | apply Ext.drN | apply Ext.dr)) _ _ _ rfl (World.ownsRow.alloc (by exact hown) _) _ 1 1 [.int .i64 y] rfl (Rd.lit _ _ _ 1 1 rfl (by simp [size_ext])) (oneCell_ic [y]) (by unfold maxLen; omega) (by omega) ?_; intro v' x' hown' _)
          go_roundw
          case rel => exact ⟨k + 1, acc ++ [y], x', by omega, by simp; omega, by go_num, Lib.hid (by rw [HC.out, HD.out]; simp), rfl, by simpa [ic] using hown'⟩
          case measure => simp [intOf]; omega
        · have H0 : Hid (insF l n = acc) := Lib.hid (by rw [HC.out, List.drop_eq_nil_of_le (Nat.le_of_not_lt hlt)]; simp)
          go_wp2
          go_ret
          obtain ⟨A', c', rfl, _, _⟩ := Own.form hown
          exact ⟨A', c', by rw [H0.out]; rfl, Ext.ex _ _, by rw [H0.out]; exact Rd.of_own hown⟩


set_option maxHeartbeats 2000000 in
theorem rpoints_any (A : Option Addr) (c : Nat) (l : List (Int × Int)) (w : World) (hr : Rd w 2 A l.length (pc l)) (hl : l.length ≤ 2199023255552) :
    Calls Tryz.prog 70 #[.slice A l.length c] w (RdP 1 (ptsF l).length (ic (ptsF l)) w) := by
  go_enter Tryz.func70, Tryz.ntmps70
  go_wp2
  go_loopw [3, 4] (fun out i wr => ∃ (k : Nat) (acc : List Int) (B : Option Addr) (d : Nat), k ≤ l.length ∧ acc.length ≤ 2 * k ∧ i = .int .i64 k ∧ Hid (ptsF l = ptsG acc (l.drop k)) ∧ Ext w wr ∧ out = .slice B acc.length d ∧ Rd wr 1 B acc.length (ic acc)) (fun _ i _ => l.length - (intOf i).toNat)
  case atStart => exact ⟨0, [], none, 0, Nat.zero_le _, Nat.le_refl _, rfl, Lib.hid rfl, Ext.refl' _, rfl, Rd.nil⟩
  case round =>
    obtain ⟨k, acc, B, d, hk, hal, rfl, HC, hext, rfl, hA⟩ := hrel
    obtain ⟨x, rfl⟩ := hext.get
    clear hext
    by_cases hlt : k < l.length
    · obtain ⟨b, o, rfl, hb, hc1, hc2⟩ := hr.pair rfl hlt
      have HD := Lib.hid (List.drop_eq_getElem_cons hlt)
      generalize l[k] = q at hc1 hc2 HD
      rcases hv : pvB q with _ | _
      · have HE : Hid (ptsF l = ptsG acc (l.drop (k + 1))) := Lib.hid (by rw [HC.out, HD.out, ptsG, hv]; rfl)
        go_wp2_with (go_at_call 48; refine (rvalid_any q _).mono ?_; rintro e w1 ⟨rfl, hb1⟩; obtain ⟨x1, rfl⟩ := hb1.get; clear hb1)
        go_roundw
        case rel => exact ⟨k + 1, acc, B, d, by omega, by omega, by go_num, HE, by repeat (first | exact Ext.refl' _ | assumption | apply Ext.ex' | apply Ext.al | apply Ext.drN | apply Ext.dr), rfl, hA.ext (by repeat (first | exact Ext.refl' _ | assumption | apply Ext.ex' | apply Ext.al | apply Ext.drN | apply Ext.dr))⟩
        case measure => simp [intOf]; omega
      · have HE : Hid (ptsF l = ptsG (insF (insF acc q.1) q.2) (l.drop (k + 1))) := Lib.hid (by rw [HC.out, HD.out, ptsG, hv]; rfl)
        have hi1 := insF_length q.1 acc
        have hi2 := insF_length q.2 (insF acc q.1)
        have HI := Lib.hid (fun (A : Option Addr) (c : Nat) (w : World) (h : Rd w 1 A acc.length (ic acc)) => insert_any A c acc q.1 w h (by omega))
        have HJ := Lib.hid (fun (A : Option Addr) (c : Nat) (w : World) (h : Rd w 1 A (insF acc q.1).length (ic (insF acc q.1))) => insert_any A c (insF acc q.1) q.2 w h (by omega))
        go_wp2_with (first | (go_at_call 48; refine (rvalid_any q _).mono ?_; rintro e w1 ⟨rfl, hb1⟩; obtain ⟨x1, rfl⟩ := hb1.get; clear hb1) | (go_at_call 81; (with_reducible refine (HI.out _ _ _ (hA.ext (by repeat (first | exact Ext.refl' _ | assumption | apply Ext.ex' | apply Ext.al | apply Ext.drN | apply Ext.dr)))).mono ?_); rintro e w1 ⟨A1, c1, rfl, hb1, hB⟩; obtain ⟨x2, rfl⟩ := hb1.get; clear hb1 hA HI) | (go_at_call 81; (with_reducible refine (HJ.out _ _ _ (hB.ext (by repeat (first | exact Ext.refl' _ | assumption | apply Ext.ex' | apply Ext.al | apply Ext.drN | apply Ext.dr)))).mono ?_); rintro e w1 ⟨A2, c2, rfl, hb1, hB2⟩; obtain ⟨x3, rfl⟩ := hb1.get; clear hb1))
        go_roundw
        case rel => exact ⟨k + 1, _, A2, c2, by omega, by omega, by go_num, HE, by repeat (first | exact Ext.refl' _ | assumption | apply Ext.ex' | apply Ext.al | apply Ext.drN | apply Ext.dr), rfl, hB2.ext (by repeat (first | exact Ext.refl' _ | assumption | apply Ext.ex' | apply Ext.al | apply Ext.drN | apply Ext.dr))⟩
        case measure => simp [intOf]; omega
    · have H0 : Hid (ptsF l = acc) := Lib.hid (by rw [HC.out, List.drop_eq_nil_of_le (Nat.le_of_not_lt hlt)]; rfl)
      go_wp2
      go_ret
      exact ⟨B, d, by rw [H0.out]; rfl, by repeat (first | exact Ext.refl' _ | assumption | apply Ext.ex' | apply Ext.al | apply Ext.drN | apply Ext.dr), by rw [H0.out]; exact hA⟩


theorem slc_step {l : List (Int × Int)} {ps : List Int} {k : Nat} (h1 : 1 ≤ k) (h : k < ps.length) : (pairsF (ps.drop (k - 1))).filter (fun p => inL l p.1) = (if inL l ps[k - 1] then [(ps[k - 1], ps[k])] else []) ++ (pairsF (ps.drop k)).filter (fun p => inL l p.1) := by
  have e := pairsF_drop (ps := ps) (i := k - 1) (by omega)
  have e2 : k - 1 + 1 = k := by omega
  simp only [e2] at e
  rw [e, List.filter_cons]
  split <;> simp
end Go.Proofs.YtccndjnaakmlkaaGreat
