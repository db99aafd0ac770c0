/- The walks of row and awake of the laws of chapter 3. -/
import Derived.Test.YtogfageapejmpaaSpF
import Derived.Deep.RegionHeld3
set_option linter.unusedSimpArgs false
set_option linter.unusedVariables false
namespace Go.Proofs.Ytogfageapejmpaa
open Go.RowKit


def rowF : List Int → List (Int × Int)
  | a :: b :: r => (a, b) :: rowF r
  | _ => []
theorem rowF_drop {l : List Int} {i : Nat} (h : i + 1 < l.length) : rowF (l.drop i) = (l[i], l[i + 1]) :: rowF (l.drop (i + 2)) := by
  rw [List.drop_eq_getElem_cons (show i < l.length by omega), List.drop_eq_getElem_cons h, rowF]
theorem rowF_end {l : List Int} {i : Nat} (h : ¬ i + 1 < l.length) : rowF (l.drop i) = [] := by
  rcases Nat.lt_or_ge i l.length with h1 | h1
  · rw [List.drop_eq_getElem_cons h1, List.drop_eq_nil_of_le (by omega)]; rfl
  · rw [List.drop_eq_nil_of_le h1]; rfl
set_option maxHeartbeats 1000000 in
theorem row_any (A : Option Addr) (c : Nat) (l : List Int) (w : World) (hr : Rd w 1 A l.length (ic l)) (hl : l.length ≤ 1000) :
    Calls Try.prog 40 #[.slice A l.length c] w (RdP 2 (rowF l).length (pc (rowF l)) w) := by
  go_enter Try.func40, Try.ntmps40
  go_wp2
  go_loopw [3, 4] (fun out vi wr => ∃ (i : Nat) (acc : List (Int × Int)) (x : Add), i ≤ l.length + 1 ∧ acc.length ≤ i ∧ vi = .int .i64 i ∧ Hid (rowF l = acc ++ rowF (l.drop i)) ∧ wr = ext w x ∧ Own w x 33 2 out acc.length (pc acc)) (fun _ vi _ => l.length + 2 - (intOf vi).toNat)
  case atStart =>
    obtain ⟨x, hx⟩ := (Ext.refl' w).get
    exact ⟨0, [], x, by omega, by simp, rfl, Lib.hid (by simp), hx, own_nil _ _ _ _⟩
  case round =>
    obtain ⟨i, acc, x, hi, hal, rfl, HC, rfl, hown⟩ := hrel
    by_cases hlt : i + 1 < l.length
    · obtain ⟨b, o, rfl, hb, hc⟩ := hr.int (show i < l.length by omega)
      obtain ⟨b', o', he, hb', hd⟩ := hr.int hlt
      simp only [Option.some.injEq, Addr.mk.injEq, and_true] at he
      obtain ⟨rfl, rfl⟩ := he
      have HE : Hid (rowF l = acc ++ [(l[i], l[i + 1])] ++ rowF (l.drop (i + 2))) := Lib.hid (by rw [HC.out, rowF_drop hlt]; simp)
      generalize l[i] = y at hc HE
      generalize l[i + 1] = z at hd HE
      go_wp2
      have i1 : (0 : Int) ≤ (i : Int) := by omega
      have i2 : (i : Int) < (l.length : Int) := by omega
      have e1 : IntKind.i64.wrap ((i : Int) + 1) = (i : Int) + 1 := IntWalk.i64_in _ (by omega)
      have e2 : (0 : Int) ≤ (i : Int) + 1 := by omega
      have e4 : (i : Int) + 1 < (l.length : Int) := by omega
      have e6 : ((i : Int) + 1).toNat = i + 1 := by omega
      go_region_held3 (fun w' => w'.cell? ⟨b, o + i, none⟩ = some (.int .i64 y) ∧ w'.cell? ⟨b, o + (i + 1), none⟩ = some (.int .i64 z)) (simp [go_sem, ↓IntWalk.iteOmega, *]) ((refine step_app _ (by rfl) (.tmp 12) (.tmp 23) (by rfl) elPeriod w (by repeat (first | exact Ext.refl' _ | assumption | apply Ext.ex' | apply Ext.al | apply Ext.drN | apply Ext.dr)) _ _ _ (by rfl) (World.ownsRow.alloc (by exact hown) _) _ 1 1 [.int .i64 y, .int .i64 z] (by rfl) (Rd.lit _ _ _ 1 2 rfl (by simp [size_ext])) (oneCell_pc [(y, z)]) (by unfold maxLen; omega) (by omega) ?_; intro v' x' hown' _))
      clear e1 e2 e4 e6
      go_wp2
      go_roundw
      case rel => exact ⟨i + 2, acc ++ [(y, z)], x', by omega, by simp; omega, by go_num, HE, rfl, by simpa [pc] using hown'⟩
      case measure => simp [intOf]; omega
    · have H0 : Hid (rowF l = acc) := Lib.hid (by rw [HC.out, rowF_end hlt]; simp)
      go_wp2
      go_ret
      obtain ⟨A', c', rfl, _, _⟩ := Own.form hown
      exact ⟨A', c', by rw [H0.out]; rfl, Ext.ex _ _, by rw [H0.out]; exact Rd.of_own hown⟩
/-- a row out of a literal -/
theorem row_lit (l : List Int) (r : List (Int × Int)) (hr : rowF l = r) (hl : l.length ≤ 1000) (n b : Nat) (hn : l.length = n) (w : World) (h : Rd w 1 (some ⟨b, 0, none⟩) n (ic l)) :
    Calls Try.prog 40 #[.slice (some ⟨b, 0, none⟩) n n] w (RdP 2 r.length (pc r) w) := by
  subst hn hr
  exact row_any _ _ l w h hl
theorem row_new (l : List Int) (r : List (Int × Int)) (hr : rowF l = r) (hl : l.length ≤ 1000) (n b : Nat) (hn : l.length = n) (w : World) (news : Array Value) (e : Nat) (hnews : news.toList = ic l) (hb : b = w.heap.size) :
    Calls Try.prog 40 #[.slice (some ⟨b, 0, none⟩) n n] (w.alloc (.cells news e)) (RdP 2 r.length (pc r) (w.alloc (.cells news e))) := by
  refine row_lit l r hr hl n b hn _ ?_
  rw [← hnews]
  refine Rd.lit w news e n 1 ?_ hb
  have := congrArg List.length hnews
  simp [ic] at this
  omega
theorem same_yes (A B : Option Addr) (c d n m : Nat) (l k : List (Int × Int)) (h : l = k) (hn : l.length = n) (hm : k.length = m) (w : World) (hA : Rd w 2 A n (pc l)) (hB : Rd w 2 B m (pc k)) (hl : l.length ≤ 9223372036854775807) :
    Calls Try.prog 11 #[.slice A n c, .slice B m d] w fun e w' => e = .returned (.bool true) ∧ Ext w w' := by
  subst hn hm h
  have := same_any A B c d l l w hA hB hl hl
  simpa using this
theorem sameInts_yes (A B : Option Addr) (c d n m : Nat) (l k : List Int) (h : l = k) (hn : l.length = n) (hm : k.length = m) (w : World) (hA : Rd w 1 A n (ic l)) (hB : Rd w 1 B m (ic k)) (hl : l.length ≤ 9223372036854775807) :
    Calls Try.prog 16 #[.slice A n c, .slice B m d] w fun e w' => e = .returned (.bool true) ∧ Ext w w' := by
  subst hn hm h
  have := sameInts_any A B c d l l w hA hB hl hl
  simpa using this

theorem ex_F1 : ofF [(5, 8), (0, 5), (2, 3)] = [(0, 8)] := by decide
theorem ex_F2 : slcF [(5, 8), (0, 5), (2, 3)] = [(0, 2), (2, 3), (3, 5), (5, 8)] := by decide
theorem ex_F3 : ptsF [(5, 8), (0, 5), (2, 3)] = [0, 2, 3, 5, 8] := by decide
theorem ex_F4 : combF subK [(0, 8)] [(4, 6)] = [(0, 4), (6, 8)] := by decide
theorem ex_F5 : combF norK [(4, 1099511627776)] [] = [(0, 4)] := by decide
theorem ex_F6 : lenF (ofF [(0, 3), (2, 5)]) = 5 := by decide
theorem ex_F7 : nextF 4 (ofF [(0, 3), (6, 8)]) = (6, true) := by decide


set_option maxRecDepth 100000 in
set_option maxHeartbeats 4000000 in
theorem awake_any (w : World) : Calls Try.prog 10 #[] w fun e w' => e = .returned (.bool true) ∧ Ext w w' := by
  obtain ⟨l1, hl1⟩ : ∃ l1 : List (Int × Int), l1 = [(5, 8), (0, 5), (2, 3)] := ⟨_, rfl⟩
  have Hl1 : Hid (rowF [5, 8, 0, 5, 2, 3] = l1) := Lib.hid (by rw [hl1]; rfl)
  have bl1 : l1.length ≤ 100 := by rw [hl1]; decide
  obtain ⟨l2, hl2⟩ : ∃ l2 : List (Int × Int), l2 = [(0, 3), (6, 8)] := ⟨_, rfl⟩
  have Hl2 : Hid (rowF [0, 3, 6, 8] = l2) := Lib.hid (by rw [hl2]; rfl)
  have bl2 : l2.length ≤ 100 := by rw [hl2]; decide
  obtain ⟨m1, hm1⟩ : ∃ m1 : List (Int × Int), m1 = [(0, 8)] := ⟨_, rfl⟩
  have Hm1 : Hid (rowF [0, 8] = m1) := Lib.hid (by rw [hm1]; rfl)
  have bm1 : m1.length ≤ 100 := by rw [hm1]; decide
  obtain ⟨m2, hm2⟩ : ∃ m2 : List (Int × Int), m2 = [(0, 2), (2, 3), (3, 5), (5, 8)] := ⟨_, rfl⟩
  have Hm2 : Hid (rowF [0, 2, 2, 3, 3, 5, 5, 8] = m2) := Lib.hid (by rw [hm2]; rfl)
  have bm2 : m2.length ≤ 100 := by rw [hm2]; decide
  obtain ⟨l3, hl3⟩ : ∃ l3 : List (Int × Int), l3 = [(4, 6)] := ⟨_, rfl⟩
  have Hl3 : Hid (rowF [4, 6] = l3) := Lib.hid (by rw [hl3]; rfl)
  have bl3 : l3.length ≤ 100 := by rw [hl3]; decide
  obtain ⟨l4, hl4⟩ : ∃ l4 : List (Int × Int), l4 = [(0, 4), (6, 8)] := ⟨_, rfl⟩
  have Hl4 : Hid (rowF [0, 4, 6, 8] = l4) := Lib.hid (by rw [hl4]; rfl)
  have bl4 : l4.length ≤ 100 := by rw [hl4]; decide
  obtain ⟨l5, hl5⟩ : ∃ l5 : List (Int × Int), l5 = [(4, 1099511627776)] := ⟨_, rfl⟩
  have Hl5 : Hid (rowF [4, 1099511627776] = l5) := Lib.hid (by rw [hl5]; rfl)
  have bl5 : l5.length ≤ 100 := by rw [hl5]; decide
  obtain ⟨l6, hl6⟩ : ∃ l6 : List (Int × Int), l6 = [(0, 4)] := ⟨_, rfl⟩
  have Hl6 : Hid (rowF [0, 4] = l6) := Lib.hid (by rw [hl6]; rfl)
  have bl6 : l6.length ≤ 100 := by rw [hl6]; decide
  obtain ⟨l7, hl7⟩ : ∃ l7 : List (Int × Int), l7 = [(0, 3), (2, 5)] := ⟨_, rfl⟩
  have Hl7 : Hid (rowF [0, 3, 2, 5] = l7) := Lib.hid (by rw [hl7]; rfl)
  have bl7 : l7.length ≤ 100 := by rw [hl7]; decide
  have F1 : Hid (ofF l1 = m1) := Lib.hid (by rw [hl1, hm1]; exact ex_F1)
  have F2 : Hid (slcF l1 = m2) := Lib.hid (by rw [hl1, hm2]; exact ex_F2)
  have F3 : Hid (ptsF l1 = [0, 2, 3, 5, 8]) := Lib.hid (by rw [hl1]; exact ex_F3)
  have F4 : Hid (combF subK m1 l3 = l4) := Lib.hid (by rw [hm1, hl3, hl4]; exact ex_F4)
  have F5 : Hid (combF norK l5 [] = l6) := Lib.hid (by rw [hl5, hl6]; exact ex_F5)
  have F6 : Hid (lenF (ofF l7) = 5) := Lib.hid (by rw [hl7]; exact ex_F6)
  have F7 : Hid (nextF 4 (ofF l2) = (6, true)) := Lib.hid (by rw [hl2]; exact ex_F7)
  clear hl1 hl2 hm1 hm2 hl3 hl4 hl5 hl6 hl7
  have G1 := Lib.hid (fun A c w h => sof_any A c l1 w h (by omega))
  rw [F1.out] at G1
  have G2 := Lib.hid (fun A c w h => sslices_any A c l1 w h (by omega))
  rw [F2.out] at G2
  have G3 := Lib.hid (fun A c w h => spoints_any A c l1 w h (by omega))
  rw [F3.out] at G3
  have G4 := Lib.hid (fun A B c d w h1 h2 => ssubtract_any A B c d m1 l3 w h1 h2 (by omega) (by omega))
  rw [F4.out] at G4
  have G5 := Lib.hid (fun A c w h => scomplement_any A c l5 w h (by omega))
  rw [F5.out] at G5
  have G6 := Lib.hid (fun A c w h => slength_any A c l7 w h (by omega))
  rw [F6.out] at G6
  have G7 := Lib.hid (fun A c w h => snext_any A c l2 4 w h (by omega))
  rw [F7.out] at G7
  go_enter Try.func10, Try.ntmps10
  go_wp2_with fail
  refine Calls.mono (row_new [5, 8, 0, 5, 2, 3] l1 Hl1.out (by decide) 6 _ rfl _ #[.int .i64 5, .int .i64 8, .int .i64 0, .int .i64 5, .int .i64 2, .int .i64 3] _ rfl ?hb1) ?_
  case hb1 => simp [size_ext]
  rintro e w1 ⟨A1, c1, rfl, hb1, hR1⟩
  obtain ⟨x1, rfl⟩ := hb1.get
  clear hb1
  go_wp2_with fail
  refine Calls.mono (row_new [0, 3, 6, 8] l2 Hl2.out (by decide) 4 _ rfl _ #[.int .i64 0, .int .i64 3, .int .i64 6, .int .i64 8] _ rfl ?hb2) ?_
  case hb2 => simp [size_ext]
  rintro e w1 ⟨A2, c2, rfl, hb1, hR2⟩
  obtain ⟨x2, rfl⟩ := hb1.get
  clear hb1
  go_wp2_with fail
  refine (G7.out _ _ _ (hR2.ext (by repeat (first | exact Ext.refl' _ | assumption | apply Ext.ex' | apply Ext.al | apply Ext.drN | apply Ext.dr)))).mono ?_
  rintro e w1 ⟨rfl, hb1⟩
  obtain ⟨x3, rfl⟩ := hb1.get
  clear hb1
  go_wp2_with fail
  refine (G1.out _ _ _ (hR1.ext (by repeat (first | exact Ext.refl' _ | assumption | apply Ext.ex' | apply Ext.al | apply Ext.drN | apply Ext.dr)))).mono ?_
  rintro e w1 ⟨A4, c4, rfl, hb1, hR4⟩
  obtain ⟨x4, rfl⟩ := hb1.get
  clear hb1
  go_wp2_with fail
  refine Calls.mono (row_new [0, 8] m1 Hm1.out (by decide) 2 _ rfl _ #[.int .i64 0, .int .i64 8] _ rfl ?hb5) ?_
  case hb5 => simp [size_ext]
  rintro e w1 ⟨A5, c5, rfl, hb1, hR5⟩
  obtain ⟨x5, rfl⟩ := hb1.get
  clear hb1
  go_wp2_with fail
  refine (same_yes _ _ _ _ _ _ m1 m1 rfl rfl rfl _ (hR4.ext (by repeat (first | exact Ext.refl' _ | assumption | apply Ext.ex' | apply Ext.al | apply Ext.drN | apply Ext.dr))) (hR5.ext (by repeat (first | exact Ext.refl' _ | assumption | apply Ext.ex' | apply Ext.al | apply Ext.drN | apply Ext.dr))) (by omega)).mono ?_
  rintro e w1 ⟨rfl, hb1⟩
  obtain ⟨x6, rfl⟩ := hb1.get
  clear hb1
  go_wp2_with fail
  refine (G2.out _ _ _ (hR1.ext (by repeat (first | exact Ext.refl' _ | assumption | apply Ext.ex' | apply Ext.al | apply Ext.drN | apply Ext.dr)))).mono ?_
  rintro e w1 ⟨A7, c7, rfl, hb1, hR7⟩
  obtain ⟨x7, rfl⟩ := hb1.get
  clear hb1
  go_wp2_with fail
  refine Calls.mono (row_new [0, 2, 2, 3, 3, 5, 5, 8] m2 Hm2.out (by decide) 8 _ rfl _ #[.int .i64 0, .int .i64 2, .int .i64 2, .int .i64 3, .int .i64 3, .int .i64 5, .int .i64 5, .int .i64 8] _ rfl ?hb8) ?_
  case hb8 => simp [size_ext]
  rintro e w1 ⟨A8, c8, rfl, hb1, hR8⟩
  obtain ⟨x8, rfl⟩ := hb1.get
  clear hb1
  go_wp2_with fail
  refine (same_yes _ _ _ _ _ _ m2 m2 rfl rfl rfl _ (hR7.ext (by repeat (first | exact Ext.refl' _ | assumption | apply Ext.ex' | apply Ext.al | apply Ext.drN | apply Ext.dr))) (hR8.ext (by repeat (first | exact Ext.refl' _ | assumption | apply Ext.ex' | apply Ext.al | apply Ext.drN | apply Ext.dr))) (by omega)).mono ?_
  rintro e w1 ⟨rfl, hb1⟩
  obtain ⟨x9, rfl⟩ := hb1.get
  clear hb1
  go_wp2_with fail
  refine (G3.out _ _ _ (hR1.ext (by repeat (first | exact Ext.refl' _ | assumption | apply Ext.ex' | apply Ext.al | apply Ext.drN | apply Ext.dr)))).mono ?_
  rintro e w1 ⟨A10, c10, rfl, hb1, hR10⟩
  obtain ⟨x10, rfl⟩ := hb1.get
  clear hb1
  go_wp2_with fail
  refine (sameInts_yes _ _ _ _ _ _ [0, 2, 3, 5, 8] [0, 2, 3, 5, 8] rfl rfl rfl _ (hR10.ext (by repeat (first | exact Ext.refl' _ | assumption | apply Ext.ex' | apply Ext.al | apply Ext.drN | apply Ext.dr))) (Rd.lit _ #[.int .i64 0, .int .i64 2, .int .i64 3, .int .i64 5, .int .i64 8] _ 5 1 (by rfl) (by simp [size_ext])) (by simp)).mono ?_
  rintro e w1 ⟨rfl, hb1⟩
  obtain ⟨x11, rfl⟩ := hb1.get
  clear hb1
  go_wp2_with fail
  refine Calls.mono (row_new [0, 8] m1 Hm1.out (by decide) 2 _ rfl _ #[.int .i64 0, .int .i64 8] _ rfl ?hb12) ?_
  case hb12 => simp [size_ext]
  rintro e w1 ⟨A12, c12, rfl, hb1, hR12⟩
  obtain ⟨x12, rfl⟩ := hb1.get
  clear hb1
  go_wp2_with fail
  refine Calls.mono (row_new [4, 6] l3 Hl3.out (by decide) 2 _ rfl _ #[.int .i64 4, .int .i64 6] _ rfl ?hb13) ?_
  case hb13 => simp [size_ext]
  rintro e w1 ⟨A13, c13, rfl, hb1, hR13⟩
  obtain ⟨x13, rfl⟩ := hb1.get
  clear hb1
  go_wp2_with fail
  refine (G4.out _ _ _ _ _ (hR12.ext (by repeat (first | exact Ext.refl' _ | assumption | apply Ext.ex' | apply Ext.al | apply Ext.drN | apply Ext.dr))) (hR13.ext (by repeat (first | exact Ext.refl' _ | assumption | apply Ext.ex' | apply Ext.al | apply Ext.drN | apply Ext.dr)))).mono ?_
  rintro e w1 ⟨A14, c14, rfl, hb1, hR14⟩
  obtain ⟨x14, rfl⟩ := hb1.get
  clear hb1
  go_wp2_with fail
  refine Calls.mono (row_new [0, 4, 6, 8] l4 Hl4.out (by decide) 4 _ rfl _ #[.int .i64 0, .int .i64 4, .int .i64 6, .int .i64 8] _ rfl ?hb15) ?_
  case hb15 => simp [size_ext]
  rintro e w1 ⟨A15, c15, rfl, hb1, hR15⟩
  obtain ⟨x15, rfl⟩ := hb1.get
  clear hb1
  go_wp2_with fail
  refine (same_yes _ _ _ _ _ _ l4 l4 rfl rfl rfl _ (hR14.ext (by repeat (first | exact Ext.refl' _ | assumption | apply Ext.ex' | apply Ext.al | apply Ext.drN | apply Ext.dr))) (hR15.ext (by repeat (first | exact Ext.refl' _ | assumption | apply Ext.ex' | apply Ext.al | apply Ext.drN | apply Ext.dr))) (by omega)).mono ?_
  rintro e w1 ⟨rfl, hb1⟩
  obtain ⟨x16, rfl⟩ := hb1.get
  clear hb1
  go_wp2_with fail
  refine Calls.mono (row_new [4, 1099511627776] l5 Hl5.out (by decide) 2 _ rfl _ #[.int .i64 4, .int .i64 1099511627776] _ rfl ?hb17) ?_
  case hb17 => simp [size_ext]
  rintro e w1 ⟨A17, c17, rfl, hb1, hR17⟩
  obtain ⟨x17, rfl⟩ := hb1.get
  clear hb1
  go_wp2_with fail
  refine (G5.out _ _ _ (hR17.ext (by repeat (first | exact Ext.refl' _ | assumption | apply Ext.ex' | apply Ext.al | apply Ext.drN | apply Ext.dr)))).mono ?_
  rintro e w1 ⟨A18, c18, rfl, hb1, hR18⟩
  obtain ⟨x18, rfl⟩ := hb1.get
  clear hb1
  go_wp2_with fail
  refine Calls.mono (row_new [0, 4] l6 Hl6.out (by decide) 2 _ rfl _ #[.int .i64 0, .int .i64 4] _ rfl ?hb19) ?_
  case hb19 => simp [size_ext]
  rintro e w1 ⟨A19, c19, rfl, hb1, hR19⟩
  obtain ⟨x19, rfl⟩ := hb1.get
  clear hb1
  go_wp2_with fail
  refine (same_yes _ _ _ _ _ _ l6 l6 rfl rfl rfl _ (hR18.ext (by repeat (first | exact Ext.refl' _ | assumption | apply Ext.ex' | apply Ext.al | apply Ext.drN | apply Ext.dr))) (hR19.ext (by repeat (first | exact Ext.refl' _ | assumption | apply Ext.ex' | apply Ext.al | apply Ext.drN | apply Ext.dr))) (by omega)).mono ?_
  rintro e w1 ⟨rfl, hb1⟩
  obtain ⟨x20, rfl⟩ := hb1.get
  clear hb1
  go_wp2_with fail
  refine Calls.mono (row_new [0, 3, 2, 5] l7 Hl7.out (by decide) 4 _ rfl _ #[.int .i64 0, .int .i64 3, .int .i64 2, .int .i64 5] _ rfl ?hb21) ?_
  case hb21 => simp [size_ext]
  rintro e w1 ⟨A21, c21, rfl, hb1, hR21⟩
  obtain ⟨x21, rfl⟩ := hb1.get
  clear hb1
  go_wp2_with fail
  refine (G6.out _ _ _ (hR21.ext (by repeat (first | exact Ext.refl' _ | assumption | apply Ext.ex' | apply Ext.al | apply Ext.drN | apply Ext.dr)))).mono ?_
  rintro e w1 ⟨rfl, hb1⟩
  obtain ⟨x22, rfl⟩ := hb1.get
  clear hb1
  go_wp2
  go_ret
  exact ⟨rfl, by repeat (first | exact Ext.refl' _ | assumption | apply Ext.ex' | apply Ext.al | apply Ext.drN | apply Ext.dr)⟩

end Go.Proofs.Ytogfageapejmpaa
