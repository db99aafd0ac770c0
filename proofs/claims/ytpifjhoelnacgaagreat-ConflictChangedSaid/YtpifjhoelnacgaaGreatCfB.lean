/- Overlap of the reference. -/
import Derived.Test.YtpifjhoelnacgaaGreatCfO
import Derived.Test.YtpifjhoelnacgaaGreatCfR
import Derived.Deep.RegionHeld3
set_option linter.unusedSimpArgs false
set_option linter.unusedVariables false
namespace Go.Proofs.YtpifjhoelnacgaaGreat
open Go.RowKit

/-- the region that two have in common, if any -/
def pairR (x y : Acc) : List Acc := if decide (tb x = tb y) && (pvB x.2 && (pvB y.2 && pvB (max x.2.1 y.2.1, min x.2.2 y.2.2))) then [(x.1, (max x.2.1 y.2.1, min x.2.2 y.2.2))] else []
def rowR (x : Acc) (lb : List Acc) : List Acc := lb.flatMap (pairR x)
def ovR (la lb : List Acc) : List Acc := la.flatMap fun x => rowR x lb
theorem pairR_in (x y : Acc) (t : List UInt8) (z : Int) : inT (pairR x y) t z = ((decide (tb x = t) && inP x.2 z) && (decide (tb y = t) && inP y.2 z)) := by
  refine bool_eq ?_
  unfold pairR
  simp only [Bool.and_eq_true, decide_eq_true_eq]
  constructor
  · intro h
    split at h
    · rename_i hc
      rw [inT_one] at h
      simp only [Bool.and_eq_true, decide_eq_true_eq] at h hc
      obtain ⟨h1, h2⟩ := h
      obtain ⟨c1, c2, c3, c4⟩ := hc
      have h1 : tb x = t := h1
      rw [inP_iff] at h2
      simp only at h2
      rw [pvB_iff] at c2 c3
      exact ⟨⟨h1, inP_iff.2 (by omega)⟩, ⟨c1 ▸ h1, inP_iff.2 (by omega)⟩⟩
    · cases h
  · rintro ⟨⟨h1, h2⟩, h3, h4⟩
    rw [inP_iff] at h2 h4
    have c2 : pvB x.2 = true := pvB_iff.2 (by omega)
    have c3 : pvB y.2 = true := pvB_iff.2 (by omega)
    have c4 : pvB (max x.2.1 y.2.1, min x.2.2 y.2.2) = true := pvB_iff.2 (by simp only; omega)
    rw [if_pos (by simp [h1, h3, c2, c3, c4]), inT_one]
    simp only [Bool.and_eq_true, decide_eq_true_eq]
    exact ⟨h1, inP_iff.2 (by simp only; omega)⟩
theorem inT_flat {α : Type} (f : α → List Acc) (l : List α) (t : List UInt8) (z : Int) : inT (l.flatMap f) t z = l.any fun a => inT (f a) t z := by
  induction l with
  | nil => rfl
  | cons a l ih => rw [List.flatMap_cons, inT_append, ih, List.any_cons]
theorem ovR_in (la lb : List Acc) (t : List UInt8) (z : Int) : inT (ovR la lb) t z = (inT la t z && inT lb t z) := by
  unfold ovR
  rw [inT_flat]
  have : ∀ x, inT (rowR x lb) t z = ((decide (tb x = t) && inP x.2 z) && inT lb t z) := by
    intro x
    unfold rowR
    rw [inT_flat]
    refine bool_eq ?_
    simp only [List.any_eq_true, pairR_in, Bool.and_eq_true, decide_eq_true_eq]
    unfold inT
    simp only [List.any_eq_true, Bool.and_eq_true, decide_eq_true_eq]
    constructor
    · rintro ⟨y, hy, h1, h2⟩; exact ⟨h1, y, hy, h2⟩
    · rintro ⟨h1, y, hy, h2⟩; exact ⟨y, hy, h1, h2⟩
  refine bool_eq ?_
  simp only [List.any_eq_true, this, Bool.and_eq_true]
  unfold inT
  simp only [List.any_eq_true, Bool.and_eq_true, decide_eq_true_eq]
  constructor
  · rintro ⟨x, hx, h1, h2⟩; exact ⟨⟨x, hx, h1⟩, h2⟩
  · rintro ⟨⟨x, hx, h1⟩, h2⟩; exact ⟨x, hx, h1, h2⟩
theorem ovR_common {la lb r : List Acc} (h : CanT r) (k : ∀ t z, inT r t z = inT (ovR la lb) t z) : Common la lb r := ⟨h, fun t z => by rw [k, ovR_in]⟩
theorem pairR_le (x y : Acc) : (pairR x y).length ≤ 1 := by unfold pairR; split <;> simp
theorem rowR_le (x : Acc) (lb : List Acc) : (rowR x lb).length ≤ lb.length := by
  unfold rowR
  induction lb with
  | nil => simp
  | cons y lb ih => rw [List.flatMap_cons, List.length_append]; have := pairR_le x y; simp only [List.length_cons]; omega
theorem Common.swap {la lb r : List Acc} (h : Common la lb r) : Common lb la r := ⟨h.1, fun t z => by rw [h.2, Bool.and_comm]⟩


theorem rowR_drop {x : Acc} {lb : List Acc} {j : Nat} (h : j < lb.length) : rowR x (lb.drop j) = pairR x lb[j] ++ rowR x (lb.drop (j + 1)) := by
  unfold rowR; rw [List.drop_eq_getElem_cons h, List.flatMap_cons]
theorem ovR_drop {la lb : List Acc} {k : Nat} (h : k < la.length) : ovR (la.drop k) lb = rowR la[k] lb ++ ovR (la.drop (k + 1)) lb := by
  unfold ovR; rw [List.drop_eq_getElem_cons h, List.flatMap_cons]
set_option maxRecDepth 100000 in
set_option maxHeartbeats 8000000 in
theorem roverlap_any (A B : Option Addr) (na nb ca cb : Nat) (la lb : List Acc) (w : World) (hna : na = la.length) (hnb : nb = lb.length) (hA : Rd w 3 A na (acl la)) (hB : Rd w 3 B nb (acl lb)) (hla : la.length ≤ 60) (hlb : lb.length ≤ 60) :
    Calls Tryz.prog 12 #[.slice A na ca, .slice B nb cb] w fun e w' => ∃ r, Common la lb r ∧ e = .returned (.tuple #[acg (headF r).1, .bool (headF r).2]) ∧ Ext w w' := by
  subst hna hnb
  go_enter Tryz.func12, Tryz.ntmps12
  go_wp2
  have hE0 : Ext w (w.alloc (.cells #[.string ⟨#[]⟩, .int .i64 0, .int .i64 0] 32)) := (by repeat (first | exact Ext.refl' _ | assumption | apply Ext.ex' | apply Ext.al | apply Ext.drN | apply Ext.dr))
  have hA := hA.ext hE0
  have hB := hB.ext hE0
  have hws : (w.alloc (.cells #[.string ⟨#[]⟩, .int .i64 0, .int .i64 0] 32)).heap.size = w.heap.size + 1 := by simp
  go_loopw [6, 14] (fun v i wr => ∃ (k : Nat) (acc : List Acc), i = .int .i64 k ∧ k ≤ la.length ∧ acc.length ≤ k * 60 ∧ Hid (ovR la lb = acc ++ ovR (la.drop k) lb) ∧ wr.ownsRow (w.heap.size + 1) 32 3 v acc.length (acl acc) ∧ Ext (w.alloc (.cells #[.string ⟨#[]⟩, .int .i64 0, .int .i64 0] 32)) wr) (fun _ i _ => la.length - (intOf i).toNat)
  case atStart => exact ⟨0, [], rfl, Nat.zero_le _, Nat.zero_le _, Lib.hid (by simp), World.ownsRow_nil _ _ _ _, Ext.refl' _⟩
  case round =>
    obtain ⟨k, acc, rfl, hk, hal, HO, hrow, hE⟩ := hrel
    obtain ⟨A3, c3, rfl, hc3⟩ := row_formG hrow
    have hsz := hE.size
    rw [hws] at hsz
    by_cases hlt : k < la.length
    · obtain ⟨b, o, rfl, hbw, e0, e1, e2⟩ := (hA.ext hE).acc rfl hlt
      have HD1 : Hid (ovR (la.drop k) lb = rowR la[k] lb ++ ovR (la.drop (k + 1)) lb) := Lib.hid (ovR_drop hlt)
      generalize la[k] = xa at e0 e1 e2 HD1
      have HI : Hid (ovR la lb = acc ++ (rowR xa (lb.drop 0) ++ ovR (la.drop (k + 1)) lb)) := Lib.hid (by rw [HO.out, HD1.out]; rfl)
      clear HO HD1
      have hn0 : (Value.slice A3 acc.length c3).ownBlock ≠ some wr.heap.size := fun e => by have := (row_block hrow e).2.1; omega
      go_wp2
      obtain ⟨W2, hW2⟩ : ∃ W2, wr.alloc (.cells #[.string xa.1, .int .i64 xa.2.1, .int .i64 xa.2.2] 32) = W2 := ⟨_, rfl⟩
      have hrow2 : W2.ownsRow (w.heap.size + 1) 32 3 (.slice A3 acc.length c3) acc.length (acl acc) := by rw [← hW2]; exact ownsRow_ext hrow (by repeat (first | exact Ext.refl' _ | assumption | apply Ext.ex' | apply Ext.al | apply Ext.drN | apply Ext.dr))
      have hE2 : Ext (w.alloc (.cells #[.string ⟨#[]⟩, .int .i64 0, .int .i64 0] 32)) W2 := by rw [← hW2]; exact hE.tr (by repeat (first | exact Ext.refl' _ | assumption | apply Ext.ex' | apply Ext.al | apply Ext.drN | apply Ext.dr))
      have hbs : wr.heap.size < W2.heap.size := by rw [← hW2]; simp
      have z0 : W2.cell? ⟨wr.heap.size, 0, none⟩ = some (.string xa.1) := by rw [← hW2]; simp [go_sem, ↓IntWalk.iteOmega]
      have z1 : W2.cell? ⟨wr.heap.size, 1, none⟩ = some (.int .i64 xa.2.1) := by rw [← hW2]; simp [go_sem, ↓IntWalk.iteOmega]
      have z2 : W2.cell? ⟨wr.heap.size, 2, none⟩ = some (.int .i64 xa.2.2) := by rw [← hW2]; simp [go_sem, ↓IntWalk.iteOmega]
      rw [hW2]
      clear hW2 hrow e0 e1 e2 hE
      generalize wr.heap.size = bx at hbs z0 z1 z2 hn0 hsz ⊢
      go_loopw [6, 20] (fun v i wr2 => ∃ (j : Nat) (acc : List Acc), i = .int .i64 j ∧ j ≤ lb.length ∧ acc.length ≤ k * 60 + j ∧ Hid (ovR la lb = acc ++ (rowR xa (lb.drop j) ++ ovR (la.drop (k + 1)) lb)) ∧ wr2.ownsRow (w.heap.size + 1) 32 3 v acc.length (acl acc) ∧ Ext (w.alloc (.cells #[.string ⟨#[]⟩, .int .i64 0, .int .i64 0] 32)) wr2 ∧ bx < wr2.heap.size ∧ wr2.cell? ⟨bx, 0, none⟩ = some (.string xa.1) ∧ wr2.cell? ⟨bx, 1, none⟩ = some (.int .i64 xa.2.1) ∧ wr2.cell? ⟨bx, 2, none⟩ = some (.int .i64 xa.2.2) ∧ v.ownBlock ≠ some bx) (fun _ i _ => lb.length - (intOf i).toNat)
      case atStart => exact ⟨0, acc, rfl, Nat.zero_le _, by omega, HI, hrow2, hE2, hbs, z0, z1, z2, hn0⟩
      case round =>
        clear hrow2 hE2 HI hal hc3 hbs z0 z1 z2 hn0
        obtain ⟨j, acc, rfl, hj, hal, HI, hrow, hE, hbs, z0, z1, z2, hne⟩ := hrel
        obtain ⟨A4, c4, rfl, hc4⟩ := row_formG hrow
        by_cases hlt2 : j < lb.length
        · obtain ⟨b2, o2, rfl, hbw2, f0, f1, f2⟩ := (hB.ext hE).acc rfl hlt2
          have HD := Lib.hid (rowR_drop (x := xa) hlt2)
          generalize lb[j] = ya at f0 f1 f2 HD
          have HEQ := bl_tb xa ya
          have HVX := Lib.hid (fun w => cperiod_any xa.2 w)
          have HVY := Lib.hid (fun w => cperiod_any ya.2 w)
          have HVP := Lib.hid (fun w => cperiod_any (max xa.2.1 ya.2.1, min xa.2.2 ya.2.2) w)
          by_cases h1 : tb xa = tb ya
          · rw [decide_eq_true h1] at HEQ
            rcases h2 : pvB xa.2 with _ | _
            · rw [h2] at HVX
              have HN : Hid (pairR xa ya = []) := Lib.hid (by unfold pairR; rw [if_neg (by simp [h2])])
              clear h1 h2 HVY HVP
              go_wp2_with (first | (go_at_call 26; (with_reducible refine Calls.mono (HVX.out _) ?_); rintro e w1 ⟨rfl, hb1⟩; obtain ⟨y1, rfl⟩ := hb1.get; clear hb1) | (go_at_call 26; (with_reducible refine Calls.mono (HVY.out _) ?_); rintro e w1 ⟨rfl, hb1⟩; obtain ⟨y2, rfl⟩ := hb1.get; clear hb1) | (go_at_call 26; (with_reducible refine Calls.mono (HVP.out _) ?_); rintro e w1 ⟨rfl, hb1⟩; obtain ⟨y3, rfl⟩ := hb1.get; clear hb1))
              go_roundw
              case rel => exact ⟨j + 1, acc, by go_num, by omega, by omega, Lib.hid (by rw [HI.out, HD.out, HN.out]; rfl), ownsRow_ext hrow (by repeat (first | exact Ext.refl' _ | assumption | apply Ext.ex' | apply Ext.al | apply Ext.drN | apply Ext.dr)), hE.tr (by repeat (first | exact Ext.refl' _ | assumption | apply Ext.ex' | apply Ext.al | apply Ext.drN | apply Ext.dr)), by simp [size_ext]; omega, by simp [go_sem, ↓IntWalk.iteOmega, z0], by simp [go_sem, ↓IntWalk.iteOmega, z1], by simp [go_sem, ↓IntWalk.iteOmega, z2], hne⟩
              case measure => simp [intOf]; omega
            · rw [h2] at HVX
              rcases h3 : pvB ya.2 with _ | _
              · rw [h3] at HVY
                have HN : Hid (pairR xa ya = []) := Lib.hid (by unfold pairR; rw [if_neg (by simp [h3])])
                clear h1 h2 h3 HVP
                go_wp2_with (first | (go_at_call 26; (with_reducible refine Calls.mono (HVX.out _) ?_); rintro e w1 ⟨rfl, hb1⟩; obtain ⟨y1, rfl⟩ := hb1.get; clear hb1) | (go_at_call 26; (with_reducible refine Calls.mono (HVY.out _) ?_); rintro e w1 ⟨rfl, hb1⟩; obtain ⟨y2, rfl⟩ := hb1.get; clear hb1) | (go_at_call 26; (with_reducible refine Calls.mono (HVP.out _) ?_); rintro e w1 ⟨rfl, hb1⟩; obtain ⟨y3, rfl⟩ := hb1.get; clear hb1))
                go_roundw
                case rel => exact ⟨j + 1, acc, by go_num, by omega, by omega, Lib.hid (by rw [HI.out, HD.out, HN.out]; rfl), ownsRow_ext hrow (by repeat (first | exact Ext.refl' _ | assumption | apply Ext.ex' | apply Ext.al | apply Ext.drN | apply Ext.dr)), hE.tr (by repeat (first | exact Ext.refl' _ | assumption | apply Ext.ex' | apply Ext.al | apply Ext.drN | apply Ext.dr)), by simp [size_ext]; omega, by simp [go_sem, ↓IntWalk.iteOmega, z0], by simp [go_sem, ↓IntWalk.iteOmega, z1], by simp [go_sem, ↓IntWalk.iteOmega, z2], hne⟩
                case measure => simp [intOf]; omega
              · rw [h3] at HVY
                rcases h4 : pvB (max xa.2.1 ya.2.1, min xa.2.2 ya.2.2) with _ | _
                · rw [h4] at HVP
                  have HN : Hid (pairR xa ya = []) := Lib.hid (by unfold pairR; rw [if_neg (by simp [h4])])
                  clear h1 h2 h3 h4
                  go_wp2_with (first | (go_at_call 26; (with_reducible refine Calls.mono (HVX.out _) ?_); rintro e w1 ⟨rfl, hb1⟩; obtain ⟨y1, rfl⟩ := hb1.get; clear hb1) | (go_at_call 26; (with_reducible refine Calls.mono (HVY.out _) ?_); rintro e w1 ⟨rfl, hb1⟩; obtain ⟨y2, rfl⟩ := hb1.get; clear hb1) | (go_at_call 26; (with_reducible refine Calls.mono (HVP.out _) ?_); rintro e w1 ⟨rfl, hb1⟩; obtain ⟨y3, rfl⟩ := hb1.get; clear hb1))
                  go_roundw
                  case rel => exact ⟨j + 1, acc, by go_num, by omega, by omega, Lib.hid (by rw [HI.out, HD.out, HN.out]; rfl), ownsRow_ext hrow (by repeat (first | exact Ext.refl' _ | assumption | apply Ext.ex' | apply Ext.al | apply Ext.drN | apply Ext.dr)), hE.tr (by repeat (first | exact Ext.refl' _ | assumption | apply Ext.ex' | apply Ext.al | apply Ext.drN | apply Ext.dr)), by simp [size_ext]; omega, by simp [go_sem, ↓IntWalk.iteOmega, z0], by simp [go_sem, ↓IntWalk.iteOmega, z1], by simp [go_sem, ↓IntWalk.iteOmega, z2], hne⟩
                  case measure => simp [intOf]; omega
                · rw [h4] at HVP
                  have HN : Hid (pairR xa ya = [(xa.1, (max xa.2.1 ya.2.1, min xa.2.2 ya.2.2))]) := Lib.hid (by unfold pairR; rw [if_pos (by simp [h1, h2, h3, h4])])
                  clear h1 h2 h3 h4
                  go_wp2_with (first | (go_at_call 26; (with_reducible refine Calls.mono (HVX.out _) ?_); rintro e w1 ⟨rfl, hb1⟩; obtain ⟨y1, rfl⟩ := hb1.get; clear hb1) | (go_at_call 26; (with_reducible refine Calls.mono (HVY.out _) ?_); rintro e w1 ⟨rfl, hb1⟩; obtain ⟨y2, rfl⟩ := hb1.get; clear hb1) | (go_at_call 26; (with_reducible refine Calls.mono (HVP.out _) ?_); rintro e w1 ⟨rfl, hb1⟩; obtain ⟨y3, rfl⟩ := hb1.get; clear hb1) | (at_builtin; refine wpList_app2 _ rfl (.tmp 58) (.tmp 63) rfl elAcc (w.alloc (.cells #[.string ⟨#[]⟩, .int .i64 0, .int .i64 0] 32)) (hE.tr (by repeat (first | exact Ext.refl' _ | assumption | apply Ext.ex' | apply Ext.al | apply Ext.drN | apply Ext.dr))) (.slice A4 acc.length c4) acc.length (acl acc) rfl (World.ownsRow.alloc (by rw [hws]; exact ownsRow_ext hrow (by repeat (first | exact Ext.refl' _ | assumption | apply Ext.ex' | apply Ext.al | apply Ext.drN | apply Ext.dr))) _) _ 1 1 (ac (xa.1, (max xa.2.1 ya.2.1, min xa.2.2 ya.2.2))) rfl (Rd.lit _ #[.string xa.1, .int .i64 (max xa.2.1 ya.2.1), .int .i64 (min xa.2.2 ya.2.2)] _ 1 3 rfl (by simp [size_ext])) (by have := oneCell_acl [(xa.1, (max xa.2.1 ya.2.1, min xa.2.2 ya.2.2))]; rwa [acl_one] at this) (by unfold maxLen; omega) (by omega) ?_; intro v' x' hown' hg' hblk'))
                  go_roundw
                  case rel =>
                    refine ⟨j + 1, acc ++ [(xa.1, (max xa.2.1 ya.2.1, min xa.2.2 ya.2.2))], by go_num, by omega, by simp; omega, Lib.hid (by rw [HI.out, HD.out, HN.out]; simp), ?_, Ext.ex _ _, ?_, ?_, ?_, ?_, ?_⟩
                    · rw [List.length_append, List.length_singleton, acl_append, acl_one, ← hws]; exact hown'
                    · exact Nat.lt_of_lt_of_le (by simp [size_ext]; omega) hg'.size
                    · exact gcell hg' (by simp [size_ext]; omega) hne (by simp [go_sem, ↓IntWalk.iteOmega, z0])
                    · exact gcell hg' (by simp [size_ext]; omega) hne (by simp [go_sem, ↓IntWalk.iteOmega, z1])
                    · exact gcell hg' (by simp [size_ext]; omega) hne (by simp [go_sem, ↓IntWalk.iteOmega, z2])
                    · intro e
                      rcases hblk' _ e with h5 | h5
                      · exact hne h5
                      · simp [size_ext] at h5; omega
                  case measure => simp [intOf]; omega
          · rw [decide_eq_false h1] at HEQ
            have HEQ2 : ¬ xa.1.toList = ya.1.toList := by simpa using HEQ
            have HN : Hid (pairR xa ya = []) := Lib.hid (by unfold pairR; rw [if_neg (by simp [h1])])
            clear h1 HVX HVY HVP
            go_wp2_with (first | (go_at_call 26; (with_reducible refine Calls.mono (HVX.out _) ?_); rintro e w1 ⟨rfl, hb1⟩; obtain ⟨y1, rfl⟩ := hb1.get; clear hb1) | (go_at_call 26; (with_reducible refine Calls.mono (HVY.out _) ?_); rintro e w1 ⟨rfl, hb1⟩; obtain ⟨y2, rfl⟩ := hb1.get; clear hb1) | (go_at_call 26; (with_reducible refine Calls.mono (HVP.out _) ?_); rintro e w1 ⟨rfl, hb1⟩; obtain ⟨y3, rfl⟩ := hb1.get; clear hb1))
            go_roundw
            case rel => exact ⟨j + 1, acc, by go_num, by omega, by omega, Lib.hid (by rw [HI.out, HD.out, HN.out]; rfl), ownsRow_ext hrow (by repeat (first | exact Ext.refl' _ | assumption | apply Ext.ex' | apply Ext.al | apply Ext.drN | apply Ext.dr)), hE.tr (by repeat (first | exact Ext.refl' _ | assumption | apply Ext.ex' | apply Ext.al | apply Ext.drN | apply Ext.dr)), by simp [size_ext]; omega, by simp [go_sem, ↓IntWalk.iteOmega, z0], by simp [go_sem, ↓IntWalk.iteOmega, z1], by simp [go_sem, ↓IntWalk.iteOmega, z2], hne⟩
            case measure => simp [intOf]; omega
        · have HX : Hid (ovR la lb = acc ++ ovR (la.drop (k + 1)) lb) := Lib.hid (by rw [HI.out, List.drop_eq_nil_of_le (Nat.le_of_not_lt hlt2)]; rfl)
          go_wp2
          go_roundw
          case rel => exact ⟨k + 1, acc, by go_num, by omega, by omega, HX, hrow, hE⟩
          case measure => simp [intOf]; omega
    · have HX : Hid (ovR la lb = acc) := Lib.hid (by rw [HO.out, List.drop_eq_nil_of_le (Nat.le_of_not_lt hlt)]; simp [ovR])
      have HC : Hid (∀ r, CanT r → (∀ t z, inT r t z = inT acc t z) → Common la lb r) := Lib.hid (fun r h1 h2 => ovR_common h1 fun t z => by rw [h2, HX.out])
      have hRo := Rd.of_own hrow
      have hln : acc.length ≤ 1048576 := by have := Nat.mul_le_mul_right 60 (show k ≤ 60 by omega); omega
      have HM := Lib.hid (fun w h => rmerge_any A3 acc.length c3 acc w rfl h hln)
      clear HX HO hrow hal hA hB
      obtain ⟨x0, rfl⟩ := hE.get
      go_wp2_with fail
      refine Calls.mono (HM.out _ hRo) ?_
      rintro e w1 ⟨A5, c5, r, rfl, hb1, hR5, hcan, hin⟩
      obtain ⟨x1, rfl⟩ := hb1.get
      clear hb1
      have HCr := Lib.hid (HC.out r hcan hin)
      clear HC hcan hin HM
      rcases r with _ | ⟨q, r⟩
      · simp only [List.length_nil] at hR5 ⊢
        go_wp2
        refine bodyPost_ret (v := .tuple #[acg (⟨#[]⟩, (0, 0)), .bool false]) ?_ rfl ⟨[], HCr.out, rfl, by repeat (first | exact Ext.refl' _ | assumption | apply Ext.ex' | apply Ext.al | apply Ext.drN | apply Ext.dr)⟩
        simp [results, Tryz.results12, go_sem, ↓IntWalk.iteOmega]
      · obtain ⟨b5, o5, rfl, hb5, e0, e1, e2⟩ := hR5.acc rfl (k := 0) (by simp)
        simp only [List.length_cons, List.getElem_cons_zero, Nat.zero_mul, Nat.add_zero] at *
        go_wp2
        refine bodyPost_ret (v := .tuple #[acg q, .bool true]) ?_ rfl ⟨q :: r, HCr.out, rfl, by repeat (first | exact Ext.refl' _ | assumption | apply Ext.ex' | apply Ext.al | apply Ext.drN | apply Ext.dr)⟩
        simp [results, Tryz.results12, go_sem, ↓IntWalk.iteOmega]

end Go.Proofs.YtpifjhoelnacgaaGreat
