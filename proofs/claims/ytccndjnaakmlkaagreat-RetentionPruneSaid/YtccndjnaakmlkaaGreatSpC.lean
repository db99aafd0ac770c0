/- The contracts of the reference of chapter 3: Join, wanted, combined and the combinations. -/
import Derived.Test.YtccndjnaakmlkaaGreatSpB
import Derived.Deep.RegionHeld3
set_option linter.unusedSimpArgs false
set_option linter.unusedVariables false
namespace Go.Proofs.YtccndjnaakmlkaaGreat
open Go.RowKit


theorem joinF_nil (p : Int × Int) : joinF [] p = [p] := rfl
theorem joinF_yes {i : List (Int × Int)} {q p : Int × Int} (h : p.1 ≤ q.2) : joinF (i ++ [q]) p = i ++ [(q.1, if q.2 < p.2 then p.2 else q.2)] := by
  simp [joinF, h]
theorem joinF_no {i : List (Int × Int)} {q p : Int × Int} (h : q.2 < p.1) : joinF (i ++ [q]) p = i ++ [q] ++ [p] := by
  have : ¬ p.1 ≤ q.2 := by omega
  simp [joinF, this]
theorem joinF_length (l : List (Int × Int)) (p : Int × Int) : (joinF l p).length ≤ l.length + 1 := by
  rcases List.eq_nil_or_concat l with rfl | ⟨i, q, rfl⟩
  · simp [joinF]
  · rw [List.concat_eq_append]
    by_cases h : p.1 ≤ q.2
    · rw [joinF_yes h]; simp
    · rw [joinF_no (by omega)]; simp
theorem pc_append (a b : List (Int × Int)) : pc (a ++ b) = pc a ++ pc b := by simp [pc]
theorem Rd.take2 {w : World} {A : Option Addr} {i : List (Int × Int)} {q : Int × Int} (h : Rd w 2 A (i.length + 1) (pc (i ++ [q]))) : Rd w 2 A i.length (pc i) := by
  refine ⟨by rw [pc_length], fun hn => ?_⟩
  obtain ⟨b, o, hA, hb, hc⟩ := h.2 (by omega)
  exact ⟨b, o, hA, hb, fun j u hu => hc j u (by rw [pc_append, List.getElem?_append_left (List.getElem?_eq_some_iff.1 hu).1]; exact hu)⟩
/-- a row of the call's own -/
def OwR (e sz n : Nat) (xs : List Value) (w : World) (en : Ending) (w' : World) : Prop := ∃ v, en = .returned v ∧ Ext w w' ∧ w'.ownsRow w.heap.size e sz v n xs
theorem OwR.rd {e sz n : Nat} {xs : List Value} {w w' : World} {en : Ending} (h : OwR e sz n xs w en w') : RdP sz n xs w en w' := by
  obtain ⟨v, rfl, hE, ho⟩ := h
  rcases ho.2 with ⟨rfl, rfl⟩ | ⟨g, cap, cur, rfl, _⟩
  · exact ⟨none, 0, rfl, hE, Rd.of_own ho⟩
  · exact ⟨_, cap, rfl, hE, Rd.of_own ho⟩
/-- an owned row that may have moved -/
def OwP (W : World) (e sz n : Nat) (xs : List Value) (en : Ending) (w' : World) : Prop := ∃ v x', en = .returned v ∧ w' = ext W x' ∧ Own W x' e sz v n xs

set_option maxHeartbeats 2000000 in
theorem join_any (W : World) (x : Add) (v : Value) (l : List (Int × Int)) (p : Int × Int) (ho : Own W x 25 2 v l.length (pc l)) (hl : l.length ≤ 4398046511104) :
    Calls Tryz.prog 91 #[v, pr p] (ext W x) (OwP W 25 2 (joinF l p).length (pc (joinF l p))) := by
  obtain ⟨A, c, rfl, hlc, hcm⟩ := Own.form ho
  rcases List.eq_nil_or_concat l with rfl | ⟨i, q, rfl⟩
  · have HJ := Lib.hid (joinF_nil p)
    simp only [List.length_nil] at ho ⊢
    go_enter Tryz.func91, Tryz.ntmps91
    go_wp2
    go_quiet (fail)
    go_wp2_with (at_builtin; refine wpList_app _ rfl (.tmp 47) (.tmp 49) rfl elPeriod W (by repeat (first | exact Ext.refl' _ | assumption | apply Ext.ex' | apply Ext.al | apply Ext.drN | apply Ext.dr)) _ _ _ rfl (World.ownsRow.alloc (by exact World.ownsRow.alloc (by exact ho) _) _) _ 1 1 [.int .i64 p.1, .int .i64 p.2] rfl (Rd.lit _ _ _ 1 2 rfl (by simp [size_ext])) (oneCell_pc [p]) (by unfold maxLen; omega) (by omega) ?_; intro v' x' hown' _)
    go_ret
    exact ⟨v', x', rfl, rfl, by rw [HJ.out]; simpa [pc] using hown'⟩
  · rw [List.concat_eq_append] at ho hl hlc ⊢
    simp only [List.length_append, List.length_singleton] at ho hl hlc ⊢
    obtain ⟨g, rfl, hg1, hg2, hcell, hfz⟩ := Own.at ho (by omega)
    have hq := pc_get (i ++ [q]) i.length (by simp)
    simp only [List.getElem_append_right (Nat.le_refl _), Nat.sub_self, List.getElem_singleton] at hq
    have hc1 := hcell _ _ hq.1
    have hc2 := hcell _ _ hq.2
    have HR := Lib.hid (Rd.of_own ho).take2
    clear hcell hq
    rcases Int.lt_or_le q.2 p.1 with hlt | hle
    · have HJ := Lib.hid (joinF_no (i := i) hlt)
      go_enter Tryz.func91, Tryz.ntmps91
      go_wp2
      go_quiet (fail)
      go_wp2_with (at_builtin; refine wpList_app _ rfl (.tmp 47) (.tmp 49) rfl elPeriod W (by repeat (first | exact Ext.refl' _ | assumption | apply Ext.ex' | apply Ext.al | apply Ext.drN | apply Ext.dr)) _ _ _ rfl (World.ownsRow.alloc (by exact World.ownsRow.alloc (by exact ho) _) _) _ 1 1 [.int .i64 p.1, .int .i64 p.2] rfl (Rd.lit _ _ _ 1 2 rfl (by simp [size_ext])) (oneCell_pc [p]) (by unfold maxLen; omega) (by omega) ?_; intro v' x' hown' _)
      go_ret
      exact ⟨v', x', rfl, rfl, by rw [HJ.out]; simpa [pc] using hown'⟩
    · have HJ := Lib.hid (joinF_yes (i := i) hle)
      have hne : ((i.length : Int) + 1 - 1) = i.length := by omega
      go_enter Tryz.func91, Tryz.ntmps91
      go_wp2
      go_quiet (fail)
      go_wp2_with (at_builtin; refine wpList_app _ rfl (.tmp 22) (.tmp 26) rfl elPeriod _ (Ext.refl' _) (.slice none 0 0) 0 [] rfl (World.ownsRow_nil _ _ _ _) _ i.length c (pc i) rfl (HR.out.ext (by repeat (first | exact Ext.refl' _ | assumption | apply Ext.ex' | apply Ext.al | apply Ext.drN | apply Ext.dr))) (oneCell_pc i) (by unfold maxLen; omega) (by omega) ?_; intro v' x' hown' hgr)
      clear hgr
      have hWE : Ext W (((ext W x).alloc (Obj.cells #[Value.int IntKind.i64 p.1, Value.int IntKind.i64 p.2] 25)).drewN nq) := by repeat (first | exact Ext.refl' _ | assumption | apply Ext.ex' | apply Ext.al | apply Ext.drN | apply Ext.dr)
      simp only [Nat.zero_add, List.nil_append] at hown'
      have e1 : IntKind.i64.wrap (i.length : Int) = (i.length : Int) := IntWalk.i64_in _ (by omega)
      have e2 : IntKind.i64.wrap ((i.length : Int) + 1 - 1) = (i.length : Int) := by rw [hne]; exact e1
      have e3 : (0 : Int) ≤ (i.length : Int) := by omega
      have e4 : (i.length : Int) < (i.length : Int) + 1 := by omega
      go_region_held3 (fun w' => w'.cell? ⟨g, i.length * 2, none⟩ = some (.int .i64 q.1) ∧ w'.cell? ⟨g, i.length * 2 + 1, none⟩ = some (.int .i64 q.2) ∧ w'.cell? ⟨W.heap.size + x.n, 1, none⟩ = some (.int .i64 p.2)) (simp [go_sem, ↓IntWalk.iteOmega, *]) ((refine step_app _ (by rfl) (.tmp 28) (.tmp 45) (by rfl) elPeriod (((ext W x).alloc (Obj.cells #[Value.int IntKind.i64 p.1, Value.int IntKind.i64 p.2] 25)).drewN nq) (by repeat (first | exact Ext.refl' _ | assumption | apply Ext.ex' | apply Ext.al | apply Ext.drN | apply Ext.dr)) _ _ _ (by rfl) (World.ownsRow.alloc (by exact hown') _) _ 1 1 [.int .i64 q.1, .int .i64 (if q.2 < p.2 then p.2 else q.2)] (by rfl) (Rd.lit _ _ _ 1 2 rfl (by simp [size_ext])) (oneCell_pc [(q.1, if q.2 < p.2 then p.2 else q.2)]) (by unfold maxLen; omega) (by omega) ?_; intro v2 x2 hown2 _))
      go_wp2
      all_goals go_ret
      all_goals obtain ⟨x4, hx4, ho4⟩ := Own.back hown2 hWE
      all_goals exact ⟨v2, x4, rfl, hx4, by rw [HJ.out]; simpa [pc] using ho4⟩


theorem join_w (W w : World) (hW : Ext W w) (v : Value) (l : List (Int × Int)) (p : Int × Int) (ho : w.ownsRow W.heap.size 25 2 v l.length (pc l)) (hl : l.length ≤ 4398046511104) :
    Calls Tryz.prog 91 #[v, pr p] w (OwP W 25 2 (joinF l p).length (pc (joinF l p))) := by
  obtain ⟨x, rfl⟩ := hW.get
  exact join_any W x v l p ho hl


theorem wanted1 (a b : Bool) (w : World) : Calls Tryz.prog 89 #[.int .i64 1, .bool a, .bool b] w fun e w' => e = .returned (.bool (interK a b)) ∧ w = w' := by
  cases a <;> cases b <;>
  · go_enter Tryz.func89, Tryz.ntmps89
    go_wp2
    go_ret
    exact ⟨rfl, rfl⟩


theorem wanted2 (a b : Bool) (w : World) : Calls Tryz.prog 89 #[.int .i64 2, .bool a, .bool b] w fun e w' => e = .returned (.bool (ofK a b)) ∧ w = w' := by
  cases a <;> cases b <;>
  · go_enter Tryz.func89, Tryz.ntmps89
    go_wp2
    go_ret
    exact ⟨rfl, rfl⟩


theorem wanted3 (a b : Bool) (w : World) : Calls Tryz.prog 89 #[.int .i64 3, .bool a, .bool b] w fun e w' => e = .returned (.bool (subK a b)) ∧ w = w' := by
  cases a <;> cases b <;>
  · go_enter Tryz.func89, Tryz.ntmps89
    go_wp2
    go_ret
    exact ⟨rfl, rfl⟩


theorem wanted4 (a b : Bool) (w : World) : Calls Tryz.prog 89 #[.int .i64 4, .bool a, .bool b] w fun e w' => e = .returned (.bool (norK a b)) ∧ w = w' := by
  cases a <;> cases b <;>
  · go_enter Tryz.func89, Tryz.ntmps89
    go_wp2
    go_ret
    exact ⟨rfl, rfl⟩


theorem rel_same {W w' : World} {x : Add} {e sz n : Nat} {v : Value} {xs : List Value} {R : Prop} (h : Own W x e sz v n xs) (hE : Ext (ext W x) w') (k : ∀ x', w' = ext W x' → Own W x' e sz v n xs → R) : R := by
  obtain ⟨x1, rfl⟩ := hE.get
  obtain ⟨x2, hx2⟩ := ((Ext.ex W x).tr (Ext.ex (ext W x) x1)).get
  exact k x2 hx2 (by unfold Own; rw [← hx2]; exact own_ext h x1)
set_option maxHeartbeats 4000000 in
theorem combinedO_any (kind : Int) (k : Bool → Bool → Bool) (hk : ∀ a b w, Calls Tryz.prog 89 #[.int .i64 kind, .bool a, .bool b] w fun e w' => e = .returned (.bool (k a b)) ∧ w = w')
    (A B : Option Addr) (ca cb : Nat) (la lb : List (Int × Int)) (w : World) (hA : Rd w 2 A la.length (pc la)) (hB : Rd w 2 B lb.length (pc lb)) (ha : la.length ≤ 549755813888) (hb : lb.length ≤ 549755813888) :
    Calls Tryz.prog 83 #[.int .i64 kind, .slice A la.length ca, .slice B lb.length cb] w (OwR 25 2 (combF k la lb).length (pc (combF k la lb)) w) := by
  have hpl := ptsF_length ((0, 1099511627776) :: (la ++ lb))
  simp only [List.length_cons, List.length_append] at hpl
  have HP := Lib.hid (fun A c w h h' => rpoints_any A c ((0, 1099511627776) :: (la ++ lb)) w h h')
  have HS : Hid (combF k la lb = cmbF (fun t => k (inL la t) (inL lb t)) [] (pairsF ((ptsF ((0, 1099511627776) :: (la ++ lb))).drop (1 - 1)))) := Lib.hid rfl
  generalize ptsF ((0, 1099511627776) :: (la ++ lb)) = ps at hpl HP HS
  obtain ⟨xw, hxw⟩ := (Ext.refl' w).get
  have hn0 := own_nil w xw 25 2
  unfold Own at hn0
  rw [← hxw] at hn0
  clear hxw
  go_enter Tryz.func83, Tryz.ntmps83
  go_wp2_with ((at_builtin; first | (refine wpList_app _ rfl (.tmp 11) (.tmp 13) rfl elPeriod w (by repeat (first | exact Ext.refl' _ | assumption | apply Ext.ex' | apply Ext.al | apply Ext.drN | apply Ext.dr)) _ _ _ rfl (World.ownsRow_nil _ _ _ _) _ 1 1 [.int .i64 0, .int .i64 1099511627776] rfl (Rd.lit _ _ _ 1 2 rfl (by simp [size_ext])) (oneCell_pc [(0, 1099511627776)]) (by unfold maxLen; omega) (by omega) ?_; intro v1 x1 ho1 _) | (refine wpList_app _ rfl (.tmp 15) (.tmp 16) rfl elPeriod w (by repeat (first | exact Ext.refl' _ | assumption | apply Ext.ex' | apply Ext.al | apply Ext.drN | apply Ext.dr)) _ _ _ rfl (by exact ho1) _ la.length ca (pc la) rfl (hA.ext (by repeat (first | exact Ext.refl' _ | assumption | apply Ext.ex' | apply Ext.al | apply Ext.drN | apply Ext.dr))) (oneCell_pc la) (by unfold maxLen; omega) (by omega) ?_; intro v2 x2 ho2 _) | (refine wpList_app _ rfl (.tmp 18) (.tmp 19) rfl elPeriod w (by repeat (first | exact Ext.refl' _ | assumption | apply Ext.ex' | apply Ext.al | apply Ext.drN | apply Ext.dr)) _ _ _ rfl (by exact ho2) _ lb.length cb (pc lb) rfl (hB.ext (by repeat (first | exact Ext.refl' _ | assumption | apply Ext.ex' | apply Ext.al | apply Ext.drN | apply Ext.dr))) (oneCell_pc lb) (by unfold maxLen; omega) (by omega) ?_; intro v3 x3 ho3 _)))
  obtain ⟨A3, c3, rfl, hl3, hm3⟩ := Own.form ho3
  have hR3 := Rd.of_own ho3
  rw [show 0 + 1 + la.length + lb.length = ((0, 1099511627776) :: (la ++ lb)).length from by simp; omega, show [] ++ [Value.int .i64 0, .int .i64 1099511627776] ++ pc la ++ pc lb = pc ((0, 1099511627776) :: (la ++ lb)) from by simp [pc]] at hR3
  rw [show 0 + 1 + la.length + lb.length = ((0, 1099511627776) :: (la ++ lb)).length from by simp; omega]
  clear ho1 ho2 ho3 hl3 hm3
  refine (HP.out _ _ _ hR3 (by simp; omega)).mono ?_
  rintro e w1 ⟨A1, c1, rfl, hb1, hP⟩
  have hw : Ext w w1 := (Ext.ex w x3).tr hb1
  clear HP hb1 hR3
  have hA := hA.ext hw
  have hB := hB.ext hw
  go_wp2
  go_loopw [9, 10] (fun out i wr => ∃ (j : Nat) (acc : List (Int × Int)) (x : Add), 1 ≤ j ∧ j ≤ ps.length + 1 ∧ acc.length ≤ j ∧ i = .int .i64 j ∧ Hid (combF k la lb = cmbF (fun t => k (inL la t) (inL lb t)) acc (pairsF (ps.drop (j - 1)))) ∧ wr = ext w1 x ∧ Own w1 x 25 2 out acc.length (pc acc)) (fun _ i _ => ps.length + 1 - (intOf i).toNat)
  case atStart =>
    obtain ⟨x, hx⟩ := (Ext.refl' w1).get
    exact ⟨1, [], x, by omega, by omega, by simp, rfl, HS, hx, own_nil _ _ _ _⟩
  case round =>
    obtain ⟨j, acc, x, hk1, hj, hal, rfl, HC, rfl, hown⟩ := hrel
    by_cases hlt : j < ps.length
    · obtain ⟨b, o, rfl, hb1, hc⟩ := hP.int hlt
      obtain ⟨b', o', he, hb', hd⟩ := hP.int (show j - 1 < ps.length by omega)
      simp only [Option.some.injEq, Addr.mk.injEq, and_true] at he
      obtain ⟨rfl, rfl⟩ := he
      have HD : Hid (pairsF (ps.drop (j - 1)) = (ps[j - 1], ps[j]) :: pairsF (ps.drop j)) := Lib.hid (by
        have e := pairsF_drop (ps := ps) (i := j - 1) (by omega)
        have e2 : j - 1 + 1 = j := by omega
        simp only [e2] at e
        exact e)
      generalize ps[j - 1] = y at hd HD
      generalize ps[j] = z at hc HD
      have e1 : IntKind.i64.wrap ((j : Int) - 1) = (j : Int) - 1 := IntWalk.i64_in _ (by omega)
      have e2 : (0 : Int) ≤ (j : Int) - 1 := by omega
      have e3 : (1 : Int) ≤ (j : Int) := by omega
      have e4 : (j : Int) - 1 < (ps.length : Int) := by omega
      have e5 : (j : Int) < (ps.length : Int) := by omega
      have e6 : ((j : Int) - 1).toNat = j - 1 := by omega
      have HKA := Lib.hid (fun w h => rcont_any A ca la y w h (by omega))
      have HKB := Lib.hid (fun w h => rcont_any B cb lb y w h (by omega))
      have HKK := Lib.hid (fun w => hk (inL la y) (inL lb y) w)
      rcases hv : k (inL la y) (inL lb y) with _ | _
      · have HE : Hid (combF k la lb = cmbF (fun t => k (inL la t) (inL lb t)) acc (pairsF (ps.drop (j + 1 - 1)))) := Lib.hid (by rw [HC.out, HD.out, cmbF]; simp [hv])
        rw [hv] at HKK
        go_wp2
        go_region_held3 (fun w' => w'.cell? ⟨b, o + (j - 1), none⟩ = some (.int .i64 y)) (simp [go_sem, ↓IntWalk.iteOmega, *]) (first | (go_at_call 90; (with_reducible refine (HKA.out _ (hA.ext (by repeat (first | exact Ext.refl' _ | assumption | apply Ext.ex' | apply Ext.al | apply Ext.drN | apply Ext.dr)))).mono ?_); rintro e w2 ⟨rfl, hb2⟩; obtain ⟨xa, rfl⟩ := hb2.get; clear hb2) | (go_at_call 90; (with_reducible refine (HKB.out _ (hB.ext (by repeat (first | exact Ext.refl' _ | assumption | apply Ext.ex' | apply Ext.al | apply Ext.drN | apply Ext.dr)))).mono ?_); rintro e w2 ⟨rfl, hb2⟩; obtain ⟨xb, rfl⟩ := hb2.get; clear hb2) | (go_at_call 89; refine (HKK.out _).mono ?_; rintro e w2 ⟨rfl, rfl⟩))
        all_goals clear e1 e2 e3 e4 e5 e6
        all_goals go_wp2
        all_goals
          go_roundw
          case rel =>
            rename_i hHeld
            clear hHeld
            exact rel_same hown (by repeat (first | exact Ext.refl' _ | assumption | apply Ext.ex' | apply Ext.al | apply Ext.drN | apply Ext.dr)) fun x' hx' ho' => ⟨j + 1, acc, x', by omega, by omega, by omega, by go_num, HE, hx', ho'⟩
          case measure => simp [intOf]; omega
      · have HE : Hid (combF k la lb = cmbF (fun t => k (inL la t) (inL lb t)) (joinF acc (y, z)) (pairsF (ps.drop (j + 1 - 1)))) := Lib.hid (by rw [HC.out, HD.out, cmbF]; simp [hv])
        rw [hv] at HKK
        have hjl := joinF_length acc (y, z)
        go_wp2
        go_region_held3 (fun w' => w'.cell? ⟨b, o + (j - 1), none⟩ = some (.int .i64 y)) (simp [go_sem, ↓IntWalk.iteOmega, *]) (first | (go_at_call 90; (with_reducible refine (HKA.out _ (hA.ext (by repeat (first | exact Ext.refl' _ | assumption | apply Ext.ex' | apply Ext.al | apply Ext.drN | apply Ext.dr)))).mono ?_); rintro e w2 ⟨rfl, hb2⟩; obtain ⟨xa, rfl⟩ := hb2.get; clear hb2) | (go_at_call 90; (with_reducible refine (HKB.out _ (hB.ext (by repeat (first | exact Ext.refl' _ | assumption | apply Ext.ex' | apply Ext.al | apply Ext.drN | apply Ext.dr)))).mono ?_); rintro e w2 ⟨rfl, hb2⟩; obtain ⟨xb, rfl⟩ := hb2.get; clear hb2) | (go_at_call 89; refine (HKK.out _).mono ?_; rintro e w2 ⟨rfl, rfl⟩))
        all_goals clear e1 e2 e3 e4 e5 e6
        all_goals go_wp2
        have ho5 : (ext (ext (ext w1 x).drew xa) xb).ownsRow w1.heap.size 25 2 _ acc.length (pc acc) := own_ext (own_ext (by exact hown) xa) xb
        have e1 : IntKind.i64.wrap ((j : Int) - 1) = (j : Int) - 1 := IntWalk.i64_in _ (by omega)
        have e2 : (0 : Int) ≤ (j : Int) - 1 := by omega
        have e3 : (1 : Int) ≤ (j : Int) := by omega
        have e4 : (j : Int) - 1 < (ps.length : Int) := by omega
        have e5 : (j : Int) < (ps.length : Int) := by omega
        have e6 : ((j : Int) - 1).toNat = j - 1 := by omega
        have HJ := Lib.hid (fun v w hw ho => join_w w1 w hw v acc (y, z) ho (by omega))
        go_region_held3 (fun w' => w'.cell? ⟨b, o + (j - 1), none⟩ = some (.int .i64 y) ∧ w'.cell? ⟨b, o + j, none⟩ = some (.int .i64 z)) (simp [go_sem, ↓IntWalk.iteOmega, *]) ((go_at_call 91; refine (HJ.out _ _ (by repeat (first | exact Ext.refl' _ | assumption | apply Ext.ex' | apply Ext.al | apply Ext.drN | apply Ext.dr)) (by exact ho5)).mono ?_; rintro e w2 ⟨v5, x5, rfl, rfl, ho6⟩))
        clear e1 e2 e3 e4 e5 e6
        go_wp2
        go_roundw
        case rel => exact ⟨j + 1, joinF acc (y, z), x5, by omega, by omega, by omega, by go_num, HE, rfl, ho6⟩
        case measure => simp [intOf]; omega
    · have H0 : Hid (combF k la lb = acc) := Lib.hid (by rw [HC.out, pairsF_end (by omega)]; rfl)
      go_wp2
      go_ret
      exact ⟨_, rfl, hw.tr (Ext.ex _ _), by rw [H0.out]; exact own_mono hown hw.size⟩
theorem combined_any (kind : Int) (k : Bool → Bool → Bool) (hk : ∀ a b w, Calls Tryz.prog 89 #[.int .i64 kind, .bool a, .bool b] w fun e w' => e = .returned (.bool (k a b)) ∧ w = w')
    (A B : Option Addr) (ca cb : Nat) (la lb : List (Int × Int)) (w : World) (hA : Rd w 2 A la.length (pc la)) (hB : Rd w 2 B lb.length (pc lb)) (ha : la.length ≤ 549755813888) (hb : lb.length ≤ 549755813888) :
    Calls Tryz.prog 83 #[.int .i64 kind, .slice A la.length ca, .slice B lb.length cb] w (RdP 2 (combF k la lb).length (pc (combF k la lb)) w) :=
  (combinedO_any kind k hk A B ca cb la lb w hA hB ha hb).mono fun _ _ h => h.rd


set_option maxHeartbeats 400000 in
theorem runionO_any (A B : Option Addr) (ca cb : Nat) (la lb : List (Int × Int)) (w : World) (hA : Rd w 2 A la.length (pc la)) (hB : Rd w 2 B lb.length (pc lb)) (ha : la.length ≤ 549755813888) (hb : lb.length ≤ 549755813888) :
    Calls Tryz.prog 72 #[.slice A la.length ca, .slice B lb.length cb] w (OwR 25 2 (combF ofK la lb).length (pc (combF ofK la lb)) w) := by
  go_enter Tryz.func72, Tryz.ntmps72
  go_wp2_with (go_at_call 83; refine (combinedO_any 2 ofK wanted2 A B ca cb la lb _ hA hB ha hb).mono ?_; rintro e w1 ⟨v1, rfl, hb1, hP⟩)
  go_ret
  exact ⟨v1, rfl, hb1, hP⟩
theorem runion_any (A B : Option Addr) (ca cb : Nat) (la lb : List (Int × Int)) (w : World) (hA : Rd w 2 A la.length (pc la)) (hB : Rd w 2 B lb.length (pc lb)) (ha : la.length ≤ 549755813888) (hb : lb.length ≤ 549755813888) :
    Calls Tryz.prog 72 #[.slice A la.length ca, .slice B lb.length cb] w (RdP 2 (combF ofK la lb).length (pc (combF ofK la lb)) w) :=
  (runionO_any A B ca cb la lb w hA hB ha hb).mono fun _ _ h => h.rd


set_option maxHeartbeats 400000 in
theorem rintersectO_any (A B : Option Addr) (ca cb : Nat) (la lb : List (Int × Int)) (w : World) (hA : Rd w 2 A la.length (pc la)) (hB : Rd w 2 B lb.length (pc lb)) (ha : la.length ≤ 549755813888) (hb : lb.length ≤ 549755813888) :
    Calls Tryz.prog 73 #[.slice A la.length ca, .slice B lb.length cb] w (OwR 25 2 (combF interK la lb).length (pc (combF interK la lb)) w) := by
  go_enter Tryz.func73, Tryz.ntmps73
  go_wp2_with (go_at_call 83; refine (combinedO_any 1 interK wanted1 A B ca cb la lb _ hA hB ha hb).mono ?_; rintro e w1 ⟨v1, rfl, hb1, hP⟩)
  go_ret
  exact ⟨v1, rfl, hb1, hP⟩
theorem rintersect_any (A B : Option Addr) (ca cb : Nat) (la lb : List (Int × Int)) (w : World) (hA : Rd w 2 A la.length (pc la)) (hB : Rd w 2 B lb.length (pc lb)) (ha : la.length ≤ 549755813888) (hb : lb.length ≤ 549755813888) :
    Calls Tryz.prog 73 #[.slice A la.length ca, .slice B lb.length cb] w (RdP 2 (combF interK la lb).length (pc (combF interK la lb)) w) :=
  (rintersectO_any A B ca cb la lb w hA hB ha hb).mono fun _ _ h => h.rd


set_option maxHeartbeats 400000 in
theorem rsubtractO_any (A B : Option Addr) (ca cb : Nat) (la lb : List (Int × Int)) (w : World) (hA : Rd w 2 A la.length (pc la)) (hB : Rd w 2 B lb.length (pc lb)) (ha : la.length ≤ 549755813888) (hb : lb.length ≤ 549755813888) :
    Calls Tryz.prog 74 #[.slice A la.length ca, .slice B lb.length cb] w (OwR 25 2 (combF subK la lb).length (pc (combF subK la lb)) w) := by
  go_enter Tryz.func74, Tryz.ntmps74
  go_wp2_with (go_at_call 83; refine (combinedO_any 3 subK wanted3 A B ca cb la lb _ hA hB ha hb).mono ?_; rintro e w1 ⟨v1, rfl, hb1, hP⟩)
  go_ret
  exact ⟨v1, rfl, hb1, hP⟩
theorem rsubtract_any (A B : Option Addr) (ca cb : Nat) (la lb : List (Int × Int)) (w : World) (hA : Rd w 2 A la.length (pc la)) (hB : Rd w 2 B lb.length (pc lb)) (ha : la.length ≤ 549755813888) (hb : lb.length ≤ 549755813888) :
    Calls Tryz.prog 74 #[.slice A la.length ca, .slice B lb.length cb] w (RdP 2 (combF subK la lb).length (pc (combF subK la lb)) w) :=
  (rsubtractO_any A B ca cb la lb w hA hB ha hb).mono fun _ _ h => h.rd


set_option maxHeartbeats 400000 in
theorem rof_any (A : Option Addr) (ca : Nat) (la : List (Int × Int)) (w : World) (hA : Rd w 2 A la.length (pc la)) (ha : la.length ≤ 549755813888) : Calls Tryz.prog 82 #[.slice A la.length ca] w (RdP 2 (combF ofK la []).length (pc (combF ofK la [])) w) := by
  go_enter Tryz.func82, Tryz.ntmps82
  go_wp2_with (go_at_call 83; refine (combined_any 2 ofK wanted2 A none ca 0 la [] _ hA Rd.nil ha (by simp)).mono ?_; rintro e w1 ⟨A1, c1, rfl, hb1, hP⟩)
  go_ret
  exact ⟨A1, c1, rfl, hb1, hP⟩


end Go.Proofs.YtccndjnaakmlkaaGreat
