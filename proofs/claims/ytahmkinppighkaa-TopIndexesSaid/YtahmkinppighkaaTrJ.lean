/- Packed trees: Stab, Bounds, Len, Depth of the program; the error of boxes. -/
import Derived.Test.YtahmkinppighkaaTrI
import Derived.Maps.Own
import Derived.Maps.Views
set_option linter.unusedSimpArgs false
set_option linter.unusedVariables false
namespace Go.Proofs.Ytahmkinppighkaa
open Go.RowKit Go.Maps


def bdF (root : Option Tr) : Rct × Bool := match root with | none => (((0, 0), (0, 0)), false) | some t => (t.r, true)
def stB (v s : Int) : Bool := decide (0 ≤ v) && decide (v < 1099511627776) && decide (0 ≤ s) && decide (s < 1099511627776)
def stQ (v s : Int) : Rct := ((v, v + 1), (s, s + 1))
def stF (root : Option Tr) (v s : Int) : List Int := if stB v s then ((exQ (stQ v s) root).flatMap (own (stQ v s))).mergeSort fun x y => decide (x ≤ y) else []
theorem elBool_inv {e : TypeId} (he : Try.prog.underlying e = some .bool) {v : Value} {x : Bool} {ps : List MemPlace} (h : plainElem (H := Unit) Try.prog e v = some (.lit (.bool x), ps)) : v = .bool x := by
  unfold plainElem at h
  cases v <;> simp_all
theorem keyI : Keyed Try.prog 3 := int_keyed Try.underlying3


set_option maxRecDepth 100000 in
set_option maxHeartbeats 4000000 in
theorem check_any (A : Option Addr) (n c : Nat) (L : List Bxs) (w : World) (hL : n = L.length) (hR : Rd w 5 A n (bxl L)) (hn : n ≤ 1048576) (hwf : ∀ b ∈ L, (Lit.int .i64 b.2).wf = true) :
    Calls Try.prog 38 #[.slice A n c] w fun e w' => e = .returned (.int .i64 (chkF [] L)) ∧ Ext w w' := by
  subst hL
  have hmm := @run_makeMap Try.prog
  go_enter Try.func38, Try.ntmps38
  go_wp2
  go_loopw [9] (fun i wr => ∃ (k : Nat) (D : DataW Unit), i = .int .i64 k ∧ k ≤ L.length ∧ (wr.ownsMap Try.prog 3 (plainElem (H := Unit) Try.prog 4) w.heap.size k D ∧ IsMap D ∧ (∀ id : Int, (Lit.int .i64 id).wf = true → D.atKey (.int .i64 id) (.lit (.bool false)) = .lit (.bool (decide (id ∈ (L.take k).map (·.2)))))) ∧ Ext w wr ∧ Hid (chkF [] L = chkF ((L.take k).map (·.2)) (L.drop k))) (fun i _ => L.length - (intOf i).toNat)
  case atStart => exact ⟨0, .map [], rfl, Nat.zero_le _, ⟨World.ownsMap_made w _ _ _, isMap_empty, fun id _ => by simp; rfl⟩, Ext.al1 _ _, Lib.hid rfl⟩
  case round =>
    obtain ⟨k, D, rfl, hk, ⟨hown, hD, hat⟩, hE, HC⟩ := hrel
    have HAT := Lib.hid hat
    clear hat
    have hws := hown.lt
    by_cases hlt : k < L.length
    · obtain ⟨b, o, rfl, hb, e0, e1, e2, e3, e4⟩ := (hR.ext hE).box rfl hlt
      have HD := Lib.hid (List.drop_eq_getElem_cons hlt)
      have HT := Lib.hid (List.take_succ_eq_append_getElem hlt)
      have hid := hwf L[k] (List.getElem_mem hlt)
      generalize L[k] = bb at e0 e1 e2 e3 e4 HD HT hid
      obtain ⟨r, id⟩ := bb
      simp only at e0 e1 e2 e3 e4 hid
      have HV := Lib.hid (fun w => tvalid_any r w)
      have hkey := keyOf_int_mk (P := Try.prog) Try.underlying3 hid
      have HID := Lib.hid hid
      clear hid
      rcases hv : rvB r with _ | _
      · rw [hv] at HV
        have HF : Hid (chkF [] L = 8) := Lib.hid (by rw [HC.out, HD.out, chkF, hv]; rfl)
        clear hkey hv
        go_wp2_with (go_at_call 61; refine (HV.out _).mono ?_; rintro e w1 ⟨rfl, hb1⟩; obtain ⟨x1, rfl⟩ := hb1.get; clear hb1)
        go_ret
        exact ⟨by rw [HF.out]; rfl, by repeat (first | exact Ext.refl' _ | assumption | apply Ext.ex' | apply Ext.al | apply Ext.drN | apply Ext.dr)⟩
      · rw [hv] at HV
        have HAK := Lib.hid (HAT.out id HID.out)
        rcases hm : decide (id ∈ (L.take k).map (·.2)) with _ | _
        · have HF : Hid (chkF [] L = chkF ((L.take (k + 1)).map (·.2)) (L.drop (k + 1))) := Lib.hid (by
            rw [HC.out, HD.out, chkF, hv, HT.out]
            simp only [decide_eq_false_iff_not] at hm
            rw [if_pos rfl, if_neg hm]; simp)
          rw [hm] at HAK
          clear hv hm
          go_wp2_with (first | (go_at_call 61; refine (HV.out _).mono ?_; rintro e w1 ⟨rfl, hb1⟩; obtain ⟨x1, rfl⟩ := hb1.get; clear hb1; have hown2 := (hown.alloc (.cells #[.int .i64 r.1.1, .int .i64 r.1.2, .int .i64 r.2.1, .int .i64 r.2.2, .int .i64 id] 52)).kept (ext_grown (Ext.ex _ x1)) (by simp); obtain ⟨v, ps, hrun, hv⟩ := hown2.lookup keyI Try.underlying114 (Try.zeroValue4 _) (plainElem_bool Try.underlying4 false) hkey; rw [HAK.out] at hv; have hv' := elBool_inv Try.underlying4 hv; clear hv; subst hv') | (at_mapUpdate; refine wpList_mapUpdate_own _ rfl _ _ _ 114 rfl 3 4 keyI Try.underlying114 _ w.heap.size k D rfl hown2 (by unfold maxLen; omega) _ _ (.int .i64 id) rfl rfl hkey (.lit (.bool true)) [] (plainElem_bool Try.underlying4 true) ?_; intro w2 hown3 hg3))
          go_roundw
          case rel => exact ⟨k + 1, _, by go_num, by omega, ⟨hown3, IsMap.put hD _ _, fun z hz => by
            rw [HT.out, List.map_append]
            by_cases hzi : z = id
            · subst hzi
              rw [atKey_put_same hD (by trivial)]
              simp
            · rw [atKey_put_other (by simp; exact hzi), HAT.out z hz]
              simp [hzi]⟩, Below.grown (hE.tr (by repeat (first | exact Ext.refl' _ | assumption | apply Ext.ex' | apply Ext.al | apply Ext.drN | apply Ext.dr))) hg3 (by simp; omega) (fun j hj => by cases hj; exact Nat.le_refl _), HF⟩
          case measure => simp [intOf]; omega
        · have HF : Hid (chkF [] L = 10) := Lib.hid (by
            rw [HC.out, HD.out, chkF, hv]
            simp only [decide_eq_true_eq] at hm
            rw [if_pos rfl, if_pos hm])
          rw [hm] at HAK
          clear hv hm
          go_wp2_with ((go_at_call 61; refine (HV.out _).mono ?_; rintro e w1 ⟨rfl, hb1⟩; obtain ⟨x1, rfl⟩ := hb1.get; clear hb1; have hown2 := (hown.alloc (.cells #[.int .i64 r.1.1, .int .i64 r.1.2, .int .i64 r.2.1, .int .i64 r.2.2, .int .i64 id] 52)).kept (ext_grown (Ext.ex _ x1)) (by simp); obtain ⟨v, ps, hrun, hv⟩ := hown2.lookup keyI Try.underlying114 (Try.zeroValue4 _) (plainElem_bool Try.underlying4 false) hkey; rw [HAK.out] at hv; have hv' := elBool_inv Try.underlying4 hv; clear hv; subst hv'))
          go_ret
          exact ⟨by rw [HF.out]; rfl, by repeat (first | exact Ext.refl' _ | assumption | apply Ext.ex' | apply Ext.al | apply Ext.drN | apply Ext.dr)⟩
    · have HF : Hid (chkF [] L = 0) := Lib.hid (by rw [HC.out, List.drop_eq_nil_of_le (Nat.le_of_not_lt hlt)]; rfl)
      go_wp2
      go_ret
      exact ⟨by rw [HF.out]; rfl, hE⟩

end Go.Proofs.Ytahmkinppighkaa
