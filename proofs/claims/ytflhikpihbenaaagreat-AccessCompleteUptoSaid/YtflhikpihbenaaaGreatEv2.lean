/- The reference of expressions: computed values. -/
import Derived.Test.YtflhikpihbenaaaGreatEv1
set_option linter.unusedSimpArgs false
set_option linter.unusedVariables false
namespace Go.Proofs.YtflhikpihbenaaaGreat
open Go.RowKit


def AP (a : Int) (e : Ending) : Prop := ∃ z : Int, e = .returned (.int .i64 z) ∧ (a ≠ 0 → z ≠ 0)
theorem AP.mk {a z : Int} (h : a ≠ 0 → z ≠ 0) : AP a (.returned (.int .i64 z)) := ⟨z, rfl, h⟩
theorem RB.mk7 (b : Bool) : RB (.returned (.bool b)) := ⟨b, rfl⟩
set_option maxRecDepth 100000 in
set_option maxHeartbeats 4000000 in
theorem abs_any (a : Int) (w : World) (h1 : -9223372036854775808 ≤ a) (h2 : a ≤ 9223372036854775807) : Calls Tryz.prog 67 #[.int .i64 a] w fun e w' => AP a e ∧ Ext w w' := by
  have hz : a ≠ 0 → wrap64 (-a) ≠ 0 := by
    intro ha
    by_cases hm : a = -9223372036854775808
    · subst hm; unfold wrap64; omega
    · rw [IntWalk.wrap64_in _ (by omega)]; omega
  have HZ := Lib.hid (AP.mk hz)
  have HA := Lib.hid (AP.mk (a := a) (z := a) fun h => h)
  go_enter Tryz.func67, Tryz.ntmps67
  go_wp2
  all_goals go_ret
  all_goals first
    | exact ⟨HA.out, by repeat (first | exact Ext.refl' _ | assumption | apply Ext.ex' | apply Ext.al | apply Ext.drN | apply Ext.dr)⟩
    | exact ⟨HZ.out, by repeat (first | exact Ext.refl' _ | assumption | apply Ext.ex' | apply Ext.al | apply Ext.drN | apply Ext.dr)⟩
theorem Rd.val3 {w : World} {A : Option Addr} {l : List Va} {n : Nat} (h : Rd w 3 A n (vcl l)) (hn : l.length = n) {k : Nat} (hk : k < n) :
    ∃ v b o, l[k]? = some v ∧ A = some ⟨b, o, none⟩ ∧ b < w.heap.size ∧ w.cell? ⟨b, o + k * 3, none⟩ = some (.int .i64 v.k) ∧ w.cell? ⟨b, o + k * 3 + 1, none⟩ = some (.int .i64 v.i) ∧ w.cell? ⟨b, o + k * 3 + 2, none⟩ = some (.string v.t) := by
  have hk' : k < l.length := by omega
  subst hn
  obtain ⟨b, o, h1, h2, h3, h4, h5⟩ := h.val hk'
  exact ⟨l[k], b, o, List.getElem?_eq_getElem hk', h1, h2, h3, h4, h5⟩
set_option maxRecDepth 100000 in
set_option maxHeartbeats 4000000 in
theorem are_any (A : Option Addr) (n c : Nat) (l : List Va) (kd : Int) (w : World) (hn : l.length = n) (hA : Rd w 3 A n (vcl l)) (nl : n ≤ 1048576) :
    Calls Tryz.prog 42 #[.slice A n c, .int .i64 kd] w fun e w' => RB e ∧ Ext w w' := by
  have HN := Lib.hid hn
  clear hn
  go_enter Tryz.func42, Tryz.ntmps42
  go_wp2
  go_loop [5] (fun i => ∃ k : Nat, k ≤ n ∧ i = .int .i64 k) (fun i => n - (intOf i).toNat)
  case atStart => exact ⟨0, Nat.zero_le _, rfl⟩
  case round =>
    obtain ⟨k, hk, rfl⟩ := hrel
    by_cases hlt : k < n
    · obtain ⟨v, b, oo, hv, rfl, hb, c0, c1, c2⟩ := hA.val3 HN.out hlt
      rcases h1 : (v.k != kd) with _ | _
      · go_wp2
        go_round
        case rel => exact ⟨k + 1, by omega, by go_num⟩
        case measure => simp [intOf]; omega
      · go_wp2
        go_ret
        exact ⟨RB.mk7 _, Ext.refl' _⟩
    · go_wp2
      go_ret
      exact ⟨RB.mk7 _, Ext.refl' _⟩


set_option maxRecDepth 100000 in
set_option maxHeartbeats 4000000 in
theorem computed_any (op a b : Int) (w : World) (ha1 : -9223372036854775808 ≤ a) (ha2 : a ≤ 9223372036854775807) (hb1 : -9223372036854775808 ≤ b) (hb2 : b ≤ 9223372036854775807) : Calls Tryz.prog 47 #[.int .i64 op, .int .i64 a, .int .i64 b] w fun e w' => RVs e ∧ Ext w w' := by
  rcases h13 : (op == 13) with _ | _
  case true =>
    go_enter Tryz.func47, Tryz.ntmps47
    go_wp2_with (go_at_call 43; refine (rint7_any _ _).mono ?_; rintro e w1 ⟨⟨r, rfl, hr⟩, hb1⟩; obtain ⟨x1, rfl⟩ := hb1.get; clear hb1)
    refine bodyPost_ret (v := vag r) ?_ rfl ⟨RVs.mk r hr, by repeat (first | exact Ext.refl' _ | assumption | apply Ext.ex' | apply Ext.al | apply Ext.drN | apply Ext.dr)⟩
    simp [results, Tryz.results47, go_sem, ↓IntWalk.iteOmega]
  rcases h14 : (op == 14) with _ | _
  case true =>
    go_enter Tryz.func47, Tryz.ntmps47
    go_wp2_with (go_at_call 43; refine (rint7_any _ _).mono ?_; rintro e w1 ⟨⟨r, rfl, hr⟩, hb1⟩; obtain ⟨x1, rfl⟩ := hb1.get; clear hb1)
    refine bodyPost_ret (v := vag r) ?_ rfl ⟨RVs.mk r hr, by repeat (first | exact Ext.refl' _ | assumption | apply Ext.ex' | apply Ext.al | apply Ext.drN | apply Ext.dr)⟩
    simp [results, Tryz.results47, go_sem, ↓IntWalk.iteOmega]
  rcases h15 : (op == 15) with _ | _
  case true =>
    rcases h0 : (a != 0) with _ | _
    · go_enter Tryz.func47, Tryz.ntmps47
      go_wp2_with (go_at_call 43; refine (rint7_any _ _).mono ?_; rintro e w1 ⟨⟨r, rfl, hr⟩, hb1⟩; obtain ⟨x1, rfl⟩ := hb1.get; clear hb1)
      refine bodyPost_ret (v := vag r) ?_ rfl ⟨RVs.mk r hr, by repeat (first | exact Ext.refl' _ | assumption | apply Ext.ex' | apply Ext.al | apply Ext.drN | apply Ext.dr)⟩
      simp [results, Tryz.results47, go_sem, ↓IntWalk.iteOmega]
    · have ha0 : a ≠ 0 := by simpa using h0
      go_enter Tryz.func47, Tryz.ntmps47
      go_wp2_with fail
      refine (abs_any b _ (hb1) (hb2)).mono ?_
      rintro e w1 ⟨⟨zb, rfl, hzb⟩, hbx⟩
      obtain ⟨xzb, rfl⟩ := hbx.get
      clear hbx
      go_wp2_with fail
      refine (abs_any a _ (ha1) (ha2)).mono ?_
      rintro e w1 ⟨⟨za, rfl, hza⟩, hbx⟩
      obtain ⟨xza, rfl⟩ := hbx.get
      clear hbx
      have hz0 : ¬ za = 0 := hza ha0
      go_wp2_with (first | (go_at_call 36; refine (rnull7 _).mono ?_; rintro e w1 ⟨rfl, hb1⟩; obtain ⟨x1, rfl⟩ := hb1.get; clear hb1) | (go_at_call 43; refine (rint7_any _ _).mono ?_; rintro e w1 ⟨⟨r, rfl, hr⟩, hb1⟩; obtain ⟨x1, rfl⟩ := hb1.get; clear hb1))
      all_goals first
        | (refine bodyPost_ret (v := vag nullV) ?_ rfl ⟨RVs.mk nullV (by decide), by repeat (first | exact Ext.refl' _ | assumption | apply Ext.ex' | apply Ext.al | apply Ext.drN | apply Ext.dr)⟩; simp [results, Tryz.results47, go_sem, ↓IntWalk.iteOmega, nullV]; done)
        | (refine bodyPost_ret (v := vag r) ?_ rfl ⟨RVs.mk r hr, by repeat (first | exact Ext.refl' _ | assumption | apply Ext.ex' | apply Ext.al | apply Ext.drN | apply Ext.dr)⟩; simp [results, Tryz.results47, go_sem, ↓IntWalk.iteOmega]; done)
  rcases h0 : (b == 0) with _ | _
  case true =>
    go_enter Tryz.func47, Tryz.ntmps47
    go_wp2_with (go_at_call 36; refine (rnull7 _).mono ?_; rintro e w1 ⟨rfl, hb1⟩; obtain ⟨x1, rfl⟩ := hb1.get; clear hb1)
    refine bodyPost_ret (v := vag nullV) ?_ rfl ⟨RVs.mk nullV (by decide), by repeat (first | exact Ext.refl' _ | assumption | apply Ext.ex' | apply Ext.al | apply Ext.drN | apply Ext.dr)⟩
    simp [results, Tryz.results47, go_sem, ↓IntWalk.iteOmega, nullV]
  have hb0 : ¬ b = 0 := by simpa using h0
  rcases h16 : (op == 16) with _ | _
  · go_enter Tryz.func47, Tryz.ntmps47
    go_wp2_with (go_at_call 43; refine (rint7_any _ _).mono ?_; rintro e w1 ⟨⟨r, rfl, hr⟩, hb1⟩; obtain ⟨x1, rfl⟩ := hb1.get; clear hb1)
    refine bodyPost_ret (v := vag r) ?_ rfl ⟨RVs.mk r hr, by repeat (first | exact Ext.refl' _ | assumption | apply Ext.ex' | apply Ext.al | apply Ext.drN | apply Ext.dr)⟩
    simp [results, Tryz.results47, go_sem, ↓IntWalk.iteOmega]
  · go_enter Tryz.func47, Tryz.ntmps47
    go_wp2_with (go_at_call 43; refine (rint7_any _ _).mono ?_; rintro e w1 ⟨⟨r, rfl, hr⟩, hb1⟩; obtain ⟨x1, rfl⟩ := hb1.get; clear hb1)
    refine bodyPost_ret (v := vag r) ?_ rfl ⟨RVs.mk r hr, by repeat (first | exact Ext.refl' _ | assumption | apply Ext.ex' | apply Ext.al | apply Ext.drN | apply Ext.dr)⟩
    simp [results, Tryz.results47, go_sem, ↓IntWalk.iteOmega]
set_option maxRecDepth 100000 in
set_option maxHeartbeats 4000000 in
theorem compared_any (op : Int) (a b : Va) (w : World) : Calls Tryz.prog 41 #[.int .i64 op, vag a, vag b] w fun e w' => (∃ z : Int, e = .returned (.int .i64 z) ∧ (op = 7 → z = tyT a b (cmpV a b == 0))) ∧ Ext w w' := by
  by_cases h7 : op = 7
  · subst h7
    have hc := fun W => requal7_any a b W
    generalize tyT a b (cmpV a b == 0) = t at hc ⊢
    have HC := Lib.hid hc
    clear hc
    go_enter Tryz.func41, Tryz.ntmps41
    go_wp2_with fail
    refine (HC.out _).mono ?_
    rintro e w1 ⟨rfl, hb1⟩
    obtain ⟨x1, rfl⟩ := hb1.get
    clear hb1
    go_wp2
    go_ret
    exact ⟨⟨_, rfl, fun _ => rfl⟩, by repeat (first | exact Ext.refl' _ | assumption | apply Ext.ex' | apply Ext.al | apply Ext.drN | apply Ext.dr)⟩
  · have h7b : (op == 7) = false := by simpa using h7
    have HN : Hid (∀ (z : Int) (W : World), Ext w W → (∃ z' : Int, Ending.returned (.int .i64 z) = .returned (.int .i64 z') ∧ (op = 7 → z' = tyT a b (cmpV a b == 0))) ∧ Ext w W) := Lib.hid fun z W e => ⟨⟨z, rfl, fun h => absurd h h7⟩, e⟩
    have HC := Lib.hid fun W => requal7_any a b W
    generalize tyT a b (cmpV a b == 0) = t at HN HC ⊢
    clear h7
    rcases h8 : (op == 8) with _ | _ <;> rcases h9 : (op == 9) with _ | _ <;> rcases h11 : (op == 11) with _ | _ <;> rcases h10 : (op == 10) with _ | _
    all_goals go_enter Tryz.func41, Tryz.ntmps41
    all_goals go_wp2_with (first
      | (go_at_call 62; refine (HC.out _).mono ?_; rintro e w1 ⟨rfl, hb1⟩; obtain ⟨x1, rfl⟩ := hb1.get; clear hb1)
      | (go_at_call 63; refine (rless7_any _ _ _).mono ?_; rintro e w1 ⟨⟨z1, rfl⟩, hb1⟩; obtain ⟨x2, rfl⟩ := hb1.get; clear hb1)
      | (go_at_call 39; refine (rnot7_any _ _).mono ?_; rintro e w1 ⟨⟨z2, rfl⟩, hb1⟩; obtain ⟨x3, rfl⟩ := hb1.get; clear hb1))
    all_goals go_ret
    all_goals exact HN.out _ _ (by repeat (first | exact Ext.refl' _ | assumption | apply Ext.ex' | apply Ext.al | apply Ext.drN | apply Ext.dr))

end Go.Proofs.YtflhikpihbenaaaGreat
