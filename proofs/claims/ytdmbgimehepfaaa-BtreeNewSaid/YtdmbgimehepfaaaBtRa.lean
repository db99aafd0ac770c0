/- The law and the reference: comparing, valid keys, lists of numbers. -/
import Derived.Test.YtdmbgimehepfaaaBtCm
set_option linter.unusedSimpArgs false
set_option linter.unusedVariables false
namespace Go.Proofs.Ytdmbgimehepfaaa
open Go.RowKit

set_option maxHeartbeats 800000 in
theorem r9print_any (s : ByteArray) (w : World) (hs : s.size ≤ 9223372036854775807) :
    Calls Try.prog 72 #[.string s] w fun e w' => e = .returned (.bool (prB s)) ∧ Ext w w' := by
  go_enter Try.func72, Try.ntmps72
  go_wp2
  go_loop [3] (fun i => ∃ k : Nat, k ≤ s.size ∧ i = .int .i64 k ∧ Hid (prB s = prL (s.data.toList.drop k))) (fun i => s.size - (intOf i).toNat)
  case atStart => exact ⟨0, Nat.zero_le _, rfl, Lib.hid rfl⟩
  case round =>
    obtain ⟨k, hk, rfl, HC⟩ := hrel
    by_cases hlt : k < s.size
    · have HD : Hid (prB s = prL (s[k] :: s.data.toList.drop (k + 1))) := Lib.hid (by rw [HC.out, drop_byte s k hlt])
      clear HC
      rcases (show ((s[k].toNat : Int) < 32) ∨ (¬ (s[k].toNat : Int) < 32 ∧ 126 < (s[k].toNat : Int)) ∨ (¬ (s[k].toNat : Int) < 32 ∧ ¬ 126 < (s[k].toNat : Int)) from by omega) with h1 | ⟨h1, h2⟩ | ⟨h1, h2⟩
      · have H0 : Hid (prB s = false) := Lib.hid (by rw [HD.out, prL, if_pos h1])
        clear HD
        go_wp2
        go_ret
        exact ⟨by rw [H0.out]; rfl, Ext.refl' _⟩
      · have H0 : Hid (prB s = false) := Lib.hid (by rw [HD.out, prL, if_neg h1, if_pos h2])
        clear HD
        go_wp2
        go_ret
        exact ⟨by rw [H0.out]; rfl, Ext.refl' _⟩
      · have H0 : Hid (prB s = prL (s.data.toList.drop (k + 1))) := Lib.hid (by rw [HD.out, prL, if_neg h1, if_neg h2])
        clear HD
        go_wp2
        go_round
        case rel => exact ⟨k + 1, by omega, by go_num, H0⟩
        case measure => simp [intOf]; omega
    · have H0 : Hid (prB s = true) := Lib.hid (by rw [HC.out, List.drop_eq_nil_of_le (by simpa using Nat.le_of_not_lt hlt)]; rfl)
      clear HC
      go_wp2
      go_ret
      exact ⟨by rw [H0.out]; rfl, Ext.refl' _⟩



set_option maxHeartbeats 2000000 in
theorem rcmp30_any (A B : Option Addr) (c d : Nat) (a b : List Va) (w : World) (hA : Rd w 3 A a.length (vcl a)) (hB : Rd w 3 B b.length (vcl b)) (na : a.length ≤ 1048576) (nb : b.length ≤ 1048576) :
    Calls Try.prog 27 #[.slice A a.length c, .slice B b.length d] w fun e w' => e = .returned (.int .i64 (cmpR a b)) ∧ Ext w w' := by
  have H := Lib.hid (r9cmp_any A B c d a b w hA hB (by omega) (by omega))
  generalize cmpR a b = z at H ⊢
  clear hA hB
  go_enter Try.func27, Try.ntmps27
  go_wp2_with (go_at_call 47; refine Calls.mono H.out ?_; rintro e w1 ⟨rfl, hb1⟩; obtain ⟨y1, rfl⟩ := hb1.get; clear hb1)
  go_ret
  exact ⟨rfl, by repeat (first | exact Ext.refl' _ | assumption | apply Ext.ex' | apply Ext.al | apply Ext.drN | apply Ext.dr)⟩
/-- 'some bool', hidden from the walk -/
def RBx (e : Ending) : Prop := ∃ b : Bool, e = .returned (.bool b)
theorem RBx.mk {e : Ending} (b : Bool) (h : e = .returned (.bool b)) : RBx e := ⟨b, h⟩
def RBp (p : Prop) (e : Ending) : Prop := ∃ b : Bool, e = .returned (.bool b) ∧ (b = true → p)
theorem RBp.mk {p : Prop} {e : Ending} (b : Bool) (h : e = .returned (.bool b)) (h2 : b = true → p) : RBp p e := ⟨b, h, h2⟩
set_option maxHeartbeats 4000000 in
theorem vv9_any (v : Va) (w : World) (hs : v.t.size ≤ 9223372036854775807) :
    Calls Try.prog 60 #[vag v] w fun e w' => RBx e ∧ Ext w w' := by
  go_enter Try.func60, Try.ntmps60
  go_wp2_with (go_at_call 72; refine (r9print_any _ _ hs).mono ?_; rintro e w1 ⟨rfl, hb1⟩; obtain ⟨x1, rfl⟩ := hb1.get; clear hb1)
  all_goals go_ret
  all_goals exact ⟨RBx.mk _ rfl, by repeat (first | exact Ext.refl' _ | apply Ext.ex' | apply Ext.al)⟩
theorem Rd.va {w : World} {A : Option Addr} {l : List Va} {n : Nat} (h : Rd w 3 A n (vcl l)) (hn : n = l.length) {k : Nat} (hk : k < l.length) :
    ∃ b o, A = some ⟨b, o, none⟩ ∧ b < w.heap.size ∧ w.cell? ⟨b, o + k * 3, none⟩ = some (.int .i64 l[k].k) ∧ w.cell? ⟨b, o + k * 3 + 1, none⟩ = some (.int .i64 l[k].i) ∧ w.cell? ⟨b, o + k * 3 + 2, none⟩ = some (.string l[k].t) := by
  obtain ⟨b, o, hA, hb, hc⟩ := h.2 (by omega)
  have f := fun j hj => fmv_get vc 3 (fun _ => rfl) l k hk j hj
  exact ⟨b, o, hA, hb, hc _ _ (f 0 (by omega)), hc _ _ (f 1 (by omega)), hc _ _ (f 2 (by omega))⟩
set_option maxRecDepth 100000 in
set_option maxHeartbeats 4000000 in
theorem vr9_any (A : Option Addr) (c : Nat) (l : List Va) (w : World) (hR : Rd w 3 A l.length (vcl l)) (hl : l.length ≤ 9223372036854775807) (ht : ∀ v ∈ l, v.t.size ≤ 9223372036854775807) :
    Calls Try.prog 46 #[.slice A l.length c] w fun e w' => RBp (l.length ≤ 12) e ∧ Ext w w' := by
  have HT := Lib.hid ht
  obtain ⟨n, hn⟩ : ∃ n, l.length = n := ⟨_, rfl⟩
  have HN := Lib.hid hn
  rw [hn] at hR hl ⊢
  clear ht hn
  go_enter Try.func46, Try.ntmps46
  go_wp2
  go_loopg [7] n (fun g x wr => ∃ k : Nat, x = .int .i64 k ∧ k ≤ n ∧ n - k ≤ g ∧ Ext w wr)
  case atStart => exact ⟨0, rfl, by omega, by omega, Ext.refl' _⟩
  case round =>
    obtain ⟨k, rfl, hk, hg, hE⟩ := hrel
    have HG := Lib.hid hg
    clear hg
    by_cases hlt : k < n
    · obtain ⟨b, o, rfl, hb, e0, e1, e2⟩ := (hR.ext hE).va HN.out.symm (by have := HN.out; omega : k < l.length)
      have HV : Hid (∀ W, Calls Try.prog 60 #[vag (l[k]'(by have := HN.out; omega))] W fun e w' => RBx e ∧ Ext W w') := Lib.hid fun W => vv9_any _ W (HT.out _ (List.getElem_mem _))
      generalize l[k]'(by have := HN.out; omega) = v at e0 e1 e2 HV
      have hkz : (k : Int) < (n : Int) := by omega
      go_wp2_with fail
      refine Calls.mono (HV.out _) ?_
      rintro e w1 ⟨⟨b, rfl⟩, hb1⟩
      obtain ⟨x1, rfl⟩ := hb1.get
      clear hb1
      cases b
      · go_wp2
        go_ret
        exact ⟨RBp.mk false rfl (fun h => by cases h), hE.tr (by repeat (first | exact Ext.refl' _ | assumption | apply Ext.ex' | apply Ext.al | apply Ext.drN | apply Ext.dr))⟩
      · go_wp2
        go_roundg (gk - 1)
        case rel => exact ⟨k + 1, by go_num, by omega, by have := HG.out; omega, hE.tr (by repeat (first | exact Ext.refl' _ | assumption | apply Ext.ex' | apply Ext.al | apply Ext.drN | apply Ext.dr))⟩
        case measure => have := HG.out; omega
    · have hkz : ¬ ((k : Int) < (n : Int)) := by omega
      by_cases h12 : n ≤ 12
      · have h12z : (n : Int) ≤ 12 := by omega
        have H12 := Lib.hid h12
        go_wp2
        go_ret
        exact ⟨RBp.mk true (by first | rfl | simp [h12]) (fun _ => by first | trivial | exact H12.out), hE.tr (by repeat (first | exact Ext.refl' _ | assumption | apply Ext.ex' | apply Ext.al | apply Ext.drN | apply Ext.dr))⟩
      · have h12z : ¬ ((n : Int) ≤ 12) := by omega
        go_wp2
        go_ret
        exact ⟨RBp.mk false (by first | rfl | simp [h12]) (fun h => by cases h), hE.tr (by repeat (first | exact Ext.refl' _ | assumption | apply Ext.ex' | apply Ext.al | apply Ext.drN | apply Ext.dr))⟩
set_option maxHeartbeats 2000000 in
theorem valid_any (A : Option Addr) (c : Nat) (l : List Va) (w : World) (hR : Rd w 3 A l.length (vcl l)) (hl : l.length ≤ 9223372036854775807) (ht : ∀ v ∈ l, v.t.size ≤ 9223372036854775807) :
    Calls Try.prog 23 #[.slice A l.length c] w fun e w' => RBp (l.length ≤ 12) e ∧ Ext w w' := by
  have H := Lib.hid (vr9_any A c l w hR hl ht)
  clear hR hl ht
  go_enter Try.func23, Try.ntmps23
  go_wp2_with fail
  refine Calls.mono H.out ?_
  rintro e w1 ⟨⟨b, rfl, hb⟩, hb1⟩
  have HBB := Lib.hid hb
  have hE : Ext w w1 := hb1
  clear hb hb1
  go_wp2
  go_ret
  exact ⟨RBp.mk b rfl HBB.out, hE.tr (by repeat (first | exact Ext.refl' _ | assumption | apply Ext.ex' | apply Ext.al | apply Ext.drN | apply Ext.dr))⟩
set_option maxRecDepth 100000 in
set_option maxHeartbeats 4000000 in
theorem ints_any (A B : Option Addr) (c d : Nat) (a b : List Int) (w : World) (hA : Rd w 1 A a.length (ic a)) (hB : Rd w 1 B b.length (ic b)) (hal : a.length ≤ 9223372036854775807) :
    Calls Try.prog 21 #[.slice A a.length c, .slice B b.length d] w fun e w' => e = .returned (.bool (decide (a = b))) ∧ Ext w w' := by
  by_cases hl : a.length = b.length
  · obtain ⟨n, hn⟩ : ∃ n, a.length = n := ⟨_, rfl⟩
    have hm : b.length = n := by omega
    rw [hn] at hA hal ⊢
    rw [hm] at hB ⊢
    have HN := Lib.hid hn
    have HM := Lib.hid hm
    clear hn hm hl
    go_enter Try.func21, Try.ntmps21
    go_wp2
    go_loopg [13] n (fun g x wr => ∃ k : Nat, x = .int .i64 k ∧ k ≤ n ∧ n - k ≤ g ∧ Hid (a.take k = b.take k) ∧ Ext w wr)
    case atStart => exact ⟨0, rfl, by omega, by omega, Lib.hid rfl, Ext.refl' _⟩
    case round =>
      obtain ⟨k, rfl, hk, hg, HE, hE⟩ := hrel
      have HG := Lib.hid hg
      clear hg
      by_cases hlt : k < n
      · obtain ⟨x, hx⟩ : ∃ x, a[k]? = some x := ⟨_, List.getElem?_eq_getElem (by have := HN.out; omega)⟩
        obtain ⟨y, hy⟩ : ∃ y, b[k]? = some y := ⟨_, List.getElem?_eq_getElem (by have := HM.out; omega)⟩
        obtain ⟨b1, o1, rfl, hb1, e1⟩ := (hA.ext hE).2 (by omega)
        obtain ⟨b2, o2, rfl, hb2, e2⟩ := (hB.ext hE).2 (by omega)
        have e1 := e1 k (.int .i64 x) (by simp [ic, hx])
        have e2 := e2 k (.int .i64 y) (by simp [ic, hy])
        have HX := Lib.hid hx
        have HY := Lib.hid hy
        have hkz : (k : Int) < (n : Int) := by omega
        clear hx hy
        by_cases hxy : x = y
        · have HXY := Lib.hid hxy
          subst hxy
          go_wp2
          go_quiet (fail)
          go_wp2
          go_roundg (gk - 1)
          case rel => exact ⟨k + 1, by go_num, by omega, by have := HG.out; omega, Lib.hid (by
            have h1 := HE.out
            obtain ⟨q1, q2⟩ := List.getElem?_eq_some_iff.1 HX.out
            obtain ⟨q3, q4⟩ := List.getElem?_eq_some_iff.1 HY.out
            rw [List.take_succ_eq_append_getElem q1, List.take_succ_eq_append_getElem q3, h1, q2, q4]), hE.tr (by repeat (first | exact Ext.refl' _ | assumption | apply Ext.ex' | apply Ext.al | apply Ext.drN | apply Ext.dr))⟩
          case measure => have := HG.out; omega
        · have HNE : Hid (¬ a = b) := Lib.hid fun e => hxy (by
            have h1 := HX.out; rw [e, HY.out] at h1; exact (Option.some.inj h1).symm)
          go_wp2
          go_quiet (fail)
          go_wp2
          go_ret
          exact ⟨by rw [decide_eq_false HNE.out]; rfl, hE.tr (by repeat (first | exact Ext.refl' _ | assumption | apply Ext.ex' | apply Ext.al | apply Ext.drN | apply Ext.dr))⟩
      · have HEQ : Hid (a = b) := Lib.hid (by
          have h1 := HE.out
          rwa [List.take_of_length_le (by have := HN.out; omega), List.take_of_length_le (by have := HM.out; omega)] at h1)
        have hkz : ¬ ((k : Int) < (n : Int)) := by omega
        go_wp2
        go_ret
        exact ⟨by rw [decide_eq_true HEQ.out]; rfl, hE.tr (by repeat (first | exact Ext.refl' _ | assumption | apply Ext.ex' | apply Ext.al | apply Ext.drN | apply Ext.dr))⟩
  · have hne : ¬ ((a.length : Int) = (b.length : Int)) := by omega
    have HNE : Hid (¬ a = b) := Lib.hid fun e => hl (by rw [e])
    clear hA hB
    go_enter Try.func21, Try.ntmps21
    go_wp2
    go_ret
    exact ⟨by rw [decide_eq_false HNE.out]; rfl, by repeat (first | exact Ext.refl' _ | assumption | apply Ext.ex' | apply Ext.al | apply Ext.drN | apply Ext.dr)⟩

end Go.Proofs.Ytdmbgimehepfaaa
