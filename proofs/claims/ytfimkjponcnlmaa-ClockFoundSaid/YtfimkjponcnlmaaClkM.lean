/- The contracts of Latest, of package clock and of the reference. -/
import Derived.Test.YtfimkjponcnlmaaClkL
set_option linter.unusedSimpArgs false
set_option linter.unusedVariables false
namespace Go.Proofs.Ytfimkjponcnlmaa
open Go.RowKit

/-- what Latest returns -/
def latest (time : Int) (l : List (Int × Int)) : (Int × Int) × Bool := latF time ((0, 0), false) l
theorem latest_take {time : Int} {l : List (Int × Int)} {j : Nat} (h : j < l.length) (h1 : time < l[j].1) : latest time (l.take (j + 1)) = latest time (l.take j) := by
  rw [List.take_succ_eq_append_getElem h, latest, latF_snoc, if_neg (by omega)]; rfl
theorem latest_hit {time : Int} {l : List (Int × Int)} {j : Nat} (h : j < l.length) (h1 : l[j].1 ≤ time) : latest time (l.take (j + 1)) = (l[j], true) := by
  rw [List.take_succ_eq_append_getElem h, latest, latF_snoc, if_pos h1]

set_option maxHeartbeats 800000 in
theorem clatest_any (A : Option Addr) (c : Nat) (l : List (Int × Int)) (time : Int) (w : World) (hr : Rd w 2 A l.length (pc l)) (hl : l.length ≤ 9223372036854775807) :
    Calls Try.prog 17 #[.slice A l.length c, .int .i64 time] w fun e w' => e = .returned (.tuple #[pr (latest time l).1, .bool (latest time l).2]) ∧ Ext w w' := by
  go_enter Try.func17, Try.ntmps17
  go_wp2
  go_loop [6] (fun i => ∃ k : Nat, k ≤ l.length ∧ i = .int .i64 ((k : Int) - 1) ∧ Hid (latest time l = latest time (l.take k))) (fun i => (intOf i + 1).toNat)
  case atStart => exact ⟨l.length, Nat.le_refl _, rfl, Lib.hid (by simp)⟩
  case round =>
    obtain ⟨k, hk, rfl, HC⟩ := hrel
    rcases k with _ | j
    · have H0 : Hid (latest time l = ((0, 0), false)) := Lib.hid (by rw [HC.out]; rfl)
      clear HC
      rw [show ((0 : Nat) : Int) - 1 = -1 from rfl]
      go_wp2
      refine bodyPost_ret (v := .tuple #[pr (latest time l).1, .bool (latest time l).2]) ?_ rfl ⟨rfl, by repeat (first | exact Ext.refl' _ | assumption | apply Ext.ex' | apply Ext.al | apply Ext.drN | apply Ext.dr)⟩
      rw [H0.out]
      simp [results, Try.results17, go_sem]
    · have hlt : j < l.length := by omega
      obtain ⟨b, o, rfl, hb, hc1, hc2⟩ := hr.pair rfl hlt
      have HT := fun h1 => Lib.hid (latest_take (time := time) hlt h1)
      have HH := fun h1 => Lib.hid (latest_hit (time := time) hlt h1)
      generalize hx : l[j] = x at hc1 hc2 HT HH
      clear hx
      obtain ⟨t, y⟩ := x
      simp only at hc1 hc2 HT HH
      rw [show ((j + 1 : Nat) : Int) - 1 = (j : Int) from by omega]
      by_cases htt : t ≤ time
      · have H0 : Hid (latest time l = ((t, y), true)) := Lib.hid (by rw [HC.out, (HH htt).out])
        clear HC HT HH
        go_wp2
        refine bodyPost_ret (v := .tuple #[pr (latest time l).1, .bool (latest time l).2]) ?_ rfl ⟨rfl, by repeat (first | exact Ext.refl' _ | assumption | apply Ext.ex' | apply Ext.al | apply Ext.drN | apply Ext.dr)⟩
        rw [H0.out]
        simp [results, Try.results17, go_sem]
      · have H0 : Hid (latest time l = latest time (l.take j)) := Lib.hid (by rw [HC.out, (HT (by omega)).out])
        clear HC HT HH
        go_wp2
        go_round
        case rel => exact ⟨j, by omega, rfl, H0⟩
        case measure => (try simp [intOf]); (try omega)

set_option maxHeartbeats 800000 in
theorem rlatest_any (A : Option Addr) (c : Nat) (l : List (Int × Int)) (time : Int) (w : World) (hr : Rd w 2 A l.length (pc l)) (hl : l.length ≤ 9223372036854775807) :
    Calls Try.prog 18 #[.slice A l.length c, .int .i64 time] w fun e w' => e = .returned (.tuple #[pr (latest time l).1, .bool (latest time l).2]) ∧ Ext w w' := by
  go_enter Try.func18, Try.ntmps18
  go_wp2
  go_loopw [7, 13] (fun ok i wr => ∃ (k : Nat) (s : (Int × Int) × Bool) (x : Add), k ≤ l.length ∧ i = .int .i64 k ∧ ok = .bool s.2 ∧ Hid (latest time l = latF time s (l.drop k)) ∧
    wr = ext ((w.alloc (.cells #[.int .i64 0, .int .i64 0] 34)).alloc (.cells #[.int .i64 s.1.1, .int .i64 s.1.2] 34)) x) (fun _ i _ => l.length - (intOf i).toNat)
  case atStart =>
    obtain ⟨x, hx⟩ := (Ext.refl' ((w.alloc (.cells #[.int .i64 0, .int .i64 0] 34)).alloc (.cells #[.int .i64 0, .int .i64 0] 34))).get
    exact ⟨0, ((0, 0), false), x, Nat.zero_le _, rfl, rfl, Lib.hid rfl, hx⟩
  case round =>
    obtain ⟨k, s, x, hk, rfl, rfl, HC, rfl⟩ := hrel
    by_cases hlt : k < l.length
    · obtain ⟨b, o, rfl, hb, hc1, hc2⟩ := hr.pair rfl hlt
      have hd := Lib.hid (List.drop_eq_getElem_cons hlt)
      generalize hx : l[k] = y at hc1 hc2 hd
      clear hx
      by_cases htt : y.1 ≤ time
      · have H0 : Hid (latest time l = latF time (y, true) (l.drop (k + 1))) := Lib.hid (by rw [HC.out, hd.out, latF, if_pos htt])
        clear HC hd
        go_wp2
        go_roundw
        case rel =>
          refine ⟨k + 1, (y, true), ?_⟩
          refine (Ext.get ?_).imp fun x' hx' => ⟨by omega, by go_num, rfl, H0, hx'⟩
          repeat (first | exact Ext.refl' _ | assumption | apply Ext.ex' | apply Ext.al | apply Ext.drN | apply Ext.dr)
        case measure => (try simp [intOf]); (try omega)
      · have H0 : Hid (latest time l = latF time s (l.drop (k + 1))) := Lib.hid (by rw [HC.out, hd.out, latF, if_neg htt])
        clear HC hd
        go_wp2
        go_roundw
        case rel =>
          refine ⟨k + 1, s, ?_⟩
          refine (Ext.get ?_).imp fun x' hx' => ⟨by omega, by go_num, rfl, H0, hx'⟩
          repeat (first | exact Ext.refl' _ | assumption | apply Ext.ex' | apply Ext.al | apply Ext.drN | apply Ext.dr)
        case measure => (try simp [intOf]); (try omega)
    · have H0 : Hid (latest time l = s) := Lib.hid (by rw [HC.out, List.drop_eq_nil_of_le (Nat.le_of_not_lt hlt), latF])
      clear HC
      go_wp2
      refine bodyPost_ret (v := .tuple #[pr (latest time l).1, .bool (latest time l).2]) ?_ rfl ⟨rfl, by repeat (first | exact Ext.refl' _ | assumption | apply Ext.ex' | apply Ext.al | apply Ext.drN | apply Ext.dr)⟩
      rw [H0.out]
      simp [results, Try.results18, go_sem, ↓IntWalk.iteOmega]
end Go.Proofs.Ytfimkjponcnlmaa
