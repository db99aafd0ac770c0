/- power, num, text, works. -/
import Derived.Test.YtdmbgimehepfaaaBtKw
import Derived.Deep.LoopGhost
set_option linter.unusedSimpArgs false
set_option linter.unusedVariables false
namespace Go.Proofs.Ytdmbgimehepfaaa
open Go.RowKit


abbrev vagE (v : Va) : Value := .agg #[.int .i64 v.k, .int .i64 v.i, .string v.t]
set_option maxHeartbeats 2000000 in
theorem num_any (n : Int) (w : World) : Calls Try.prog 42 #[.int .i64 n] w fun e w' => e = .returned (.agg #[.int .i64 1, .int .i64 n, .string ⟨#[]⟩]) ∧ Ext w w' := by
  go_enter Try.func42, Try.ntmps42
  go_wp2
  refine bodyPost_ret (v := .agg #[.int .i64 1, .int .i64 n, .string ⟨#[]⟩]) ?_ rfl ⟨rfl, (by repeat (first | exact Ext.refl' _ | assumption | apply Ext.ex' | apply Ext.al | apply Ext.drN | apply Ext.dr))⟩
  simp [results, Try.results42, go_sem, ↓IntWalk.iteOmega]
set_option maxHeartbeats 2000000 in
theorem text_any (s : ByteArray) (w : World) : Calls Try.prog 43 #[.string s] w fun e w' => e = .returned (.agg #[.int .i64 2, .int .i64 0, .string s]) ∧ Ext w w' := by
  go_enter Try.func43, Try.ntmps43
  go_wp2
  refine bodyPost_ret (v := .agg #[.int .i64 2, .int .i64 0, .string s]) ?_ rfl ⟨rfl, (by repeat (first | exact Ext.refl' _ | assumption | apply Ext.ex' | apply Ext.al | apply Ext.drN | apply Ext.dr))⟩
  simp [results, Try.results43, go_sem, ↓IntWalk.iteOmega]
/-- a power, at most a million -/
def powF (a n : Nat) : Nat := min (a ^ n) 1000000
set_option maxHeartbeats 4000000 in
theorem power_any (a n : Nat) (w : World) (ha : 1 ≤ a) (ha2 : a ≤ 65) (hn : n ≤ 1000000) : Calls Try.prog 26 #[.int .i64 a, .int .i64 n] w fun e w' => e = .returned (.int .i64 (powF a n)) ∧ Ext w w' := by
  go_enter Try.func26, Try.ntmps26
  go_wp2
  go_loopg [5, 6] n (fun g x y wr => ∃ k z : Nat, x = .int .i64 z ∧ y = .int .i64 k ∧ k ≤ n ∧ n - k ≤ g ∧ Hid (z = a ^ k) ∧ z ≤ 65000000 ∧ Ext w wr)
  case atStart => exact ⟨0, 1, rfl, rfl, by omega, by omega, Lib.hid rfl, by omega, Ext.refl' _⟩
  case round =>
    obtain ⟨k, z, rfl, rfl, hk, hg, HZ, hz, hE⟩ := hrel
    have HG := Lib.hid hg
    clear hg
    by_cases hlt : k < n
    · have hkz : (k : Int) < (n : Int) := by omega
      by_cases hz1 : z < 1000000
      · have hzz : (z : Int) < 1000000 := by omega
        have hb : z * a ≤ 65000000 := Nat.le_trans (Nat.mul_le_mul (Nat.le_of_lt hz1) ha2) (by omega)
        have hwz : IntKind.i64.wrap ((z : Int) * (a : Int)) = ((z * a : Nat) : Int) := by
          rw [← Int.natCast_mul]
          exact IntWalk.i64_in _ (by omega)
        have hwk : IntKind.i64.wrap ((k : Int) + 1) = (k : Int) + 1 := IntWalk.i64_in _ (by omega)
        go_wp2
        go_roundg (gk - 1)
        case rel => exact ⟨k + 1, z * a, by first | rfl | exact congrArg _ hwz | go_num, by go_num, by omega, by have := HG.out; omega, Lib.hid (by rw [HZ.out, Nat.pow_succ]), hb, hE.tr (by repeat (first | exact Ext.refl' _ | assumption | apply Ext.ex' | apply Ext.al | apply Ext.drN | apply Ext.dr))⟩
        case measure => have := HG.out; omega
      · have hzz : ¬ ((z : Int) < 1000000) := by omega
        have hp : powF a n = 1000000 := by
          unfold powF
          have h1 : a ^ k ≤ a ^ n := Nat.pow_le_pow_right ha hk
          have := HZ.out
          omega
        have hm : min (z : Int) 1000000 = 1000000 := by omega
        go_wp2
        go_ret
        exact ⟨by first | rfl | (rw [hp]; rfl), hE.tr (by repeat (first | exact Ext.refl' _ | assumption | apply Ext.ex' | apply Ext.al | apply Ext.drN | apply Ext.dr))⟩
    · have hkz : ¬ ((k : Int) < (n : Int)) := by omega
      have hp : (powF a n : Int) = min (z : Int) 1000000 := by
        unfold powF
        have hkn : k = n := by omega
        rw [HZ.out, hkn]
        omega
      go_wp2
      go_ret
      exact ⟨by first | rfl | (rw [hp]; rfl), hE.tr (by repeat (first | exact Ext.refl' _ | assumption | apply Ext.ex' | apply Ext.al | apply Ext.drN | apply Ext.dr))⟩

end Go.Proofs.Ytdmbgimehepfaaa
