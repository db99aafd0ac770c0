/- The reference of expressions: Printable, Valid, Arity, Formed. -/
import Derived.Test.YtflhikpihbenaaaGreatVpk
import Derived.Test.YtflhikpihbenaaaGreatCds
set_option linter.unusedSimpArgs false
set_option linter.unusedVariables false
namespace Go.Proofs.YtflhikpihbenaaaGreat
open Go.RowKit

set_option maxHeartbeats 800000 in
theorem rprintable_any (s : ByteArray) (w : World) (hs : s.size ≤ 9223372036854775807) :
    Calls Tryz.prog 73 #[.string s] w fun e w' => e = .returned (.bool (prB s)) ∧ Ext w w' := by
  go_enter Tryz.func73, Tryz.ntmps73
  go_wp2
  go_loop [3] (fun i => ∃ k : Nat, k ≤ s.size ∧ i = .int .i64 k ∧ Hid (prB s = prL (s.data.toList.drop k))) (fun i => s.size - (intOf i).toNat)
  case atStart => exact ⟨0, Nat.zero_le _, rfl, Lib.hid rfl⟩
  case round =>
    obtain ⟨k, hk, rfl, HC⟩ := hrel
    by_cases hlt : k < s.size
    · have HD : Hid (prB s = prL (s[k] :: s.data.toList.drop (k + 1))) := Lib.hid (by rw [HC.out, drop_byte s k hlt])
      clear HC
      rcases (show ((s[k].toNat : Int) < 32) ∨ (¬ (s[k].toNat : Int) < 32 ∧ 126 < (s[k].toNat : Int)) ∨ (¬ (s[k].toNat : Int) < 32 ∧ ¬ 126 < (s[k].toNat : Int)) from by omega) with h1 | ⟨h1, h2⟩ | ⟨h1, h2⟩
      · have H0 : Hid (prB s = false) := Lib.hid (by rw [HD.out, prL, if_pos h1])
        clear HD
        go_wp2
        go_ret
        exact ⟨by rw [H0.out]; rfl, Ext.refl' _⟩
      · have H0 : Hid (prB s = false) := Lib.hid (by rw [HD.out, prL, if_neg h1, if_pos h2])
        clear HD
        go_wp2
        go_ret
        exact ⟨by rw [H0.out]; rfl, Ext.refl' _⟩
      · have H0 : Hid (prB s = prL (s.data.toList.drop (k + 1))) := Lib.hid (by rw [HD.out, prL, if_neg h1, if_neg h2])
        clear HD
        go_wp2
        go_round
        case rel => exact ⟨k + 1, by omega, by go_num, H0⟩
        case measure => simp [intOf]; omega
    · have H0 : Hid (prB s = true) := Lib.hid (by rw [HC.out, List.drop_eq_nil_of_le (by simpa using Nat.le_of_not_lt hlt)]; rfl)
      clear HC
      go_wp2
      go_ret
      exact ⟨by rw [H0.out]; rfl, Ext.refl' _⟩


set_option maxHeartbeats 1600000 in
theorem rvv_any (v : Va) (w : World) (hs : v.t.size ≤ 9223372036854775807) :
    Calls Tryz.prog 58 #[vag v] w fun e w' => e = .returned (.bool (vvB v)) ∧ Ext w w' := by
  go_enter Tryz.func58, Tryz.ntmps58
  go_wp2_with (go_at_call 73; (refine (rprintable_any _ _ hs).mono ?_; rintro e w1 ⟨rfl, hb1⟩; obtain ⟨x1, rfl⟩ := hb1.get; clear hb1))
  all_goals go_ret
  all_goals refine ⟨?_, by repeat (first | exact Ext.refl' _ | apply Ext.ex' | apply Ext.al)⟩
  all_goals simp_all [vvB, emB]
  all_goals omega


def arLo (op : Int) : Int := if op = 1 ∨ op = 2 then 0 else if op = 4 ∨ op = 18 ∨ op = 20 ∨ op = 21 then 1 else if op = 5 ∨ op = 6 then 2 else if op = 7 ∨ op = 8 ∨ op = 9 ∨ op = 10 ∨ op = 11 ∨ op = 12 ∨ op = 13 ∨ op = 14 ∨ op = 15 ∨ op = 16 ∨ op = 17 ∨ op = 19 then 2 else if op = 22 then 3 else if op = 23 then 1 else if op = 24 then 4 else -1
def arHi (op : Int) : Int := if op = 1 ∨ op = 2 then 0 else if op = 4 ∨ op = 18 ∨ op = 20 ∨ op = 21 then 1 else if op = 5 ∨ op = 6 then 1099511627776 else if op = 7 ∨ op = 8 ∨ op = 9 ∨ op = 10 ∨ op = 11 ∨ op = 12 ∨ op = 13 ∨ op = 14 ∨ op = 15 ∨ op = 16 ∨ op = 17 ∨ op = 19 then 2 else if op = 22 then 3 else if op = 23 then 1099511627776 else if op = 24 then 4 else 0
set_option maxHeartbeats 4000000 in
theorem arity_any (op : Int) (w : World) : Calls Tryz.prog 51 #[.int .i64 op] w fun e w' => e = .returned (.tuple #[.int .i64 (arLo op), .int .i64 (arHi op)]) ∧ Ext w w' := by
  go_enter Tryz.func51, Tryz.ntmps51
  go_wp2
  all_goals refine bodyPost_ret (v := .tuple #[.int .i64 (arLo op), .int .i64 (arHi op)]) ?_ rfl ⟨rfl, Ext.refl' _⟩
  all_goals simp [results, Tryz.results51, go_sem]
  all_goals simp_all [arLo, arHi]
def nulC (a b : Int) (s : ByteArray) : Bool := a == 0 && b == 0 && s.toList == []
def nulB (v : Va) : Bool := nulC v.k v.i v.t
/-- ref11.Formed -/
def frB (o i : Int) (v : Va) (nm : ByteArray) (n : Nat) : Bool :=
  !(decide (arLo o < 0)) && !(decide ((n : Int) < arLo o)) && !(decide (arHi o < (n : Int))) && nm.toList == [] &&
    (if o = 1 then i == 0 && vvB v else if o = 2 then nulB v else if o = 24 then nulB v && (decide (0 ≤ i) && decide (i < 13)) else i == 0 && nulB v)
theorem nil_toList : (⟨#[]⟩ : ByteArray).toList = [] := by rw [Lib.toList_data]
@[go_sem high] theorem eql_null (a b : Int) (s : ByteArray) (w : World) : (binOp .eql 29 (.agg #[.int .i64 a, .int .i64 b, .string s]) (.agg #[.int .i64 0, .int .i64 0, .string ⟨#[]⟩])).run Tryz.prog w = .ok (.bool (nulC a b s)) w := by
  simp [go_sem, held_value, Tryz.underlying29]
  unfold nulC
  by_cases h1 : a = 0 <;> by_cases h2 : b = 0 <;> by_cases h3 : s.toList = [] <;> simp [h1, h2, h3]
set_option maxRecDepth 100000 in
set_option maxHeartbeats 8000000 in
theorem formed_any (o i : Int) (v : Va) (nm : ByteArray) (A : Option Addr) (n c : Nat) (w : World) (hv : v.t.size ≤ 9223372036854775807) (hn : n ≤ 9223372036854775807) :
    Calls Tryz.prog 35 #[exag o i v nm A n c] w fun e w' => e = .returned (.bool (frB o i v nm n)) ∧ Ext w w' := by
  have HA := Lib.hid (fun w => arity_any o w)
  have HV := Lib.hid (fun w => rvv_any v w hv)
  have HB : Hid (frB o i v nm n = (!(decide (arLo o < 0)) && !(decide ((n : Int) < arLo o)) && !(decide (arHi o < (n : Int))) && nm.toList == [] &&
    (if o = 1 then i == 0 && vvB v else if o = 2 then nulB v else if o = 24 then nulB v && (decide (0 ≤ i) && decide (i < 13)) else i == 0 && nulB v))) := Lib.hid rfl
  generalize frB o i v nm n = b at HB ⊢
  generalize arLo o = lo at HA HB
  generalize arHi o = hi at HA HB
  generalize vvB v = vb at HV HB
  have hnb : nulB v = nulC v.k v.i v.t := rfl
  rw [hnb] at HB
  have HN : ∀ w : World, Calls Tryz.prog 36 #[] w fun e w' => e = .returned (.agg #[.int .i64 0, .int .i64 0, .string ⟨#[]⟩]) ∧ Ext w w' := fun w => rnull_any w
  rcases hnc : nulC v.k v.i v.t with _ | _
  all_goals rw [hnc] at HB
  all_goals by_cases g1 : 0 ≤ i
  all_goals by_cases g2 : i < 13
  all_goals by_cases g3 : i = 0
  all_goals try omega
  all_goals have q3 : (i == 0) = decide (i = 0) := by rw [Bool.eq_iff_iff]; simp
  all_goals (first | rw [decide_eq_true g3] at q3 | rw [decide_eq_false g3] at q3)
  all_goals (first | have q1 : decide (0 ≤ i) = true := decide_eq_true g1 | have q1 : decide (0 ≤ i) = false := decide_eq_false g1)
  all_goals clear hnb
  all_goals go_enter Tryz.func35, Tryz.ntmps35
  all_goals go_wp2_with (first | (go_at_call 51; refine (HA.out _).mono ?_; rintro e w1 ⟨rfl, hb1⟩; obtain ⟨x1, rfl⟩ := hb1.get; clear hb1) | (go_at_call 58; refine (HV.out _).mono ?_; rintro e w1 ⟨rfl, hb1⟩; obtain ⟨x2, rfl⟩ := hb1.get; clear hb1))
  all_goals try (refine wp_region_ext (by kernel_rfl) (by kernel_rfl) ?_; (repeat (first | go_big_quiet_step ((go_at_call 36; exact Calls.ext_of (HN _))) | quiet_step ((go_at_call 36; exact Calls.ext_of (HN _))) | simp only [q1])); refine wpQuiet_nil ?_; intro _ hw'; obtain ⟨xq, hw''⟩ := hw'; subst hw''; go_wp2)
  all_goals go_ret
  all_goals refine ⟨?_, by repeat (first | exact Ext.refl' _ | assumption | apply Ext.ex' | apply Ext.al | apply Ext.drN | apply Ext.dr)⟩
  all_goals rw [HB.out]
  all_goals clear HB HA HV
  all_goals go_light
  all_goals simp_all
  all_goals (first | omega | (intro hz; simp only [hz, not_true_eq_false, or_false] at *; omega) | (intro hz; simp_all; done) | (intro hz; simp_all; exfalso; omega))

end Go.Proofs.YtflhikpihbenaaaGreat
