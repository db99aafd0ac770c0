/- Bytes compared; valid rows; numbers as bytes. -/
import Derived.Test.YtahmkinppighkaaTpA
import Derived.Laws.BitsAllLaws
import Derived.Laws.Bits64
set_option linter.unusedSimpArgs false
set_option linter.unusedVariables false
namespace Go.Proofs.Ytahmkinppighkaa
open Go.RowKit

set_option maxHeartbeats 1600000 in
theorem rprintable_any (s : ByteArray) (w : World) (hs : s.size ≤ 9223372036854775807) :
    Calls Try.prog 54 #[.string s] w fun e w' => e = .returned (.bool (prB s)) ∧ Ext w w' := by
  go_enter Try.func54, Try.ntmps54
  go_wp2
  go_loop [3] (fun i => ∃ k : Nat, k ≤ s.size ∧ i = .int .i64 k ∧ Hid (prB s = prL (s.data.toList.drop k))) (fun i => s.size - (intOf i).toNat)
  case atStart => exact ⟨0, Nat.zero_le _, rfl, Lib.hid rfl⟩
  case round =>
    obtain ⟨k, hk, rfl, HC⟩ := hrel
    by_cases hlt : k < s.size
    · have HD : Hid (prB s = prL (s[k] :: s.data.toList.drop (k + 1))) := Lib.hid (by rw [HC.out, drop_byte s k hlt])
      clear HC
      rcases (show ((s[k].toNat : Int) < 32) ∨ (¬ (s[k].toNat : Int) < 32 ∧ 126 < (s[k].toNat : Int)) ∨ (¬ (s[k].toNat : Int) < 32 ∧ ¬ 126 < (s[k].toNat : Int)) from by omega) with h1 | ⟨h1, h2⟩ | ⟨h1, h2⟩
      · have H0 : Hid (prB s = false) := Lib.hid (by rw [HD.out, prL, if_pos h1])
        clear HD
        go_wp2
        go_ret
        exact ⟨by rw [H0.out]; rfl, Ext.refl' _⟩
      · have H0 : Hid (prB s = false) := Lib.hid (by rw [HD.out, prL, if_neg h1, if_pos h2])
        clear HD
        go_wp2
        go_ret
        exact ⟨by rw [H0.out]; rfl, Ext.refl' _⟩
      · have H0 : Hid (prB s = prL (s.data.toList.drop (k + 1))) := Lib.hid (by rw [HD.out, prL, if_neg h1, if_neg h2])
        clear HD
        go_wp2
        go_round
        case rel => exact ⟨k + 1, by omega, by go_num, H0⟩
        case measure => simp [intOf]; omega
    · have H0 : Hid (prB s = true) := Lib.hid (by rw [HC.out, List.drop_eq_nil_of_le (by simpa using Nat.le_of_not_lt hlt)]; rfl)
      clear HC
      go_wp2
      go_ret
      exact ⟨by rw [H0.out]; rfl, Ext.refl' _⟩


set_option maxHeartbeats 1600000 in
theorem rvv_any (v : Va) (w : World) (hs : v.t.size ≤ 9223372036854775807) :
    Calls Try.prog 25 #[vag v] w fun e w' => e = .returned (.bool (vvB v)) ∧ Ext w w' := by
  go_enter Try.func25, Try.ntmps25
  go_wp2_with (go_at_call 54; (refine (rprintable_any _ _ hs).mono ?_; rintro e w1 ⟨rfl, hb1⟩; obtain ⟨x1, rfl⟩ := hb1.get; clear hb1))
  all_goals go_ret
  all_goals refine ⟨?_, by repeat (first | exact Ext.refl' _ | apply Ext.ex' | apply Ext.al)⟩
  all_goals simp_all [vvB, emB]
  all_goals omega
section
variable {P : Program} (w : World)
/-- append to a full slice of which only reading is known: a new block -/
theorem run_appg {t e ty : TypeId} {z : Value} {size bytes : Nat} (E : El P t e z size bytes) (W : World) (hW : Ext W w) (A : Option Addr) (n : Nat) (olds : List Value) (ho : Rd w size A n olds)
    (B : Option Addr) (m c : Nat) (news : List Value) (hm : 0 < m) (hr : Rd w size B m news) (h1 : ∀ u ∈ news, u.oneCell' = true) (h63 : n + m ≤ maxLen) (hbytes : (n + m) * bytes ≤ 140737488355328) :
    ∃ v' x', (Builtin.append_ #[t, t] ty #[.slice A n n, .slice B m c]).run P w = .ok v' (ext W x') ∧ (ext W x').ownsRow w.heap.size e size v' (n + m) (olds ++ news) := by
  obtain ⟨i, hi, hz, hs, hb⟩ := E.hi
  obtain ⟨bb, oo, rfl, _, hc⟩ := hr.2 (Nat.mul_pos hm E.hsz)
  have hcells : ∀ j u, news[j]? = some u → w.cell? ((⟨bb, oo, none⟩ : Addr).add j) = some u := fun j u hu => by rw [add_none]; exact hc j u hu
  have fin : ∀ v' w', w'.ownsRow w.heap.size e size v' (n + m) (olds ++ news) → w.grownBy w' none → ∃ x', w' = ext W x' := fun v' w' _ hg => ext_of_below (Below.grown hW hg hW.size (fun k hk => by cases hk))
  rcases A with _ | ad
  · have hn : n = 0 := by
      rcases Nat.eq_zero_or_pos n with h0 | h0
      · exact h0
      · obtain ⟨b, o, h, _⟩ := ho.2 (Nat.mul_pos h0 E.hsz)
        cases h
    subst hn
    have hol : olds = [] := List.eq_nil_of_length_eq_zero (by simpa using ho.1)
    subst hol
    obtain ⟨v', w', hrun, h2, h3, _⟩ := run_append_own (P := P) w w.heap.size t ty e i z size bytes E.ht hi hz hs hb E.hzs E.hsz (.slice none 0 0) 0 [] (World.ownsRow_nil _ _ _ _) ⟨bb, oo, none⟩ m c news hr.1 hcells h1 h63 hbytes (Nat.le_refl _)
    obtain ⟨x', rfl⟩ := fin v' w' h2 h3
    exact ⟨v', x', hrun, h2⟩
  · have hold : ∀ j u, olds[j]? = some u → w.cell? (ad.add j) = some u := by
      intro j u hu
      rcases Nat.eq_zero_or_pos n with h0 | h0
      · subst h0
        have hn : olds = [] := List.eq_nil_of_length_eq_zero (by simpa using ho.1)
        subst hn
        simp at hu
      · obtain ⟨b, o, h, _, hc⟩ := ho.2 (Nat.mul_pos h0 E.hsz)
        injection h with h
        subst h
        rw [add_none]
        exact hc j u hu
    obtain ⟨v', w', hrun, h2, h3⟩ := run_append_arg_grows (P := P) w t ty e i z size bytes E.ht hi hz hs hb E.hzs E.hsz ad n n olds ho.1 hold ⟨bb, oo, none⟩ m c news hr.1 hcells (by omega) h63 hbytes
    obtain ⟨x', rfl⟩ := fin v' w' h2 h3
    exact ⟨v', x', hrun, h2⟩
end

/-- may be appended to: full, or owned beyond W -/
def Ap (W w : World) (v : Value) (n : Nat) (xs : List Value) : Prop := (∃ A, v = .slice A n n ∧ Rd w 1 A n xs) ∨ w.ownsRow W.heap.size 5 1 v n xs
theorem Ap.ext {W w w' : World} {v : Value} {n : Nat} {xs : List Value} (h : Ap W w v n xs) (e : Ext w w') : Ap W w' v n xs := by
  rcases h with ⟨A, h1, h2⟩ | h
  · exact .inl ⟨A, h1, h2.ext e⟩
  · exact .inr (ow8 h e)
/-- append to what may be appended to, at least one byte -/
theorem wpList_apq {P : Program} (w : World) {ops : Array Oper} {rest : List Oper} {o : Oper} {a : Act} {Q : Exit → Act → World → Prop} (hgd : o.guard = none) (s x : Operand) {t : TypeId}
    (ho : o.op = .call { callee := .builtin .append, args := #[s, x], argTypes := #[t, t] }) (E : El P t 5 (.int .u8 0) 1 1) (W : World) (hW : Ext W w) (v : Value) (n : Nat) (xs : List Value) (hs : a.eval s = v) (hap : Ap W w v n xs)
    (A : Option Addr) (m c : Nat) (news : List Value) (hm : 0 < m) (hx : a.eval x = .slice A m c) (hr : Rd w 1 A m news) (h1 : ∀ u ∈ news, u.oneCell' = true) (h63 : n + m ≤ maxLen) (hbytes : (n + m) * 1 ≤ 140737488355328)
    (h : ∀ v' x', Own W x' 5 1 v' (n + m) (xs ++ news) → wpList P ops Q rest (a.put o.dst v') (ext W x')) : wpList P ops Q (o :: rest) a w := by
  rcases hap with ⟨B, rfl, hR⟩ | hown
  · refine wpList_plain hgd fun K hK => ?_
    obtain ⟨v', x', hrun, h2⟩ := run_appg (P := P) (ty := o.type) w E W hW B n xs hR A m c news hm hr h1 h63 hbytes
    unfold Oper.wp execOp
    simp only [ho, resolve, invoke, builtin, Sem.run_bind, Sem.run_pure, Result.andThen_ok, List.map_toArray, List.map_cons, List.map_nil, hs, hx, hrun]
    exact hK _ _ (h v' x' (own_mono h2 hW.size))
  · exact wpList_app w hgd s x ho E W hW v n xs hs hown A m c news hx hr h1 h63 hbytes fun v' x' h2 _ => h v' x' h2
set_option maxRecDepth 100000 in
set_option maxHeartbeats 8000000 in
theorem order_any (A B : Option Addr) (n m c d : Nat) (a b : List UInt8) (w : World) (hn : a.length = n) (hm : b.length = m) (hA : Rd w 1 A n (bcl a)) (hB : Rd w 1 B m (bcl b)) (nn : n ≤ 1048576) (nm : m ≤ 1048576) :
    Calls Try.prog 8 #[.slice A n c, .slice B m d] w fun e w' => e = .returned (.int .i64 (Lib.compareBytes a b)) ∧ Ext w w' := by
  have HR : Hid (Lib.compareBytes a b = Lib.compareBytes (a.drop 0) (b.drop 0)) := Lib.hid rfl
  have HN := Lib.hid hn
  have HM := Lib.hid hm
  clear hn hm
  generalize Lib.compareBytes a b = z at HR ⊢
  go_enter Try.func8, Try.ntmps8
  go_wp2
  go_loopg [5] n (fun g ix wr => ∃ k : Nat, ix = .int .i64 k ∧ k ≤ n ∧ k ≤ m ∧ n - k ≤ g ∧ Hid (z = Lib.compareBytes (a.drop k) (b.drop k)) ∧ Ext w wr)
  case atStart => exact ⟨0, rfl, by omega, by omega, by omega, HR, by repeat (first | exact Ext.refl' _ | assumption | apply Ext.ex' | apply Ext.al | apply Ext.drN | apply Ext.dr)⟩
  case round =>
    obtain ⟨k, rfl, hk, hkm, hg, HC, hE⟩ := hrel
    obtain ⟨x, rfl⟩ := hE.get
    clear hE HR
    have HG := Lib.hid hg
    clear hg
    by_cases hlt : k < n
    · have hkz : (k : Int) < (n : Int) := by omega
      by_cases hlm : k < m
      · have hmz : (k : Int) < (m : Int) := by omega
        obtain ⟨p, b0, o0, hp, rfl, hb0, c0⟩ := hA.by8 HN.out hlt
        obtain ⟨q, b1, o1, hq, rfl, hb1, d0⟩ := hB.by8 HM.out hlm
        have HS : Hid (z = Lib.compareBytes (p :: a.drop (k + 1)) (q :: b.drop (k + 1))) := Lib.hid (by
          obtain ⟨g1, e1⟩ := List.getElem?_eq_some_iff.1 hp
          obtain ⟨g2, e2⟩ := List.getElem?_eq_some_iff.1 hq
          rw [HC.out, List.drop_eq_getElem_cons g1, List.drop_eq_getElem_cons g2, e1, e2])
        clear hp hq HC
        rcases Nat.lt_trichotomy p.toNat q.toNat with h | h | h
        · have HD : Hid (z = -1) := Lib.hid (by rw [HS.out, tb_cb_ne h])
          have q1 : (p.toNat : Int) < (q.toNat : Int) := by omega
          clear HS
          go_wp2_with fail
          refine wp_region_ext (by kernel_rfl) (by kernel_rfl) ?_
          repeat (first | go_big_quiet_step (fail) | quiet_step (fail))
          refine wpQuiet_nil ?_
          intro _ hw'
          obtain ⟨xq, hw''⟩ := hw'
          subst hw''
          go_wp2
          go_ret
          exact ⟨by rw [HD.out]; rfl, by repeat (first | exact Ext.refl' _ | assumption | apply Ext.ex' | apply Ext.al | apply Ext.drN | apply Ext.dr)⟩
        · have HD : Hid (z = Lib.compareBytes (a.drop (k + 1)) (b.drop (k + 1))) := Lib.hid (by rw [HS.out, UInt8.toNat_inj.1 h, tb_cb_eq])
          have q1 : ¬ (p.toNat : Int) < (q.toNat : Int) := by omega
          have q2 : ¬ (q.toNat : Int) < (p.toNat : Int) := by omega
          clear HS
          go_wp2_with fail
          refine wp_region_ext (by kernel_rfl) (by kernel_rfl) ?_
          repeat (first | go_big_quiet_step (fail) | quiet_step (fail))
          refine wpQuiet_nil ?_
          intro _ hw'
          obtain ⟨xq, hw''⟩ := hw'
          subst hw''
          go_wp2_with fail
          refine wp_region_ext (by kernel_rfl) (by kernel_rfl) ?_
          repeat (first | go_big_quiet_step (fail) | quiet_step (fail))
          refine wpQuiet_nil ?_
          intro _ hw'
          obtain ⟨xq, hw''⟩ := hw'
          subst hw''
          go_wp2
          go_roundg (gk - 1)
          case rel => exact ⟨k + 1, by go_num, by omega, by omega, by have := HG.out; omega, HD, by repeat (first | exact Ext.refl' _ | assumption | apply Ext.ex' | apply Ext.al | apply Ext.drN | apply Ext.dr)⟩
          case measure => have := HG.out; omega
        · have HD : Hid (z = 1) := Lib.hid (by rw [HS.out, tb_cb_gt h])
          have q1 : ¬ (p.toNat : Int) < (q.toNat : Int) := by omega
          have q2 : (q.toNat : Int) < (p.toNat : Int) := by omega
          clear HS
          go_wp2_with fail
          refine wp_region_ext (by kernel_rfl) (by kernel_rfl) ?_
          repeat (first | go_big_quiet_step (fail) | quiet_step (fail))
          refine wpQuiet_nil ?_
          intro _ hw'
          obtain ⟨xq, hw''⟩ := hw'
          subst hw''
          go_wp2_with fail
          refine wp_region_ext (by kernel_rfl) (by kernel_rfl) ?_
          repeat (first | go_big_quiet_step (fail) | quiet_step (fail))
          refine wpQuiet_nil ?_
          intro _ hw'
          obtain ⟨xq, hw''⟩ := hw'
          subst hw''
          go_wp2
          go_ret
          exact ⟨by rw [HD.out]; rfl, by repeat (first | exact Ext.refl' _ | assumption | apply Ext.ex' | apply Ext.al | apply Ext.drN | apply Ext.dr)⟩
      · have hmz : ¬ ((k : Int) < (m : Int)) := by omega
        have hkm' : k = m := by omega
        have HD : Hid (z = 1) := Lib.hid (by
          have h1 : k < a.length := by have := HN.out; omega
          have h2 : b.length ≤ k := by have := HM.out; omega
          rw [HC.out, List.drop_eq_nil_of_le h2, List.drop_eq_getElem_cons h1]
          rfl)
        have q1 : ¬ ((n : Int) < (m : Int)) := by omega
        have q2 : (m : Int) < (n : Int) := by omega
        clear HC hkm'
        go_wp2
        go_ret
        exact ⟨by rw [HD.out]; rfl, by repeat (first | exact Ext.refl' _ | assumption | apply Ext.ex' | apply Ext.al | apply Ext.drN | apply Ext.dr)⟩
    · have hkz : ¬ ((k : Int) < (n : Int)) := by omega
      have hkn : k = n := by omega
      have h2 : a.length ≤ k := by have := HN.out; omega
      by_cases hab : n < m
      · have q1 : (n : Int) < (m : Int) := by omega
        have HD : Hid (z = -1) := Lib.hid (by
          have h1 : k < b.length := by have := HM.out; omega
          rw [HC.out, List.drop_eq_nil_of_le h2, List.drop_eq_getElem_cons h1]
          rfl)
        clear HC hkn h2
        go_wp2
        go_ret
        exact ⟨by rw [HD.out]; rfl, by repeat (first | exact Ext.refl' _ | assumption | apply Ext.ex' | apply Ext.al | apply Ext.drN | apply Ext.dr)⟩
      · have q1 : ¬ (n : Int) < (m : Int) := by omega
        have q2 : ¬ (m : Int) < (n : Int) := by omega
        have HD : Hid (z = 0) := Lib.hid (by
          have h1 : b.length ≤ k := by have := HM.out; omega
          rw [HC.out, List.drop_eq_nil_of_le h2, List.drop_eq_nil_of_le h1]
          rfl)
        clear HC hkn h2
        go_wp2
        go_ret
        exact ⟨by rw [HD.out]; rfl, by repeat (first | exact Ext.refl' _ | assumption | apply Ext.ex' | apply Ext.al | apply Ext.drN | apply Ext.dr)⟩
/-- a short row of valid values -/
def shB (l : List Va) : Bool := decide (l.length ≤ 12) && l.all vvB
set_option maxRecDepth 100000 in
set_option maxHeartbeats 8000000 in
theorem short_any (A : Option Addr) (n c : Nat) (a : List Va) (w : World) (hn : a.length = n) (hA : Rd w 3 A n (vcl a)) (hz : ∀ v ∈ a, v.t.size ≤ 9223372036854775807) :
    Calls Try.prog 7 #[.slice A n c] w fun e w' => e = .returned (.bool (shB a)) ∧ Ext w w' := by
  have HN := Lib.hid hn
  have HZ := Lib.hid hz
  by_cases h12 : n ≤ 12
  · have h12z : ¬ ((12 : Int) < (n : Int)) := by omega
    have HR : Hid (shB a = (a.drop 0).all vvB) := Lib.hid (by unfold shB; rw [hn]; simp [h12])
    clear hn hz
    generalize shB a = z at HR ⊢
    go_enter Try.func7, Try.ntmps7
    go_wp2
    go_loopg [3] n (fun g ix wr => ∃ k : Nat, ix = .int .i64 k ∧ k ≤ n ∧ n - k ≤ g ∧ Hid (z = (a.drop k).all vvB) ∧ Ext w wr)
    case atStart => exact ⟨0, rfl, by omega, by omega, HR, by repeat (first | exact Ext.refl' _ | assumption | apply Ext.ex' | apply Ext.al | apply Ext.drN | apply Ext.dr)⟩
    case round =>
      obtain ⟨k, rfl, hk, hg, HC, hE⟩ := hrel
      obtain ⟨x, rfl⟩ := hE.get
      clear hE HR
      have HG := Lib.hid hg
      clear hg
      by_cases hlt : k < n
      · have hkz : (k : Int) < (n : Int) := by omega
        obtain ⟨v, b0, o0, hv, rfl, hb0, c0, c1, c2⟩ := hA.val3 HN.out hlt
        have HS : Hid (z = (vvB v && (a.drop (k + 1)).all vvB)) := Lib.hid (by
          obtain ⟨g1, e1⟩ := List.getElem?_eq_some_iff.1 hv
          rw [HC.out, List.drop_eq_getElem_cons g1, e1, List.all_cons])
        have HV := Lib.hid fun W => rvv_any v W (HZ.out v (List.mem_of_getElem? hv))
        clear hv HC
        rcases hvb : vvB v with _ | _
        · have HD : Hid (z = false) := Lib.hid (by rw [HS.out, hvb]; rfl)
          rw [hvb] at HV
          clear hvb HS
          go_wp2_with fail
          refine (HV.out _).mono ?_
          rintro e w1 ⟨rfl, hb1⟩
          obtain ⟨x1, rfl⟩ := hb1.get
          clear hb1
          go_wp2
          go_ret
          exact ⟨by rw [HD.out]; rfl, by repeat (first | exact Ext.refl' _ | assumption | apply Ext.ex' | apply Ext.al | apply Ext.drN | apply Ext.dr)⟩
        · have HD : Hid (z = (a.drop (k + 1)).all vvB) := Lib.hid (by rw [HS.out, hvb, Bool.true_and])
          rw [hvb] at HV
          clear hvb HS
          go_wp2_with fail
          refine (HV.out _).mono ?_
          rintro e w1 ⟨rfl, hb1⟩
          obtain ⟨x1, rfl⟩ := hb1.get
          clear hb1
          go_wp2
          go_roundg (gk - 1)
          case rel => exact ⟨k + 1, by go_num, by omega, by have := HG.out; omega, HD, by repeat (first | exact Ext.refl' _ | assumption | apply Ext.ex' | apply Ext.al | apply Ext.drN | apply Ext.dr)⟩
          case measure => have := HG.out; omega
      · have hkz : ¬ ((k : Int) < (n : Int)) := by omega
        have HD : Hid (z = true) := Lib.hid (by rw [HC.out, List.drop_eq_nil_of_le (by have := HN.out; omega)]; rfl)
        clear HC
        go_wp2
        go_ret
        exact ⟨by rw [HD.out]; rfl, by repeat (first | exact Ext.refl' _ | assumption | apply Ext.ex' | apply Ext.al | apply Ext.drN | apply Ext.dr)⟩
  · have h12z : (12 : Int) < (n : Int) := by omega
    have HD : Hid (shB a = false) := Lib.hid (by unfold shB; rw [hn]; simp [h12])
    clear hn hz
    generalize shB a = z at HD ⊢
    go_enter Try.func7, Try.ntmps7
    go_wp2
    go_ret
    exact ⟨by rw [HD.out]; rfl, by repeat (first | exact Ext.refl' _ | assumption | apply Ext.ex' | apply Ext.al | apply Ext.drN | apply Ext.dr)⟩


theorem xor_ones (a : Nat) (h : a < 18446744073709551616) : a ^^^ 18446744073709551615 = 18446744073709551615 - a := by
  have e1 : (18446744073709551615 : Nat) = 2 ^ 64 - 1 := by decide
  have e2 : 18446744073709551615 - a = 2 ^ 64 - (a + 1) := by omega
  have h2 : a < 2 ^ 64 := by omega
  rw [e2, e1]
  refine Nat.eq_of_testBit_eq fun i => ?_
  rw [Nat.testBit_xor, Nat.testBit_two_pow_sub_one, Nat.testBit_two_pow_sub_succ h2]
  by_cases hi : i < 64
  · simp [hi]
  · have : a.testBit i = false := Nat.testBit_lt_two_pow (Nat.lt_of_lt_of_le h2 (Nat.pow_le_pow_right (by decide) (by omega)))
    simp [hi, this]
theorem or_128 : ∀ a : Nat, a < 256 → a ||| 128 = a % 128 + 128 := by decide +kernel
/-- what the walk computes of a number's sign -/
theorem zig_facts (i : Int) (h1 : -4611686018427387904 ≤ i) (h2 : i ≤ 4611686018427387903) : ∃ X Y Z : Nat, IntKind.u64.wrap i = (X : Int) ∧ IntKind.u64.wrap ((X : Int) * 2) = (Y : Int) ∧ IntKind.u64.wrap (i / 9223372036854775808) = (Z : Int) ∧ bits .xor .u64 (Y : Int) (Z : Int) = (zig i : Int) := by
  rcases (show i < 0 ∨ 0 ≤ i by omega) with h | h
  · refine ⟨(i + 18446744073709551616).toNat, (2 * i + 18446744073709551616).toNat, 18446744073709551615, ?_, ?_, ?_, ?_⟩
    · rw [IntKind.wrap_u64]; omega
    · rw [IntKind.wrap_u64]; omega
    · rw [IntKind.wrap_u64]; omega
    · rw [u64_xor_nat _ _ (by omega) (by omega), xor_ones _ (by omega)]
      unfold zig
      rw [if_neg (by omega)]
      omega
  · refine ⟨i.toNat, (2 * i).toNat, 0, ?_, ?_, ?_, ?_⟩
    · rw [IntKind.wrap_u64]; omega
    · rw [IntKind.wrap_u64]; omega
    · rw [IntKind.wrap_u64]; omega
    · rw [u64_xor_nat _ _ (by omega) (by omega), Nat.xor_zero]
      unfold zig
      rw [if_pos h]
/-- a number appended -/
def PutP (W : World) (n : Nat) (xs : List Value) (l : List UInt8) (e : Ending) (w' : World) : Prop := ∃ v' x', e = .returned v' ∧ w' = ext W x' ∧ Own W x' 5 1 v' (n + l.length) (xs ++ bcl l)
set_option maxRecDepth 100000 in
set_option maxHeartbeats 8000000 in
theorem put_any (W : World) (v : Value) (n : Nat) (xs : List Value) (i : Int) (w : World) (hW : Ext W w) (hap : Ap W w v n xs) (hn : n ≤ 1048576) (h1 : -4611686018427387904 ≤ i) (h2 : i ≤ 4611686018427387903) :
    Calls Try.prog 28 #[v, .int .i64 i] w (PutP W n xs (encI i)) := by
  obtain ⟨X, Y, Z, e1, e2, e3, e4⟩ := zig_facts i h1 h2
  have HZ : Hid (zig i < 18446744073709551616) := Lib.hid (zig_lt (by omega) (by omega))
  have HAP := Lib.hid hap
  unfold encI
  generalize zig i = u at e4 HZ ⊢
  clear hap
  go_enter Try.func28, Try.ntmps28
  go_wp2
  clear e1 e2 e3 e4
  go_loopg [0, 5] 10 (fun g q ix wr => ∃ (U m : Nat) (xs2 : List UInt8), ix = .int .u64 U ∧ (encU U).length ≤ g ∧ m = n + xs2.length ∧ Hid (xs2 ++ encU U = encU u) ∧ U < 18446744073709551616 ∧ xs2.length + (encU U).length ≤ 10 ∧ Hid (Ap W wr q m (xs ++ bcl xs2)) ∧ Ext W wr)
  case atStart => exact ⟨u, n, [], rfl, encU_le10 HZ.out, rfl, Lib.hid rfl, HZ.out, by have := encU_le10 HZ.out; simpa using this, Lib.hid (by simpa [bcl] using HAP.out), hW⟩
  case round =>
    obtain ⟨U, m, xs2, rfl, hg, hm, HX, hU, h10, HP, hE⟩ := hrel
    have HG := Lib.hid hg
    clear hg
    by_cases hlt : U < 128
    · have hz : ¬ ((128 : Int) ≤ (U : Int)) := by omega
      have hw : IntKind.u8.wrap (U : Int) = ((UInt8.ofNat U).toNat : Int) := by rw [IntKind.wrap_u8']; simp
      have HL : Hid (encU U = [UInt8.ofNat U]) := Lib.hid (encU_lt hlt)
      generalize UInt8.ofNat U = z at hw HL
      go_wp2_with (at_builtin; (refine wpList_apq _ rfl (.tmp 23) (.tmp 26) rfl elU8 W (by repeat (first | exact Ext.refl' _ | assumption | apply Ext.ex' | apply Ext.al | apply Ext.drN | apply Ext.dr)) _ m _ rfl (HP.out.ext (by repeat (first | exact Ext.refl' _ | assumption | apply Ext.ex' | apply Ext.al | apply Ext.drN | apply Ext.dr))) _ 1 1 (bcl [z]) (by omega) rfl (Rd.lit _ #[.int .u8 z.toNat] _ 1 1 rfl (by first | rfl | simp [size_ext])) (oneCell_bcl _) (by unfold maxLen; omega) (by omega) ?_; intro v1 x1 ho1))
      have HO1 := Lib.hid ho1
      clear ho1
      go_wp2
      go_ret
      refine ⟨_, x1, rfl, rfl, ?_⟩
      have h := HO1.out
      rw [← HX.out, HL.out, bcl_append, ← List.append_assoc, List.length_append]
      rw [hm] at h
      exact h
    · have hz : (128 : Int) ≤ (U : Int) := by omega
      have HL : Hid (encU U = UInt8.ofNat (U % 128 + 128) :: encU (U / 128)) := Lib.hid (encU_ge hlt)
      obtain ⟨z, hzz⟩ : ∃ z, UInt8.ofNat (U % 128 + 128) = z := ⟨_, rfl⟩
      have hw : bits .or .u8 ((U : Int) % 256) 128 = (z.toNat : Int) := by
        rw [show (U : Int) % 256 = ((U % 256 : Nat) : Int) by omega, show (128 : Int) = ((128 : Nat) : Int) by rfl, u8_or_nat _ _ (by omega) (by omega), or_128 _ (by omega), ← hzz]
        simp
        omega
      rw [hzz] at HL
      clear hzz
      obtain ⟨U2, hU2⟩ : ∃ U2, U / 128 = U2 := ⟨_, rfl⟩
      have hd : (U : Int) / 128 = (U2 : Int) := by omega
      have hu2 : U2 < 18446744073709551616 := by omega
      rw [hU2] at HL
      clear hU2
      go_wp2_with (at_builtin; (refine wpList_apq _ rfl (.tmp 15) (.tmp 19) rfl elU8 W (by repeat (first | exact Ext.refl' _ | assumption | apply Ext.ex' | apply Ext.al | apply Ext.drN | apply Ext.dr)) _ m _ rfl (HP.out.ext (by repeat (first | exact Ext.refl' _ | assumption | apply Ext.ex' | apply Ext.al | apply Ext.drN | apply Ext.dr))) _ 1 1 (bcl [z]) (by omega) rfl (Rd.lit _ #[.int .u8 z.toNat] _ 1 1 rfl (by first | rfl | simp [size_ext])) (oneCell_bcl _) (by unfold maxLen; omega) (by omega) ?_; intro v1 x1 ho1))
      have HO1 := Lib.hid ho1
      clear ho1
      go_wp2
      go_roundg (gk - 1)
      case rel =>
        have hl := congrArg List.length HL.out
        simp only [List.length_cons] at hl
        exact ⟨U2, m + 1, xs2 ++ [z], rfl, by have := HG.out; omega, by simp; omega, Lib.hid (by rw [← HX.out, HL.out]; simp), hu2, by simp; omega, Lib.hid (by rw [bcl_append, ← List.append_assoc]; exact .inr HO1.out), by repeat (first | exact Ext.refl' _ | assumption | apply Ext.ex' | apply Ext.al | apply Ext.drN | apply Ext.dr)⟩
      case measure =>
        have := encU_len U
        have := HG.out
        omega

end Go.Proofs.Ytahmkinppighkaa
