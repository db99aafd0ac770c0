/- Lemmas for the rows: Frm Frn Frp Ev1 Ev2. -/
import Derived.Test.YtdiaecgpjgdkdaaGreatThS11
import Derived.Test.YtdiaecgpjgdkdaaGreatThS12
set_option linter.unusedSimpArgs false
set_option linter.unusedVariables false
namespace Go.Proofs.YtdiaecgpjgdkdaaGreat
open Go.RowKit

set_option maxHeartbeats 800000 in
theorem rprintable_any (s : ByteArray) (w : World) (hs : s.size ≤ 9223372036854775807) :
  Calls Tryz.prog 112 #[.string s] w fun e w' => e = .returned (.bool (prB s)) ∧ Ext w w' := by
 go_enter Tryz.func112, Tryz.ntmps112
 go_wp2
 go_loop [3] (fun i => ∃ k : Nat, k ≤ s.size ∧ i = .int .i64 k ∧ Hid (prB s = prL (s.data.toList.drop k))) (fun i => s.size - (intOf i).toNat)
 case atStart => exact ⟨0, Nat.zero_le _, rfl, Lib.hid rfl⟩
 case round =>
  obtain ⟨k, hk, rfl, HC⟩ := hrel
  by_cases hlt : k < s.size
  ·
   have HD : Hid (prB s = prL (s[k] :: s.data.toList.drop (k + 1))) := Lib.hid (by rw [HC.out, drop_byte s k hlt])
   clear HC
   rcases (show ((s[k].toNat : Int) < 32) ∨ (¬ (s[k].toNat : Int) < 32 ∧ 126 < (s[k].toNat : Int)) ∨ (¬ (s[k].toNat : Int) < 32 ∧ ¬ 126 < (s[k].toNat : Int)) from by omega) with h1 | ⟨h1, h2⟩ | ⟨h1, h2⟩
   ·
    have H0 : Hid (prB s = false) := Lib.hid (by rw [HD.out, prL, if_pos h1])
    clear HD
    go_wp2
    go_ret
    exact ⟨by rw [H0.out]; rfl, Ext.refl' _⟩
   ·
    have H0 : Hid (prB s = false) := Lib.hid (by rw [HD.out, prL, if_neg h1, if_pos h2])
    clear HD
    go_wp2
    go_ret
    exact ⟨by rw [H0.out]; rfl, Ext.refl' _⟩
   ·
    have H0 : Hid (prB s = prL (s.data.toList.drop (k + 1))) := Lib.hid (by rw [HD.out, prL, if_neg h1, if_neg h2])
    clear HD
    go_wp2
    go_round
    case rel => exact ⟨k + 1, by omega, by go_num, H0⟩
    case measure => simp [intOf]; omega
  ·
   have H0 : Hid (prB s = true) := Lib.hid (by rw [HC.out, List.drop_eq_nil_of_le (by simpa using Nat.le_of_not_lt hlt)]; rfl)
   clear HC
   go_wp2
   go_ret
   exact ⟨by rw [H0.out]; rfl, Ext.refl' _⟩

set_option maxHeartbeats 1600000 in
theorem rvv_any (v : Va) (w : World) (hs : v.t.size ≤ 9223372036854775807) :
  Calls Tryz.prog 79 #[vag v] w fun e w' => e = .returned (.bool (vvB v)) ∧ Ext w w' := by
 go_enter Tryz.func79, Tryz.ntmps79
 go_wp2_with (go_at_call 112; (refine (rprintable_any _ _ hs).mono ?_; rintro e w1 ⟨rfl, hb1⟩; obtain ⟨x1, rfl⟩ := hb1.get; clear hb1))
 all_goals go_ret
 all_goals refine ⟨?_, by repeat (first | exact Ext.refl' _ | apply Ext.ex' | apply Ext.al)⟩
 all_goals simp_all [vvB, emB]
 all_goals omega

def arLo (op : Int) : Int := if op = 1 ∨ op = 2 then 0 else if op = 4 ∨ op = 18 ∨ op = 20 ∨ op = 21 then 1 else if op = 5 ∨ op = 6 then 2 else if op = 7 ∨ op = 8 ∨ op = 9 ∨ op = 10 ∨ op = 11 ∨ op = 12 ∨ op = 13 ∨ op = 14 ∨ op = 15 ∨ op = 16 ∨ op = 17 ∨ op = 19 then 2 else if op = 22 then 3 else if op = 23 then 1 else if op = 24 then 4 else -1
def arHi (op : Int) : Int := if op = 1 ∨ op = 2 then 0 else if op = 4 ∨ op = 18 ∨ op = 20 ∨ op = 21 then 1 else if op = 5 ∨ op = 6 then 1099511627776 else if op = 7 ∨ op = 8 ∨ op = 9 ∨ op = 10 ∨ op = 11 ∨ op = 12 ∨ op = 13 ∨ op = 14 ∨ op = 15 ∨ op = 16 ∨ op = 17 ∨ op = 19 then 2 else if op = 22 then 3 else if op = 23 then 1099511627776 else if op = 24 then 4 else 0
set_option maxHeartbeats 4000000 in
theorem arity_any (op : Int) (w : World) : Calls Tryz.prog 156 #[.int .i64 op] w fun e w' => e = .returned (.tuple #[.int .i64 (arLo op), .int .i64 (arHi op)]) ∧ Ext w w' := by
 go_enter Tryz.func156, Tryz.ntmps156
 go_wp2
 all_goals refine bodyPost_ret (v := .tuple #[.int .i64 (arLo op), .int .i64 (arHi op)]) ?_ rfl ⟨rfl, Ext.refl' _⟩
 all_goals simp [results, Tryz.results156, go_sem]
 all_goals simp_all [arLo, arHi]
def nulC (a b : Int) (s : ByteArray) : Bool := a == 0 && b == 0 && s.toList == []
def nulB (v : Va) : Bool := nulC v.k v.i v.t
def frB (o i : Int) (v : Va) (nm : ByteArray) (n : Nat) : Bool :=
 !(decide (arLo o < 0)) && !(decide ((n : Int) < arLo o)) && !(decide (arHi o < (n : Int))) && nm.toList == [] &&
  (if o = 1 then i == 0 && vvB v else if o = 2 then nulB v else if o = 24 then nulB v && (decide (0 ≤ i) && decide (i < 13)) else i == 0 && nulB v)
@[go_sem high] theorem eql_null (a b : Int) (s : ByteArray) (w : World) : (binOp .eql 66 (.agg #[.int .i64 a, .int .i64 b, .string s]) (.agg #[.int .i64 0, .int .i64 0, .string ⟨#[]⟩])).run Tryz.prog w = .ok (.bool (nulC a b s)) w := by
 simp [go_sem, held_value, Tryz.underlying66]
 unfold nulC
 by_cases h1 : a = 0 <;> by_cases h2 : b = 0 <;> by_cases h3 : s.toList = [] <;> simp [h1, h2, h3]
set_option maxRecDepth 100000 in
set_option maxHeartbeats 8000000 in
theorem formed_any (o i : Int) (v : Va) (nm : ByteArray) (A : Option Addr) (n c : Nat) (w : World) (hv : v.t.size ≤ 9223372036854775807) (hn : n ≤ 9223372036854775807) :
  Calls Tryz.prog 157 #[exag o i v nm A n c] w fun e w' => e = .returned (.bool (frB o i v nm n)) ∧ Ext w w' := by
 have HA := Lib.hid (fun w => arity_any o w)
 have HV := Lib.hid (fun w => rvv_any v w hv)
 have HB : Hid (frB o i v nm n = (!(decide (arLo o < 0)) && !(decide ((n : Int) < arLo o)) && !(decide (arHi o < (n : Int))) && nm.toList == [] &&
  (if o = 1 then i == 0 && vvB v else if o = 2 then nulB v else if o = 24 then nulB v && (decide (0 ≤ i) && decide (i < 13)) else i == 0 && nulB v))) := Lib.hid rfl
 generalize frB o i v nm n = b at HB ⊢
 generalize arLo o = lo at HA HB
 generalize arHi o = hi at HA HB
 generalize vvB v = vb at HV HB
 have hnb : nulB v = nulC v.k v.i v.t := rfl
 rw [hnb] at HB
 have HN : ∀ w : World, Calls Tryz.prog 155 #[] w fun e w' => e = .returned (.agg #[.int .i64 0, .int .i64 0, .string ⟨#[]⟩]) ∧ Ext w w' := fun w => rnull_any w
 rcases hnc : nulC v.k v.i v.t with _ | _
 all_goals rw [hnc] at HB
 all_goals by_cases g1 : 0 ≤ i
 all_goals by_cases g2 : i < 13
 all_goals by_cases g3 : i = 0
 all_goals try omega
 all_goals have q3 : (i == 0) = decide (i = 0) := by rw [Bool.eq_iff_iff]; simp
 all_goals (first | rw [decide_eq_true g3] at q3 | rw [decide_eq_false g3] at q3)
 all_goals (first | have q1 : decide (0 ≤ i) = true := decide_eq_true g1 | have q1 : decide (0 ≤ i) = false := decide_eq_false g1)
 all_goals clear hnb
 all_goals go_enter Tryz.func157, Tryz.ntmps157
 all_goals go_wp2_with (first | (go_at_call 156; refine (HA.out _).mono ?_; rintro e w1 ⟨rfl, hb1⟩; obtain ⟨x1, rfl⟩ := hb1.get; clear hb1) | (go_at_call 79; refine (HV.out _).mono ?_; rintro e w1 ⟨rfl, hb1⟩; obtain ⟨x2, rfl⟩ := hb1.get; clear hb1))
 all_goals try (refine wp_region_ext (by kernel_rfl) (by kernel_rfl) ?_; (repeat (first | go_big_quiet_step ((go_at_call 155; exact Calls.ext_of (HN _))) | quiet_step ((go_at_call 155; exact Calls.ext_of (HN _))) | simp only [q1])); refine wpQuiet_nil ?_; intro _ hw'; obtain ⟨xq, hw''⟩ := hw'; subst hw''; go_wp2)
 all_goals go_ret
 all_goals refine ⟨?_, ex_⟩
 all_goals rw [HB.out]
 all_goals clear HB HA HV
 all_goals go_light
 all_goals simp_all
 all_goals (first | omega | (intro hz; simp only [hz, not_true_eq_false, or_false] at *; omega) | (intro hz; simp_all; done) | (intro hz; simp_all; exfalso; omega))

end Go.Proofs.YtdiaecgpjgdkdaaGreat

namespace Go.Proofs.YtdiaecgpjgdkdaaGreat
open Go.RowKit

def RB (e : Ending) : Prop := ∃ b : Bool, e = .returned (.bool b)
def RKB (e : Ending) : Prop := ∃ (k : Int) (b : Bool), e = .returned (.tuple #[.int .i64 k, .bool b])
set_option maxHeartbeats 800000 in
theorem all_any (A : Option Addr) (c : Nat) (l : List Int) (kd : Int) (w : World) (hA : Rd w 1 A l.length (ic l)) (nl : l.length ≤ 9223372036854775807) :
  Calls Tryz.prog 165 #[.slice A l.length c, .int .i64 kd] w fun e w' => RB e ∧ Ext w w' := by
 go_enter Tryz.func165, Tryz.ntmps165
 go_wp2
 go_loop [5] (fun i => ∃ k : Nat, k ≤ l.length ∧ i = .int .i64 k) (fun i => l.length - (intOf i).toNat)
 case atStart => exact ⟨0, Nat.zero_le _, rfl⟩
 case round =>
  obtain ⟨k, hk, rfl⟩ := hrel
  by_cases hlt : k < l.length
  ·
   obtain ⟨g, oo, rfl, hg, c0⟩ := hA.int hlt
   generalize l[k] = v at c0
   by_cases h1 : v = kd
   ·
    go_wp2
    go_round
    case rel => exact ⟨k + 1, by omega, by go_num⟩
    case measure => simp [intOf]; omega
   ·
    by_cases h2 : v = 0
    ·
     go_wp2
     go_round
     case rel => exact ⟨k + 1, by omega, by go_num⟩
     case measure => simp [intOf]; omega
    ·
     go_wp2
     ·
      go_ret
      exact ⟨⟨_, rfl⟩, Ext.refl' _⟩
     ·
      exfalso; simp_all
  ·
   go_wp2
   go_ret
   exact ⟨⟨_, rfl⟩, Ext.refl' _⟩
set_option maxHeartbeats 800000 in
theorem join_any (A : Option Addr) (c : Nat) (l : List Int) (w : World) (hA : Rd w 1 A l.length (ic l)) (nl : l.length ≤ 9223372036854775807) :
  Calls Tryz.prog 166 #[.slice A l.length c] w fun e w' => RKB e ∧ Ext w w' := by
 go_enter Tryz.func166, Tryz.ntmps166
 go_wp2
 go_loop [4, 5] (fun q i => ∃ (k : Nat) (acc : Int), k ≤ l.length ∧ q = .int .i64 acc ∧ i = .int .i64 k) (fun _ i => l.length - (intOf i).toNat)
 case atStart => exact ⟨0, 0, Nat.zero_le _, rfl, rfl⟩
 case round =>
  obtain ⟨k, acc, hk, rfl, rfl⟩ := hrel
  by_cases hlt : k < l.length
  ·
   obtain ⟨g, oo, rfl, hg, c0⟩ := hA.int hlt
   generalize l[k] = v at c0
   by_cases h1 : v = 0
   ·
    go_wp2
    go_round
    case rel => exact ⟨k + 1, acc, by omega, rfl, by go_num⟩
    case measure => simp [intOf]; omega
   ·
    by_cases h2 : acc = 0
    ·
     go_wp2
     go_round
     case rel => exact ⟨k + 1, v, by omega, rfl, by go_num⟩
     case measure => simp [intOf]; omega
    ·
     by_cases h3 : acc = v
     ·
      go_wp2
      go_round
      case rel => exact ⟨k + 1, v, by omega, rfl, by go_num⟩
      case measure => simp [intOf]; omega
     ·
      go_wp2
      ·
       refine bodyPost_ret (v := .tuple #[.int .i64 0, .bool false]) ?_ rfl ⟨⟨_, _, rfl⟩, Ext.refl' _⟩
       simp [results, Tryz.results166, go_sem]
      ·
       exfalso; simp_all
  ·
   go_wp2
   refine bodyPost_ret (v := .tuple #[.int .i64 acc, .bool true]) ?_ rfl ⟨⟨_, _, rfl⟩, Ext.refl' _⟩
   simp [results, Tryz.results166, go_sem]

end Go.Proofs.YtdiaecgpjgdkdaaGreat

namespace Go.Proofs.YtdiaecgpjgdkdaaGreat
open Go.RowKit

set_option maxHeartbeats 4000000 in
theorem result_no (o i : Int) (v : Va) (nm : ByteArray) (A L K : Option Addr) (n c lc kc : Nat) (l ks : List Int) (w : World) (hL : Rd w 1 L l.length (ic l)) (hK : Rd w 1 K ks.length (ic ks)) (nl : l.length ≤ 9223372036854775807) (nk : ks.length ≤ 9223372036854775807) (h22 : o ≠ 22) (hcol : o ≠ 2) :
  Calls Tryz.prog 158 #[exag o i v nm A n c, .slice L l.length lc, .slice K ks.length kc] w fun e w' => RKB e ∧ Ext w w' := by
 go_enter Tryz.func158, Tryz.ntmps158
 go_wp2_with (first | (go_at_call 165; refine (all_any _ _ l _ _ (hL.ext (ex_)) nl).mono ?_; rintro e w1 ⟨⟨ba, rfl⟩, hb1⟩; obtain ⟨x1, rfl⟩ := hb1.get; clear hb1) | (go_at_call 166; refine (join_any _ _ l _ (hL.ext (ex_)) nl).mono ?_; rintro e w1 ⟨⟨ka, ba, rfl⟩, hb1⟩; obtain ⟨x1, rfl⟩ := hb1.get; clear hb1))
 all_goals try (exfalso; simp_all; done)
 all_goals go_ret2
 all_goals exact ⟨⟨_, _, rfl⟩, ex_⟩
set_option maxHeartbeats 4000000 in
theorem result_col (i : Int) (v : Va) (nm : ByteArray) (A L K : Option Addr) (n c lc kc : Nat) (l ks : List Int) (w : World) (hK : Rd w 1 K ks.length (ic ks)) (nk : ks.length ≤ 9223372036854775807) (hi : 0 ≤ i) (hi2 : i < ks.length) :
  Calls Tryz.prog 158 #[exag 2 i v nm A n c, .slice L l.length lc, .slice K ks.length kc] w fun e w' => RKB e ∧ Ext w w' := by
 obtain ⟨k, rfl⟩ : ∃ k : Nat, i = (k : Int) := ⟨i.toNat, by omega⟩
 have hlt : k < ks.length := by omega
 obtain ⟨g, oo, rfl, hg, c0⟩ := hK.int hlt
 generalize ks[k] = kd at c0
 go_enter Tryz.func158, Tryz.ntmps158
 go_wp2
 go_ret2
 exact ⟨⟨_, _, rfl⟩, ex_⟩
theorem Rd.cut {w : World} {b o : Nat} {a0 a1 a2 : Int} (h : Rd w 1 (some ⟨b, o, none⟩) 3 (ic [a0, a1, a2])) : Rd w 1 (some ⟨b, o, none⟩) 1 (ic [a0]) ∧ Rd w 1 (some ⟨b, o + 1, none⟩) 2 (ic [a1, a2]) := by
 obtain ⟨b', o', he, hb, hc⟩ := h.2 (by omega)
 cases he
 refine ⟨⟨rfl, fun _ => ⟨b, o, rfl, hb, fun j u hu => ?_⟩⟩, ⟨rfl, fun _ => ⟨b, o + 1, rfl, hb, fun j u hu => ?_⟩⟩⟩
 ·
  refine hc j u ?_
  match j, hu with
  | 0, hu => exact hu
 ·
  have := hc (j + 1) u hu
  rw [show o + 1 + j = o + (j + 1) from by omega]
  exact this
set_option maxHeartbeats 4000000 in
theorem result_if (i : Int) (v : Va) (nm : ByteArray) (A L K : Option Addr) (n c lc kc nks : Nat) (a0 a1 a2 : Int) (w : World) (hL : Rd w 1 L 3 (ic [a0, a1, a2])) (hlc : 3 ≤ lc) (hlc2 : lc ≤ 9223372036854775807) :
  Calls Tryz.prog 158 #[exag 22 i v nm A n c, .slice L 3 lc, .slice K nks kc] w fun e w' => RKB e ∧ Ext w w' := by
 obtain ⟨b0, o0, rfl, hb0, _⟩ := hL.2 (by omega)
 obtain ⟨r0, r1⟩ := hL.cut
 go_enter Tryz.func158, Tryz.ntmps158
 go_wp2_with (first | (go_at_call 165; refine (all_any _ _ [a0] _ _ (r0.ext (ex_)) (by simp)).mono ?_; rintro e w1 ⟨⟨ba, rfl⟩, hb1⟩; obtain ⟨x1, rfl⟩ := hb1.get; clear hb1) | (go_at_call 166; refine (join_any _ _ [a1, a2] _ (r1.ext (ex_)) (by simp)).mono ?_; rintro e w1 ⟨⟨ka, ba, rfl⟩, hb1⟩; obtain ⟨x1, rfl⟩ := hb1.get; clear hb1))
 all_goals go_ret2
 all_goals exact ⟨⟨_, _, rfl⟩, ex_⟩

end Go.Proofs.YtdiaecgpjgdkdaaGreat

namespace Go.Proofs.YtdiaecgpjgdkdaaGreat
open Go.RowKit

@[go_sem high] theorem eql_va (a b c d : Int) (s t : ByteArray) (w : World) : (binOp .eql 66 (.agg #[.int .i64 a, .int .i64 b, .string s]) (.agg #[.int .i64 c, .int .i64 d, .string t])).run Tryz.prog w = .ok (.bool (a == c && b == d && s.toList == t.toList)) w := by
 simp [go_sem, held_value, Tryz.underlying66]
 by_cases h1 : a = c <;> by_cases h2 : b = d <;> by_cases h3 : s.toList = t.toList <;> simp [h1, h2, h3]
end Go.Proofs.YtdiaecgpjgdkdaaGreat

namespace Go.Proofs.YtdiaecgpjgdkdaaGreat
open Go.RowKit

theorem Rd.val3 {w : World} {A : Option Addr} {l : List Va} {n : Nat} (h : Rd w 3 A n (vcl l)) (hn : l.length = n) {k : Nat} (hk : k < n) :
  ∃ v b o, l[k]? = some v ∧ A = some ⟨b, o, none⟩ ∧ b < w.heap.size ∧ w.cell? ⟨b, o + k * 3, none⟩ = some (.int .i64 v.k) ∧ w.cell? ⟨b, o + k * 3 + 1, none⟩ = some (.int .i64 v.i) ∧ w.cell? ⟨b, o + k * 3 + 2, none⟩ = some (.string v.t) := by
 have hk' : k < l.length := by omega
 subst hn
 obtain ⟨b, o, h1, h2, h3, h4, h5⟩ := h.val hk'
 exact ⟨l[k], b, o, List.getElem?_eq_getElem hk', h1, h2, h3, h4, h5⟩
end Go.Proofs.YtdiaecgpjgdkdaaGreat
