/- Lemmas for the rows: Val Cmp Exp ItP ItA. -/
import Derived.Test.YtdiaecgpjgdkdaaGreatThS04
import Derived.Deep.Light
import Derived.Deep.RegionHeld3
import Derived.Deep.LoopGhost
set_option linter.unusedSimpArgs false
set_option linter.unusedVariables false
namespace Go.Proofs.YtdiaecgpjgdkdaaGreat
open Go.RowKit

structure Va where
 k : Int
 i : Int
 t : ByteArray
deriving DecidableEq
def vc (v : Va) : List Value := [.int .i64 v.k, .int .i64 v.i, .string v.t]
abbrev vag (v : Va) : Value := .agg #[.int .i64 v.k, .int .i64 v.i, .string v.t]

def prL : List UInt8 → Bool
 | [] => true
 | c :: l => if (c.toNat : Int) < 32 then false else if 126 < (c.toNat : Int) then false else prL l
def prB (s : ByteArray) : Bool := prL s.data.toList

theorem drop_byte (s : ByteArray) (k : Nat) (h : k < s.size) : s.data.toList.drop k = s[k] :: s.data.toList.drop (k + 1) := by
 rw [List.drop_eq_getElem_cons (by simpa using h)]; rfl

set_option maxHeartbeats 800000 in
theorem printable_any (s : ByteArray) (w : World) (hs : s.size ≤ 9223372036854775807) :
  Calls Tryz.prog 159 #[.string s] w fun e w' => e = .returned (.bool (prB s)) ∧ Ext w w' := by
 go_enter Tryz.func159, Tryz.ntmps159
 go_wp2
 go_loop [6] (fun i => ∃ k : Nat, k ≤ s.size ∧ i = .int .i64 k ∧ Hid (prB s = prL (s.data.toList.drop k))) (fun i => s.size - (intOf i).toNat)
 case atStart => exact ⟨0, Nat.zero_le _, rfl, Lib.hid rfl⟩
 case round =>
  obtain ⟨k, hk, rfl, HC⟩ := hrel
  by_cases hlt : k < s.size
  ·
   have HD : Hid (prB s = prL (s[k] :: s.data.toList.drop (k + 1))) := Lib.hid (by rw [HC.out, drop_byte s k hlt])
   clear HC
   rcases (show ((s[k].toNat : Int) < 32) ∨ (¬ (s[k].toNat : Int) < 32 ∧ 126 < (s[k].toNat : Int)) ∨ (¬ (s[k].toNat : Int) < 32 ∧ ¬ 126 < (s[k].toNat : Int)) from by omega) with h1 | ⟨h1, h2⟩ | ⟨h1, h2⟩
   ·
    have H0 : Hid (prB s = false) := Lib.hid (by rw [HD.out, prL, if_pos h1])
    clear HD
    go_wp2
    go_ret
    exact ⟨by rw [H0.out]; rfl, Ext.refl' _⟩
   ·
    have H0 : Hid (prB s = false) := Lib.hid (by rw [HD.out, prL, if_neg h1, if_pos h2])
    clear HD
    go_wp2
    go_ret
    exact ⟨by rw [H0.out]; rfl, Ext.refl' _⟩
   ·
    have H0 : Hid (prB s = prL (s.data.toList.drop (k + 1))) := Lib.hid (by rw [HD.out, prL, if_neg h1, if_neg h2])
    clear HD
    go_wp2
    go_round
    case rel => exact ⟨k + 1, by omega, by go_num, H0⟩
    case measure => simp [intOf]; omega
  ·
   have H0 : Hid (prB s = true) := Lib.hid (by rw [HC.out, List.drop_eq_nil_of_le (by simpa using Nat.le_of_not_lt hlt)]; rfl)
   clear HC
   go_wp2
   go_ret
   exact ⟨by rw [H0.out]; rfl, Ext.refl' _⟩

def emB (s : ByteArray) : Bool := s.toList.isEmpty
def vvB (v : Va) : Bool :=
 if v.k = 0 then v.i == 0 && emB v.t else
 if v.k = 1 then emB v.t && (decide (-1125899906842624 ≤ v.i) && decide (v.i ≤ 1125899906842624)) else
 if v.k = 2 then v.i == 0 && (decide (v.t.size ≤ 200) && prB v.t) else
 if v.k = 3 then emB v.t && (v.i == 0 || v.i == 1) else false

set_option maxHeartbeats 1600000 in
theorem vvalid_any (v : Va) (w : World) (hs : v.t.size ≤ 9223372036854775807) :
  Calls Tryz.prog 144 #[vag v] w fun e w' => e = .returned (.bool (vvB v)) ∧ Ext w w' := by
 go_enter Tryz.func144, Tryz.ntmps144
 go_wp2_with (go_at_call 159; (refine (printable_any _ _ hs).mono ?_; rintro e w1 ⟨rfl, hb1⟩; obtain ⟨x1, rfl⟩ := hb1.get; clear hb1))
 all_goals go_ret
 all_goals refine ⟨?_, by repeat (first | exact Ext.refl' _ | apply Ext.ex' | apply Ext.al)⟩
 all_goals simp_all [vvB, emB]
 all_goals omega
end Go.Proofs.YtdiaecgpjgdkdaaGreat

namespace Go.Proofs.YtdiaecgpjgdkdaaGreat
open Go.RowKit

def cmpI (a b : Int) : Int := if a < b then -1 else if b < a then 1 else 0
def orF : List Int → Int
 | [] => 0
 | a :: l => if a = 0 then orF l else a

theorem nan_any (a : Int) (w : World) : Calls Tryz.prog 85 #[.int .i64 a] w fun e w' => e = .returned (.bool false) ∧ w' = w := by
 go_enter Tryz.func85, Tryz.ntmps85
 go_wp2
 go_ret
 exact ⟨by simp, rfl⟩

set_option maxHeartbeats 800000 in
theorem cmpI_any (a b : Int) (w : World) : Calls Tryz.prog 46 #[.int .i64 a, .int .i64 b] w fun e w' => e = .returned (.int .i64 (cmpI a b)) ∧ w' = w := by
 go_enter Tryz.func46, Tryz.ntmps46
 go_wp2_with (go_at_call 85; (refine (nan_any _ _).mono ?_; rintro e w1 ⟨rfl, rfl⟩))
 all_goals go_ret
 all_goals refine ⟨?_, rfl⟩
 all_goals refine congrArg (fun z => Ending.returned (Value.int .i64 z)) ?_
 all_goals unfold cmpI
 all_goals (repeat' split) <;> first | rfl | omega

set_option maxHeartbeats 800000 in
theorem or_any (A : Option Addr) (l : List Int) (c : Nat) (w : World) (hR : Rd w 1 A l.length (ic l)) (hl : l.length ≤ 9223372036854775807) :
  Calls Tryz.prog 45 #[.slice A l.length c] w fun e w' => e = .returned (.int .i64 (orF l)) ∧ w' = w := by
 go_enter Tryz.func45, Tryz.ntmps45
 go_wp2
 go_loopw [8, 5] (fun i s5 wr => ∃ j : Nat, j ≤ l.length ∧ i = .int .i64 j ∧ wr = w ∧ Hid (orF l = orF (l.drop j))) (fun i _ _ => l.length - (intOf i).toNat)
 case atStart => exact ⟨0, Nat.zero_le _, rfl, rfl, Lib.hid rfl⟩
 case round =>
  obtain ⟨j, hj, rfl, rfl, HC⟩ := hrel
  by_cases hlt : j < l.length
  ·
   obtain ⟨b, o, rfl, hb, hc1⟩ := hR.int hlt
   have HD : Hid (orF l = orF (l[j] :: l.drop (j + 1))) := Lib.hid (by rw [HC.out, List.drop_eq_getElem_cons hlt])
   clear HC
   generalize l[j] = z at hc1 HD
   by_cases hz : z = 0
   ·
    have H0 : Hid (orF l = orF (l.drop (j + 1))) := Lib.hid (by rw [HD.out, orF, if_pos hz])
    have hzb : (z != 0) = false := by simp [hz]
    clear HD
    go_wp2
    go_roundw
    case rel => go_light; exact ⟨j + 1, by omega, by go_num, by first | rfl | trivial, H0⟩
    case measure => go_light; simp [intOf]; omega
   ·
    have H0 : Hid (orF l = z) := Lib.hid (by rw [HD.out, orF, if_neg hz])
    have hzb : (z != 0) = true := by simp [hz]
    clear HD
    go_wp2
    go_ret
    exact ⟨by rw [H0.out]; rfl, rfl⟩
  ·
   have H0 : Hid (orF l = 0) := Lib.hid (by rw [HC.out, List.drop_eq_nil_of_le (Nat.le_of_not_lt hlt)]; rfl)
   clear HC
   go_wp2
   go_ret
   exact ⟨by rw [H0.out]; rfl, rfl⟩

end Go.Proofs.YtdiaecgpjgdkdaaGreat

namespace Go.Proofs.YtdiaecgpjgdkdaaGreat
open Go.RowKit

inductive Ex where
 | mk (op i : Int) (v : Va) (nm : ByteArray) (args : List Ex)
def Ex.op : Ex → Int | .mk o _ _ _ _ => o
def Ex.i : Ex → Int | .mk _ i _ _ _ => i
def Ex.v : Ex → Va | .mk _ _ v _ _ => v
def Ex.nm : Ex → ByteArray | .mk _ _ _ n _ => n
def Ex.args : Ex → List Ex | .mk _ _ _ _ a => a

def exc (o i : Int) (v : Va) (nm : ByteArray) (A : Option Addr) (n c : Nat) : List Value := [.int .i64 o, .int .i64 i, .int .i64 v.k, .int .i64 v.i, .string v.t, .string nm, .slice A n c]
abbrev exag (o i : Int) (v : Va) (nm : ByteArray) (A : Option Addr) (n c : Nat) : Value := .agg #[.int .i64 o, .int .i64 i, .int .i64 v.k, .int .i64 v.i, .string v.t, .string nm, .slice A n c]

mutual
def RE (w : World) : Ex → List Value → Prop
 | .mk o i v nm args, cs => ∃ A c css, cs = exc o i v nm A args.length c ∧ v.t.size ≤ 9223372036854775807 ∧ nm.size ≤ 9223372036854775807 ∧ args.length ≤ 9223372036854775807 ∧ args.length ≤ c ∧ Rd w 7 A args.length (List.flatten css) ∧ REs w args css
def REs (w : World) : List Ex → List (List Value) → Prop
 | [], css => css = []
 | e :: es, css => ∃ cs css', css = cs :: css' ∧ RE w e cs ∧ REs w es css'
end

mutual
theorem RE.ext {w w' : World} (h : Ext w w') : ∀ {e : Ex} {cs : List Value}, RE w e cs → RE w' e cs
 | .mk o i v nm args, cs, hr => by
  rw [RE] at hr ⊢
  obtain ⟨A, c, css, h1, h2, h3, h4, h5, h6, h7⟩ := hr
  exact ⟨A, c, css, h1, h2, h3, h4, h5, h6.ext h, REs.ext h h7⟩
theorem REs.ext {w w' : World} (h : Ext w w') : ∀ {es : List Ex} {css : List (List Value)}, REs w es css → REs w' es css
 | [], css, hr => by rw [REs] at hr ⊢; exact hr
 | e :: es, css, hr => by
  rw [REs] at hr ⊢
  obtain ⟨cs, css', h1, h2, h3⟩ := hr
  exact ⟨cs, css', h1, RE.ext h h2, REs.ext h h3⟩
end

theorem RE.len {w : World} {e : Ex} {cs : List Value} (h : RE w e cs) : cs.length = 7 := by
 cases e
 rw [RE] at h
 obtain ⟨A, c, css, rfl, _⟩ := h
 rfl
theorem REs.get {w : World} : ∀ {es : List Ex} {css : List (List Value)}, REs w es css → css.length = es.length ∧ ∀ k (hk : k < es.length), ∃ cs, css[k]? = some cs ∧ RE w es[k] cs ∧ ∀ j, j < 7 → css.flatten[k * 7 + j]? = cs[j]?
 | [], css, hr => by rw [REs] at hr; subst hr; exact ⟨rfl, fun k hk => by simp at hk⟩
 | e :: es, css, hr => by
  rw [REs] at hr
  obtain ⟨cs, css', rfl, h2, h3⟩ := hr
  have h4 := REs.get h3
  have hl := h2.len
  refine ⟨by simp [h4.1], fun k hk => ?_⟩
  cases k with
  | zero => exact ⟨cs, rfl, h2, fun j hj => by simp [List.getElem?_append_left (show j < cs.length by omega)]⟩
  | succ k =>
   obtain ⟨cs', a, b, c⟩ := h4.2 k (by simpa using hk)
   refine ⟨cs', by simpa using a, b, fun j hj => ?_⟩
   rw [← c j hj, List.flatten_cons, List.getElem?_append_right (by omega)]
   congr 1
   omega

theorem RE.arg {w : World} {A : Option Addr} {args : List Ex} {css : List (List Value)} (hR : Rd w 7 A args.length css.flatten) (hs : REs w args css) {k : Nat} (hk : k < args.length) :
  ∃ b o, A = some ⟨b, o, none⟩ ∧ b < w.heap.size ∧ ∃ A' c' css', w.cell? ⟨b, o + k * 7, none⟩ = some (.int .i64 args[k].op) ∧ w.cell? ⟨b, o + k * 7 + 1, none⟩ = some (.int .i64 args[k].i) ∧ w.cell? ⟨b, o + k * 7 + 2, none⟩ = some (.int .i64 args[k].v.k) ∧
   w.cell? ⟨b, o + k * 7 + 3, none⟩ = some (.int .i64 args[k].v.i) ∧ w.cell? ⟨b, o + k * 7 + 4, none⟩ = some (.string args[k].v.t) ∧ w.cell? ⟨b, o + k * 7 + 5, none⟩ = some (.string args[k].nm) ∧ w.cell? ⟨b, o + k * 7 + 6, none⟩ = some (.slice A' args[k].args.length c') ∧
   args[k].v.t.size ≤ 9223372036854775807 ∧ args[k].nm.size ≤ 9223372036854775807 ∧ args[k].args.length ≤ 9223372036854775807 ∧ args[k].args.length ≤ c' ∧ Rd w 7 A' args[k].args.length (List.flatten css') ∧ REs w args[k].args css' := by
 obtain ⟨b, o, hA, hb, hc⟩ := hR.2 (by omega)
 obtain ⟨hl, hg⟩ := REs.get hs
 obtain ⟨cs, h1, h2, h3⟩ := hg k hk
 refine ⟨b, o, hA, hb, ?_⟩
 generalize args[k] = e at h2
 obtain ⟨o', i, v, nm, ar⟩ := e
 rw [RE] at h2
 obtain ⟨A', c', css', rfl, a1, a2, a3, a4, a5, a6⟩ := h2
 refine ⟨A', c', css', hc _ _ (h3 0 (by decide)), ?_, ?_, ?_, ?_, ?_, ?_, a1, a2, a3, a4, a5, a6⟩
 ·
  have := hc _ _ (h3 1 (by decide)); rwa [← Nat.add_assoc] at this
 ·
  have := hc _ _ (h3 2 (by decide)); rwa [← Nat.add_assoc] at this
 ·
  have := hc _ _ (h3 3 (by decide)); rwa [← Nat.add_assoc] at this
 ·
  have := hc _ _ (h3 4 (by decide)); rwa [← Nat.add_assoc] at this
 ·
  have := hc _ _ (h3 5 (by decide)); rwa [← Nat.add_assoc] at this
 ·
  have := hc _ _ (h3 6 (by decide)); rwa [← Nat.add_assoc] at this

def mirF (op : Int) : Int := if op = 9 then 11 else if op = 11 then 9 else if op = 10 then 12 else if op = 12 then 10 else op

set_option maxHeartbeats 800000 in
theorem mirrored_any (op : Int) (w : World) : Calls Tryz.prog 143 #[.int .i64 op] w fun e w' => e = .returned (.int .i64 (mirF op)) ∧ w = w' := by
 go_enter Tryz.func143, Tryz.ntmps143
 go_wp2
 all_goals go_ret
 all_goals refine ⟨?_, rfl⟩
 all_goals simp_all [mirF]

structure Cd where
 op : Int
 col : Int
 v : Va
deriving DecidableEq
def isCmp (op : Int) : Bool := op == 7 || op == 9 || op == 10 || op == 11 || op == 12
def condG (a b : Ex) (op : Int) : Option Cd := if a.op = 2 ∧ b.op = 1 ∧ b.v.k ≠ 0 ∧ vvB b.v = true then some ⟨op, a.i, b.v⟩ else none
def condF (e : Ex) : Option Cd :=
 if isCmp e.op = false then none else
 match e.args with
 | [a, b] => if a.op = 1 then condG b a (mirF e.op) else condG a b e.op
 | _ => none
end Go.Proofs.YtdiaecgpjgdkdaaGreat

namespace Go.Proofs.YtdiaecgpjgdkdaaGreat
open Go.RowKit

abbrev It := (Int × Int) × Int
inductive AT where
 | nil
 | node (b : Nat) (x : It) (l r : AT) (h e : Int)
def AT.p : AT → Value
 | .nil => .pointer none
 | .node b _ _ _ _ _ => .pointer (some ⟨b, 0, none⟩)
def AT.ht : AT → Int
 | .nil => 0
 | .node _ _ _ _ h _ => h
def AT.en : AT → Int
 | .nil => 0
 | .node _ _ _ _ _ e => e
def AT.foot : AT → List Nat
 | .nil => []
 | .node b _ l r _ _ => b :: (l.foot ++ r.foot)
def AT.flat : AT → List It
 | .nil => []
 | .node _ x l r _ _ => l.flat ++ x :: r.flat
def AT.Ok : AT → Prop
 | .nil => True
 | .node _ x l r h e => l.Ok ∧ r.Ok ∧ h = 1 + max l.ht r.ht ∧ e = max x.1.2 (max l.en r.en)
theorem AT.Ok.ht0 : ∀ {t : AT}, t.Ok → 0 ≤ t.ht ∧ t.ht ≤ t.flat.length
 | .nil, _ => by simp [AT.ht, AT.flat]
 | .node b x l r h e, k => by
  have h1 := AT.Ok.ht0 k.1
  have h2 := AT.Ok.ht0 k.2.1
  have h3 := k.2.2.1
  simp only [AT.ht, AT.flat, List.length_append, List.length_cons] at *
  omega
def itC (x y : It) : Int := if x.1.1 ≠ y.1.1 then cmpI x.1.1 y.1.1 else if x.1.2 ≠ y.1.2 then cmpI x.1.2 y.1.2 else cmpI x.2 y.2
def itL (x y : It) : Prop := x.1.1 < y.1.1 ∨ (x.1.1 = y.1.1 ∧ (x.1.2 < y.1.2 ∨ (x.1.2 = y.1.2 ∧ x.2 < y.2)))
theorem itC_lt {x y : It} : itC x y < 0 ↔ itL x y := by
 unfold itC itL cmpI
 repeat' split
 all_goals omega
theorem itC_gt {x y : It} : 0 < itC x y ↔ itL y x := by
 unfold itC itL cmpI
 repeat' split
 all_goals omega
theorem itC_eq {x y : It} : itC x y = 0 ↔ x = y := by
 obtain ⟨⟨a, b⟩, c⟩ := x
 obtain ⟨⟨a', b'⟩, c'⟩ := y
 unfold itC cmpI
 simp only [Prod.mk.injEq]
 repeat' split
 all_goals omega
theorem itL_trans {x y z : It} (h : itL x y) (k : itL y z) : itL x z := by unfold itL at *; omega
theorem itL_tri (x y : It) : itL x y ∨ x = y ∨ itL y x := by
 rcases Int.lt_trichotomy (itC x y) 0 with h | h | h
 ·
  exact .inl (itC_lt.1 h)
 ·
  exact .inr (.inl (itC_eq.1 h))
 ·
  exact .inr (.inr (itC_gt.1 h))
def SrI (l : List It) : Prop := l.Pairwise itL
theorem SrI.mid {a b : List It} {x : It} (h : SrI (a ++ x :: b)) : SrI a ∧ SrI b ∧ (∀ y ∈ a, itL y x) ∧ ∀ y ∈ b, itL x y := by
 unfold SrI at *
 rw [List.pairwise_append, List.pairwise_cons] at h
 exact ⟨h.1, h.2.1.2, fun y hy => h.2.2 y hy x (by simp), h.2.1.1⟩
theorem SrI.mk {a b : List It} {x : It} (ha : SrI a) (hb : SrI b) (h1 : ∀ y ∈ a, itL y x) (h2 : ∀ y ∈ b, itL x y) : SrI (a ++ x :: b) := by
 unfold SrI at *
 rw [List.pairwise_append, List.pairwise_cons]
 refine ⟨ha, ⟨h2, hb⟩, fun y hy z hz => ?_⟩
 rcases List.mem_cons.1 hz with rfl | hz
 ·
  exact h1 y hy
 ·
  exact itL_trans (h1 y hy) (h2 z hz)
def AT.ov (p : Int × Int) : AT → List Int
 | .nil => []
 | .node _ x l r _ e => if e ≤ p.1 then [] else l.ov p ++ (if p.2 ≤ x.1.1 then [] else (if p.1 < x.1.2 then [x.2] else []) ++ r.ov p)
def ovP (p : Int × Int) (x : It) : Bool := decide (x.1.1 < p.2) && decide (p.1 < x.1.2)
theorem AT.Ok.en_le : ∀ {t : AT}, t.Ok → ∀ x ∈ t.flat, x.1.2 ≤ t.en
 | .nil, _, x, h => by simp [AT.flat] at h
 | .node b y l r h e, k, x, hx => by
  have h3 := k.2.2.2
  simp only [AT.flat, List.mem_append, List.mem_cons] at hx
  simp only [AT.en]
  rcases hx with hx | rfl | hx
  ·
   have := AT.Ok.en_le k.1 x hx; omega
  ·
   omega
  ·
   have := AT.Ok.en_le k.2.1 x hx; omega
theorem filter_none {l : List It} {f : It → Bool} (h : ∀ x ∈ l, f x = false) : l.filter f = [] := by
 rw [List.filter_eq_nil_iff]
 intro x hx
 rw [h x hx]
 decide
theorem AT.ov_flat (p : Int × Int) : ∀ {t : AT}, t.Ok → SrI t.flat → t.ov p = (t.flat.filter (ovP p)).map (·.2)
 | .nil, _, _ => by simp [AT.ov, AT.flat]
 | .node b x l r h e, k, hs => by
  have k' := k
  obtain ⟨s1, s2, s3, s4⟩ := SrI.mid (show SrI (l.flat ++ x :: r.flat) from hs)
  rw [AT.ov]
  split
  ·
   rename_i he
   rw [filter_none]
   ·
    rfl
   ·
    intro y hy
    have := AT.Ok.en_le k y hy
    simp only [AT.en] at this
    have : ¬ p.1 < y.1.2 := by omega
    simp [ovP, this]
  ·
   rw [AT.ov_flat p k.1 s1, AT.flat, List.filter_append, List.map_append]
   congr 1
   split
   ·
    rename_i hf
    rw [filter_none]
    ·
     rfl
    ·
     intro y hy
     have h1 : x.1.1 ≤ y.1.1 := by
      rcases List.mem_cons.1 hy with rfl | hy
      ·
       omega
      ·
       have := s4 y hy; unfold itL at this; omega
     have : ¬ y.1.1 < p.2 := by omega
     simp [ovP, this]
   ·
    rename_i hf
    rw [AT.ov_flat p k.2.1 s2, List.filter_cons]
    split
    ·
     rename_i h1
     rw [if_pos (by simp [ovP]; omega)]
     rfl
    ·
     rename_i h1
     rw [if_neg (by simp [ovP]; omega)]
     rfl
end Go.Proofs.YtdiaecgpjgdkdaaGreat

namespace Go.Proofs.YtdiaecgpjgdkdaaGreat
open Go.RowKit

def ptI (b : Nat) : Value := .pointer (some ⟨b, 0, none⟩)
def ndc (x : It) (L R : Value) (h e : Int) : Array Value := #[.int .i64 x.1.1, .int .i64 x.1.2, .int .i64 x.2, L, R, .int .i64 h, .int .i64 e]
def NdI (w : World) (b : Nat) (x : It) (L R : Value) (h e : Int) : Prop := w.heap[b]? = some (.cells (ndc x L R h e) 180 (0, 0))
structure NdF (w : World) (b : Nat) (x : It) (L R : Value) (h e : Int) : Prop where
 lt : b < w.heap.size
 c0 : w.cell? ⟨b, 0, none⟩ = some (.int .i64 x.1.1)
 c1 : w.cell? ⟨b, 1, none⟩ = some (.int .i64 x.1.2)
 c2 : w.cell? ⟨b, 2, none⟩ = some (.int .i64 x.2)
 c3 : w.cell? ⟨b, 3, none⟩ = some L
 c4 : w.cell? ⟨b, 4, none⟩ = some R
 c5 : w.cell? ⟨b, 5, none⟩ = some (.int .i64 h)
 c6 : w.cell? ⟨b, 6, none⟩ = some (.int .i64 e)
 f3 : w.frozen? ⟨b, 3, none⟩ = false
 f4 : w.frozen? ⟨b, 4, none⟩ = false
 f5 : w.frozen? ⟨b, 5, none⟩ = false
 f6 : w.frozen? ⟨b, 6, none⟩ = false
theorem NdI.f {w : World} {b : Nat} {x : It} {L R : Value} {h e : Int} (k : NdI w b x L R h e) : NdF w b x L R h e := by
 have k' : w.heap[b]? = some (.cells (ndc x L R h e) 180 (0, 0)) := k
 refine ⟨(Array.getElem?_eq_some_iff.1 k').1, ?_, ?_, ?_, ?_, ?_, ?_, ?_, ?_, ?_, ?_, ?_⟩ <;> simp [World.cell?, World.frozen?, k', ndc]
structure Chg (S : List Nat) (w w' : World) : Prop where
 os : w'.os = w.os
 tape : w'.tape = w.tape
 output : w'.output = w.output
 size : w.heap.size ≤ w'.heap.size
 same : ∀ k, k < w.heap.size → k ∉ S → w'.heap[k]? = w.heap[k]?
theorem Chg.tr {S : List Nat} {a b c : World} (h : Chg S a b) (k : Chg S b c) : Chg S a c :=
 ⟨k.os.trans h.os, k.tape.trans h.tape, k.output.trans h.output, Nat.le_trans h.size k.size, fun j hj hn => (k.same j (Nat.lt_of_lt_of_le hj h.size) hn).trans (h.same j hj hn)⟩
theorem Chg.tr2 {S T : List Nat} {a b c : World} (h : Chg S a b) (k : Chg T b c) (ht : ∀ j ∈ T, j ∈ S ∨ a.heap.size ≤ j) : Chg S a c :=
 ⟨k.os.trans h.os, k.tape.trans h.tape, k.output.trans h.output, Nat.le_trans h.size k.size, fun j hj hn => (k.same j (Nat.lt_of_lt_of_le hj h.size) (fun e => (ht j e).elim hn fun e => by omega)).trans (h.same j hj hn)⟩
theorem Chg.mono {S T : List Nat} {a b : World} (h : Chg S a b) (ht : ∀ j ∈ S, j ∈ T) : Chg T a b := ⟨h.os, h.tape, h.output, h.size, fun j hj hn => h.same j hj fun e => hn (ht j e)⟩
theorem Chg.of_ext {S : List Nat} {a b : World} (h : Ext a b) : Chg S a b := ⟨h.os, h.tape, h.output, h.size, fun j hj _ => h.block j hj⟩
theorem Chg.toExt {S : List Nat} {base a b : World} (h : Chg S a b) (e : Ext base a) (hs : ∀ j ∈ S, base.heap.size ≤ j) : Ext base b :=
 ⟨h.os.trans e.os, h.tape.trans e.tape, h.output.trans e.output, Nat.le_trans e.size h.size, fun j hj => (h.same j (Nat.lt_of_lt_of_le hj e.size) (fun k => by have := hs j k; omega)).trans (e.block j hj)⟩
theorem NdI.set {w : World} {b : Nat} {C : Array Value} (k : w.heap[b]? = some (.cells C 180 (0, 0))) (i : Nat) (u : Value) : ∃ w', w.setCell ⟨b, i, none⟩ u = w' ∧ w'.heap[b]? = some (.cells (C.setIfInBounds i u) 180 (0, 0)) ∧ Chg [b] w w' := by
 refine ⟨_, rfl, ?_, ?_⟩
 ·
  rw [setCell_eq_setRow w b i _ 180 (0, 0) _ k]
  exact setRow_heap w b _ _ 180 (0, 0) k
 ·
  rw [setCell_eq_setRow w b i _ 180 (0, 0) _ k]
  exact ⟨rfl, rfl, rfl, by simp [World.setRow], fun j _ hj => setRow_other w b j _ (by simpa using hj)⟩
theorem NdI.set3 {w : World} {b : Nat} {x : It} {L R : Value} {h e : Int} (k : NdI w b x L R h e) (u : Value) : ∃ w', w.setCell ⟨b, 3, none⟩ u = w' ∧ NdI w' b x u R h e ∧ Chg [b] w w' := NdI.set k 3 u
theorem NdI.set4 {w : World} {b : Nat} {x : It} {L R : Value} {h e : Int} (k : NdI w b x L R h e) (u : Value) : ∃ w', w.setCell ⟨b, 4, none⟩ u = w' ∧ NdI w' b x L u h e ∧ Chg [b] w w' := NdI.set k 4 u
theorem NdI.set5 {w : World} {b : Nat} {x : It} {L R : Value} {h e : Int} (k : NdI w b x L R h e) (u : Int) : ∃ w', w.setCell ⟨b, 5, none⟩ (.int .i64 u) = w' ∧ NdI w' b x L R u e ∧ Chg [b] w w' := NdI.set k 5 (.int .i64 u)
theorem NdI.set6 {w : World} {b : Nat} {x : It} {L R : Value} {h e : Int} (k : NdI w b x L R h e) (u : Int) : ∃ w', w.setCell ⟨b, 6, none⟩ (.int .i64 u) = w' ∧ NdI w' b x L R h u ∧ Chg [b] w w' := NdI.set k 6 (.int .i64 u)
def Gd (w : World) : AT → Prop
 | .nil => True
 | .node b x l r h e => NdI w b x l.p r.p h e ∧ Gd w l ∧ Gd w r
theorem Gd.lt {w : World} : ∀ {t : AT}, Gd w t → ∀ k ∈ t.foot, k < w.heap.size
 | .nil, _, k, hk => by simp [AT.foot] at hk
 | .node b x l r h e, g, k, hk => by
  simp only [AT.foot, List.mem_cons, List.mem_append] at hk
  rcases hk with rfl | hk | hk
  ·
   exact g.1.f.lt
  ·
   exact Gd.lt g.2.1 k hk
  ·
   exact Gd.lt g.2.2 k hk
theorem NdI.chg {S : List Nat} {w w' : World} {b : Nat} {x : It} {L R : Value} {h e : Int} (k : NdI w b x L R h e) (c : Chg S w w') (hn : b ∉ S) : NdI w' b x L R h e := (c.same b k.f.lt hn).trans k
theorem Gd.chg {S : List Nat} {w w' : World} (c : Chg S w w') : ∀ {t : AT}, Gd w t → (∀ k ∈ t.foot, k ∉ S) → Gd w' t
 | .nil, _, _ => trivial
 | .node b x l r h e, g, hn => ⟨g.1.chg c (hn b (by simp [AT.foot])), Gd.chg c g.2.1 (fun k hk => hn k (by simp [AT.foot, hk])), Gd.chg c g.2.2 (fun k hk => hn k (by simp [AT.foot, hk]))⟩
theorem Gd.ext {w w' : World} {t : AT} (g : Gd w t) (e : Ext w w') : Gd w' t := g.chg (S := []) (Chg.of_ext e) (by simp)
theorem NdI.ext {w w' : World} {b : Nat} {x : It} {L R : Value} {h e : Int} (k : NdI w b x L R h e) (c : Ext w w') : NdI w' b x L R h e := k.chg (S := []) (Chg.of_ext c) (by simp)
def LvI (w : World) (p : Value) (h e : Int) : Prop := (p = .pointer none ∧ h = 0 ∧ e = 0) ∨ ∃ b, p = ptI b ∧ b < w.heap.size ∧ w.cell? ⟨b, 5, none⟩ = some (.int .i64 h) ∧ w.cell? ⟨b, 6, none⟩ = some (.int .i64 e)
theorem Gd.lev {w : World} {t : AT} (g : Gd w t) : LvI w t.p t.ht t.en := by
 cases t with
 | nil => exact .inl ⟨rfl, rfl, rfl⟩
 | node b x l r h e => exact .inr ⟨b, rfl, g.1.f.lt, g.1.f.c5, g.1.f.c6⟩
theorem LvI.ext {w w' : World} {p : Value} {h e : Int} (k : LvI w p h e) (c : Ext w w') : LvI w' p h e := by
 rcases k with k | ⟨b, h1, h2, h3, h4⟩
 ·
  exact .inl k
 ·
  exact .inr ⟨b, h1, Nat.lt_of_lt_of_le h2 c.size, c.cell' h3, c.cell' h4⟩
set_option maxRecDepth 100000 in
set_option maxHeartbeats 8000000 in
theorem levels_any (p : Value) (h e : Int) (w : World) (k : LvI w p h e) : Calls Tryz.prog 125 #[p] w fun en w' => en = .returned (.int .i64 h) ∧ w' = w := by
 rcases k with ⟨rfl, rfl, rfl⟩ | ⟨b, rfl, h2, h3, h4⟩
 ·
  go_enter Tryz.func125, Tryz.ntmps125
  go_wp2
  go_ret
  exact ⟨rfl, rfl⟩
 ·
  unfold ptI
  go_enter Tryz.func125, Tryz.ntmps125
  go_wp2
  go_ret
  exact ⟨rfl, rfl⟩
set_option maxRecDepth 100000 in
set_option maxHeartbeats 8000000 in
theorem last_any (p : Value) (h e : Int) (w : World) (k : LvI w p h e) : Calls Tryz.prog 150 #[p] w fun en w' => en = .returned (.int .i64 e) ∧ w' = w := by
 rcases k with ⟨rfl, rfl, rfl⟩ | ⟨b, rfl, h2, h3, h4⟩
 ·
  go_enter Tryz.func150, Tryz.ntmps150
  go_wp2
  go_ret
  exact ⟨rfl, rfl⟩
 ·
  unfold ptI
  go_enter Tryz.func150, Tryz.ntmps150
  go_wp2
  go_ret
  exact ⟨rfl, rfl⟩

theorem cret {P : Program} {f : FuncId} {args : Array Value} {w : World} {x : Add} {v : Value} (h : Calls P f args (ext w x) fun e w' => e = .returned v ∧ w' = ext w x) :
  Calls P f args (ext w x) fun e w'' => e = .returned v ∧ ∃ x' : Add, w'' = ext w x' :=
 h.mono fun _ _ ⟨he, hE⟩ => ⟨he, x, hE⟩

set_option maxRecDepth 100000 in
set_option maxHeartbeats 8000000 in
theorem meas_levels (b : Nat) (pl pr_ : Value) (hl el hr er : Int) (w : World) (hb : b < w.heap.size) (c3 : w.cell? ⟨b, 3, none⟩ = some pl) (c4 : w.cell? ⟨b, 4, none⟩ = some pr_) (kl : LvI w pl hl el) (kr : LvI w pr_ hr er) :
  Calls Tryz.prog 149 #[.func (.func 125) #[] #[], ptI b] w fun en w' => en = .returned (.int .i64 (max hl hr)) ∧ Ext w w' := by
 have HL := Lib.hid fun W (e : Ext w W) => levels_any pl hl el W (kl.ext e)
 have HR := Lib.hid fun W (e : Ext w W) => levels_any pr_ hr er W (kr.ext e)
 clear kl kr
 unfold ptI
 go_enter Tryz.func149, Tryz.ntmps149
 go_wp2_with fail
 refine wp_region_ext (by kernel_rfl) (by kernel_rfl) ?_
 repeat (first | go_big_quiet_step ((go_at_call 125; first | with_reducible exact cret (HL.out _ (ex_)) | with_reducible exact cret (HR.out _ (ex_)))) | quiet_step ((go_at_call 125; first | with_reducible exact cret (HL.out _ (ex_)) | with_reducible exact cret (HR.out _ (ex_)))))
 refine wpQuiet_nil ?_
 intro _ hw'
 obtain ⟨xq, hw''⟩ := hw'
 subst hw''
 all_goals go_wp2
 all_goals go_ret
 all_goals first | exact ⟨by rw [Int.max_eq_right (by omega)]; rfl, ex_⟩ | exact ⟨by rw [Int.max_eq_left (by omega)]; rfl, ex_⟩

set_option maxRecDepth 100000 in
set_option maxHeartbeats 8000000 in
theorem meas_last (b : Nat) (pl pr_ : Value) (hl el hr er : Int) (w : World) (hb : b < w.heap.size) (c3 : w.cell? ⟨b, 3, none⟩ = some pl) (c4 : w.cell? ⟨b, 4, none⟩ = some pr_) (kl : LvI w pl hl el) (kr : LvI w pr_ hr er) :
  Calls Tryz.prog 149 #[.func (.func 150) #[] #[], ptI b] w fun en w' => en = .returned (.int .i64 (max el er)) ∧ Ext w w' := by
 have HL := Lib.hid fun W (e : Ext w W) => last_any pl hl el W (kl.ext e)
 have HR := Lib.hid fun W (e : Ext w W) => last_any pr_ hr er W (kr.ext e)
 clear kl kr
 unfold ptI
 go_enter Tryz.func149, Tryz.ntmps149
 go_wp2_with fail
 refine wp_region_ext (by kernel_rfl) (by kernel_rfl) ?_
 repeat (first | go_big_quiet_step ((go_at_call 150; first | with_reducible exact cret (HL.out _ (ex_)) | with_reducible exact cret (HR.out _ (ex_)))) | quiet_step ((go_at_call 150; first | with_reducible exact cret (HL.out _ (ex_)) | with_reducible exact cret (HR.out _ (ex_)))))
 refine wpQuiet_nil ?_
 intro _ hw'
 obtain ⟨xq, hw''⟩ := hw'
 subst hw''
 all_goals go_wp2
 all_goals go_ret
 all_goals first | exact ⟨by rw [Int.max_eq_right (by omega)]; rfl, ex_⟩ | exact ⟨by rw [Int.max_eq_left (by omega)]; rfl, ex_⟩

abbrev itg (x : It) : Value := .agg #[.int .i64 x.1.1, .int .i64 x.1.2, .int .i64 x.2]
set_option maxRecDepth 100000 in
set_option maxHeartbeats 8000000 in
theorem psign_any (a b : Int) (w : World) : Calls Tryz.prog 135 #[.int .i64 a, .int .i64 b] w fun e w' => e = .returned (.int .i64 (cmpI a b)) ∧ Ext w w' := by
 unfold cmpI
 go_enter Tryz.func135, Tryz.ntmps135
 go_wp2
 all_goals go_ret
 all_goals refine ⟨?_, ex_⟩
 all_goals first | rfl | simp_all | (simp_all; omega)
def pcC (p q : Int × Int) : Int := if p.1 ≠ q.1 then cmpI p.1 q.1 else cmpI p.2 q.2
set_option maxRecDepth 100000 in
set_option maxHeartbeats 8000000 in
theorem pcomp_any (p q : Int × Int) (w : World) : Calls Tryz.prog 96 #[.agg #[.int .i64 p.1, .int .i64 p.2], .agg #[.int .i64 q.1, .int .i64 q.2]] w fun e w' => e = .returned (.int .i64 (pcC p q)) ∧ Ext w w' := by
 have H1 := Lib.hid fun W => psign_any p.1 q.1 W
 have H2 := Lib.hid fun W => psign_any p.2 q.2 W
 by_cases h : p.1 = q.1
 ·
  have hb : (p.1 != q.1) = false := by simp [h]
  have HZ : Hid (pcC p q = cmpI p.2 q.2) := Lib.hid (by simp [pcC, h])
  clear h H1
  generalize pcC p q = z at HZ ⊢
  generalize cmpI p.2 q.2 = y at H2 HZ
  go_enter Tryz.func96, Tryz.ntmps96
  go_wp2_with fail
  refine (H2.out _).mono ?_
  rintro e w1 ⟨rfl, hb1⟩
  obtain ⟨x1, rfl⟩ := hb1.get
  clear hb1
  go_wp2
  go_ret
  exact ⟨by rw [HZ.out]; rfl, ex_⟩
 ·
  have hb : (p.1 != q.1) = true := by simp [h]
  have HZ : Hid (pcC p q = cmpI p.1 q.1) := Lib.hid (by simp [pcC, h])
  clear h H2
  generalize pcC p q = z at HZ ⊢
  generalize cmpI p.1 q.1 = y at H1 HZ
  go_enter Tryz.func96, Tryz.ntmps96
  go_wp2_with fail
  refine (H1.out _).mono ?_
  rintro e w1 ⟨rfl, hb1⟩
  obtain ⟨x1, rfl⟩ := hb1.get
  clear hb1
  go_wp2
  go_ret
  exact ⟨by rw [HZ.out]; rfl, ex_⟩

set_option maxRecDepth 100000 in
set_option maxHeartbeats 8000000 in
theorem ncomp_any (b : Nat) (x y : It) (L R : Value) (h e : Int) (w : World) (k : NdI w b x L R h e) :
  Calls Tryz.prog 92 #[ptI b, itg y] w fun en w' => en = .returned (.int .i64 (itC x y)) ∧ Ext w w' := by
 obtain ⟨hlt, c0, c1, c2, -, -, -, -, -, -, -, -⟩ := k.f
 have HP := Lib.hid fun W => pcomp_any x.1 y.1 W
 obtain ⟨z, hz⟩ : ∃ z, pcC x.1 y.1 = z := ⟨_, rfl⟩
 have HZ : Hid (itC x y = if z ≠ 0 then z else cmpI x.2 y.2) := Lib.hid (by
  rw [← hz]
  unfold itC pcC cmpI
  repeat' split
  all_goals first | rfl | omega)
 rw [hz] at HP
 clear hz k
 unfold ptI
 generalize itC x y = v at HZ ⊢
 by_cases h0 : z = 0
 ·
  subst h0
  rcases Int.lt_trichotomy x.2 y.2 with h | h | h
  ·
   have HV : Hid (v = -1) := Lib.hid (by rw [HZ.out]; simp [cmpI, h])
   clear HZ
   go_enter Tryz.func92, Tryz.ntmps92
   go_wp2_with fail
   refine wp_region_ext (by kernel_rfl) (by kernel_rfl) ?_
   repeat (first | go_big_quiet_step ((go_at_call 96; exact Calls.ext_of (HP.out _))) | quiet_step ((go_at_call 96; exact Calls.ext_of (HP.out _))))
   refine wpQuiet_nil ?_
   intro _ hw'
   obtain ⟨xq, hw''⟩ := hw'
   subst hw''
   go_wp2_with fail
   refine wp_region_ext (by kernel_rfl) (by kernel_rfl) ?_
   repeat (first | go_big_quiet_step (fail) | quiet_step (fail))
   refine wpQuiet_nil ?_
   intro _ hw'
   obtain ⟨xq, hw''⟩ := hw'
   subst hw''
   go_wp2
   go_ret
   exact ⟨by rw [HV.out]; rfl, ex_⟩
  ·
   have HV : Hid (v = 0) := Lib.hid (by rw [HZ.out]; simp [cmpI, h])
   have q1 : ¬ (x.2 < y.2) := by omega
   have q2 : ¬ (y.2 < x.2) := by omega
   clear HZ h
   go_enter Tryz.func92, Tryz.ntmps92
   go_wp2_with fail
   refine wp_region_ext (by kernel_rfl) (by kernel_rfl) ?_
   repeat (first | go_big_quiet_step ((go_at_call 96; exact Calls.ext_of (HP.out _))) | quiet_step ((go_at_call 96; exact Calls.ext_of (HP.out _))))
   refine wpQuiet_nil ?_
   intro _ hw'
   obtain ⟨xq, hw''⟩ := hw'
   subst hw''
   go_wp2_with fail
   refine wp_region_ext (by kernel_rfl) (by kernel_rfl) ?_
   repeat (first | go_big_quiet_step (fail) | quiet_step (fail))
   refine wpQuiet_nil ?_
   intro _ hw'
   obtain ⟨xq, hw''⟩ := hw'
   subst hw''
   go_wp2_with fail
   refine wp_region_ext (by kernel_rfl) (by kernel_rfl) ?_
   repeat (first | go_big_quiet_step (fail) | quiet_step (fail))
   refine wpQuiet_nil ?_
   intro _ hw'
   obtain ⟨xq, hw''⟩ := hw'
   subst hw''
   go_wp2
   go_ret
   exact ⟨by rw [HV.out]; rfl, ex_⟩
  ·
   have HV : Hid (v = 1) := Lib.hid (by rw [HZ.out]; simp only [cmpI]; rw [if_neg (by omega), if_neg (by omega), if_pos h])
   have q1 : ¬ (x.2 < y.2) := by omega
   clear HZ
   go_enter Tryz.func92, Tryz.ntmps92
   go_wp2_with fail
   refine wp_region_ext (by kernel_rfl) (by kernel_rfl) ?_
   repeat (first | go_big_quiet_step ((go_at_call 96; exact Calls.ext_of (HP.out _))) | quiet_step ((go_at_call 96; exact Calls.ext_of (HP.out _))))
   refine wpQuiet_nil ?_
   intro _ hw'
   obtain ⟨xq, hw''⟩ := hw'
   subst hw''
   go_wp2_with fail
   refine wp_region_ext (by kernel_rfl) (by kernel_rfl) ?_
   repeat (first | go_big_quiet_step (fail) | quiet_step (fail))
   refine wpQuiet_nil ?_
   intro _ hw'
   obtain ⟨xq, hw''⟩ := hw'
   subst hw''
   go_wp2_with fail
   refine wp_region_ext (by kernel_rfl) (by kernel_rfl) ?_
   repeat (first | go_big_quiet_step (fail) | quiet_step (fail))
   refine wpQuiet_nil ?_
   intro _ hw'
   obtain ⟨xq, hw''⟩ := hw'
   subst hw''
   go_wp2
   go_ret
   exact ⟨by rw [HV.out]; rfl, ex_⟩
 ·
  have hb : (z != 0) = true := by simp [h0]
  have HV : Hid (v = z) := Lib.hid (by rw [HZ.out, if_pos h0])
  clear HZ h0
  go_enter Tryz.func92, Tryz.ntmps92
  go_wp2_with fail
  refine wp_region_ext (by kernel_rfl) (by kernel_rfl) ?_
  repeat (first | go_big_quiet_step ((go_at_call 96; exact Calls.ext_of (HP.out _))) | quiet_step ((go_at_call 96; exact Calls.ext_of (HP.out _))))
  refine wpQuiet_nil ?_
  intro _ hw'
  obtain ⟨xq, hw''⟩ := hw'
  subst hw''
  go_wp2
  go_ret
  exact ⟨by rw [HV.out]; rfl, ex_⟩

end Go.Proofs.YtdiaecgpjgdkdaaGreat
