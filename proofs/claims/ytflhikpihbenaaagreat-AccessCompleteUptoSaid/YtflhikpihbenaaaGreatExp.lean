/- Expressions in memory, and the conditions among the conjuncts of an expression (package predicate). -/
import Derived.Test.YtflhikpihbenaaaGreatVal
set_option linter.unusedSimpArgs false
set_option linter.unusedVariables false
namespace Go.Proofs.YtflhikpihbenaaaGreat
open Go.RowKit

inductive Ex where
  | mk (op i : Int) (v : Va) (nm : ByteArray) (args : List Ex)
def Ex.op : Ex → Int | .mk o _ _ _ _ => o
def Ex.i : Ex → Int | .mk _ i _ _ _ => i
def Ex.v : Ex → Va | .mk _ _ v _ _ => v
def Ex.nm : Ex → ByteArray | .mk _ _ _ n _ => n
def Ex.args : Ex → List Ex | .mk _ _ _ _ a => a

/-- the seven cells of an expression whose arguments are the slice (A, n, c) -/
def exc (o i : Int) (v : Va) (nm : ByteArray) (A : Option Addr) (n c : Nat) : List Value := [.int .i64 o, .int .i64 i, .int .i64 v.k, .int .i64 v.i, .string v.t, .string nm, .slice A n c]
abbrev exag (o i : Int) (v : Va) (nm : ByteArray) (A : Option Addr) (n c : Nat) : Value := .agg #[.int .i64 o, .int .i64 i, .int .i64 v.k, .int .i64 v.i, .string v.t, .string nm, .slice A n c]

mutual
/-- the cells cs are the expression -/
def RE (w : World) : Ex → List Value → Prop
  | .mk o i v nm args, cs => ∃ A c css, cs = exc o i v nm A args.length c ∧ v.t.size ≤ 9223372036854775807 ∧ nm.size ≤ 9223372036854775807 ∧ args.length ≤ 9223372036854775807 ∧ args.length ≤ c ∧ Rd w 7 A args.length (List.flatten css) ∧ REs w args css
def REs (w : World) : List Ex → List (List Value) → Prop
  | [], css => css = []
  | e :: es, css => ∃ cs css', css = cs :: css' ∧ RE w e cs ∧ REs w es css'
end

mutual
theorem RE.ext {w w' : World} (h : Ext w w') : ∀ {e : Ex} {cs : List Value}, RE w e cs → RE w' e cs
  | .mk o i v nm args, cs, hr => by
    rw [RE] at hr ⊢
    obtain ⟨A, c, css, h1, h2, h3, h4, h5, h6, h7⟩ := hr
    exact ⟨A, c, css, h1, h2, h3, h4, h5, h6.ext h, REs.ext h h7⟩
theorem REs.ext {w w' : World} (h : Ext w w') : ∀ {es : List Ex} {css : List (List Value)}, REs w es css → REs w' es css
  | [], css, hr => by rw [REs] at hr ⊢; exact hr
  | e :: es, css, hr => by
    rw [REs] at hr ⊢
    obtain ⟨cs, css', h1, h2, h3⟩ := hr
    exact ⟨cs, css', h1, RE.ext h h2, REs.ext h h3⟩
end

theorem RE.len {w : World} {e : Ex} {cs : List Value} (h : RE w e cs) : cs.length = 7 := by
  cases e
  rw [RE] at h
  obtain ⟨A, c, css, rfl, _⟩ := h
  rfl
theorem REs.get {w : World} : ∀ {es : List Ex} {css : List (List Value)}, REs w es css → css.length = es.length ∧ ∀ k (hk : k < es.length), ∃ cs, css[k]? = some cs ∧ RE w es[k] cs ∧ ∀ j, j < 7 → css.flatten[k * 7 + j]? = cs[j]?
  | [], css, hr => by rw [REs] at hr; subst hr; exact ⟨rfl, fun k hk => by simp at hk⟩
  | e :: es, css, hr => by
    rw [REs] at hr
    obtain ⟨cs, css', rfl, h2, h3⟩ := hr
    have h4 := REs.get h3
    have hl := h2.len
    refine ⟨by simp [h4.1], fun k hk => ?_⟩
    cases k with
    | zero => exact ⟨cs, rfl, h2, fun j hj => by simp [List.getElem?_append_left (show j < cs.length by omega)]⟩
    | succ k =>
      obtain ⟨cs', a, b, c⟩ := h4.2 k (by simpa using hk)
      refine ⟨cs', by simpa using a, b, fun j hj => ?_⟩
      rw [← c j hj, List.flatten_cons, List.getElem?_append_right (by omega)]
      congr 1
      omega

/-- the k-th argument: where its cells lie, and what they are -/
theorem RE.arg {w : World} {A : Option Addr} {args : List Ex} {css : List (List Value)} (hR : Rd w 7 A args.length css.flatten) (hs : REs w args css) {k : Nat} (hk : k < args.length) :
    ∃ b o, A = some ⟨b, o, none⟩ ∧ b < w.heap.size ∧ ∃ A' c' css', w.cell? ⟨b, o + k * 7, none⟩ = some (.int .i64 args[k].op) ∧ w.cell? ⟨b, o + k * 7 + 1, none⟩ = some (.int .i64 args[k].i) ∧ w.cell? ⟨b, o + k * 7 + 2, none⟩ = some (.int .i64 args[k].v.k) ∧
      w.cell? ⟨b, o + k * 7 + 3, none⟩ = some (.int .i64 args[k].v.i) ∧ w.cell? ⟨b, o + k * 7 + 4, none⟩ = some (.string args[k].v.t) ∧ w.cell? ⟨b, o + k * 7 + 5, none⟩ = some (.string args[k].nm) ∧ w.cell? ⟨b, o + k * 7 + 6, none⟩ = some (.slice A' args[k].args.length c') ∧
      args[k].v.t.size ≤ 9223372036854775807 ∧ args[k].nm.size ≤ 9223372036854775807 ∧ args[k].args.length ≤ 9223372036854775807 ∧ args[k].args.length ≤ c' ∧ Rd w 7 A' args[k].args.length (List.flatten css') ∧ REs w args[k].args css' := by
  obtain ⟨b, o, hA, hb, hc⟩ := hR.2 (by omega)
  obtain ⟨hl, hg⟩ := REs.get hs
  obtain ⟨cs, h1, h2, h3⟩ := hg k hk
  refine ⟨b, o, hA, hb, ?_⟩
  generalize args[k] = e at h2
  obtain ⟨o', i, v, nm, ar⟩ := e
  rw [RE] at h2
  obtain ⟨A', c', css', rfl, a1, a2, a3, a4, a5, a6⟩ := h2
  refine ⟨A', c', css', hc _ _ (h3 0 (by decide)), ?_, ?_, ?_, ?_, ?_, ?_, a1, a2, a3, a4, a5, a6⟩
  · have := hc _ _ (h3 1 (by decide)); rwa [← Nat.add_assoc] at this
  · have := hc _ _ (h3 2 (by decide)); rwa [← Nat.add_assoc] at this
  · have := hc _ _ (h3 3 (by decide)); rwa [← Nat.add_assoc] at this
  · have := hc _ _ (h3 4 (by decide)); rwa [← Nat.add_assoc] at this
  · have := hc _ _ (h3 5 (by decide)); rwa [← Nat.add_assoc] at this
  · have := hc _ _ (h3 6 (by decide)); rwa [← Nat.add_assoc] at this

def mirF (op : Int) : Int := if op = 9 then 11 else if op = 11 then 9 else if op = 10 then 12 else if op = 12 then 10 else op

set_option maxHeartbeats 800000 in
theorem mirrored_any (op : Int) (w : World) : Calls Tryz.prog 77 #[.int .i64 op] w fun e w' => e = .returned (.int .i64 (mirF op)) ∧ w = w' := by
  go_enter Tryz.func77, Tryz.ntmps77
  go_wp2
  all_goals go_ret
  all_goals refine ⟨?_, rfl⟩
  all_goals simp_all [mirF]

/-- a condition: operator, column, value -/
structure Cd where
  op : Int
  col : Int
  v : Va
deriving DecidableEq
def isCmp (op : Int) : Bool := op == 7 || op == 9 || op == 10 || op == 11 || op == 12
/-- the condition that a comparison of column a with the constant b states -/
def condG (a b : Ex) (op : Int) : Option Cd := if a.op = 2 ∧ b.op = 1 ∧ b.v.k ≠ 0 ∧ vvB b.v = true then some ⟨op, a.i, b.v⟩ else none
def condF (e : Ex) : Option Cd :=
  if isCmp e.op = false then none else
  match e.args with
  | [a, b] => if a.op = 1 then condG b a (mirF e.op) else condG a b e.op
  | _ => none
end Go.Proofs.YtflhikpihbenaaaGreat
