/- The contracts of predicate.condition for every expression, of the closure in Conditions, of each, and of Conditions. -/
import Derived.Test.YtflhikpihbenaaaGreatCnd
set_option linter.unusedSimpArgs false
set_option linter.unusedVariables false
namespace Go.Proofs.YtflhikpihbenaaaGreat
open Go.RowKit

theorem condF_no {o i : Int} {v : Va} {nm : ByteArray} {args : List Ex} (h : isCmp o = false) : condF (.mk o i v nm args) = none := by
  have e : condF (.mk o i v nm args) = if isCmp o = false then none else _ := rfl
  rw [e, if_pos h]
theorem condF_len {o i : Int} {v : Va} {nm : ByteArray} {args : List Ex} (h : args.length ≠ 2) : condF (.mk o i v nm args) = none := by
  unfold condF
  split
  · rfl
  · match args, h with
    | [], _ => rfl
    | [_], _ => rfl
    | [_, _], h => exact absurd rfl h
    | _ :: _ :: _ :: _, _ => rfl

set_option maxHeartbeats 1600000 in
theorem condition_any (o i : Int) (v : Va) (nm : ByteArray) (A : Option Addr) (args : List Ex) (c : Nat) (css : List (List Value)) (w : World) (hR : Rd w 7 A args.length css.flatten) (hs : REs w args css) (hl : args.length ≤ 9223372036854775807) :
    Calls Tryz.prog 70 #[exag o i v nm A args.length c] w (CPost w (condF (.mk o i v nm args))) := by
  rcases hcmp : isCmp o with _ | _
  · rw [condF_no hcmp]
    simp only [isCmp, Bool.or_eq_false_iff] at hcmp
    obtain ⟨⟨⟨⟨h7, h9⟩, h10⟩, h11⟩, h12⟩ := hcmp
    go_enter Tryz.func70, Tryz.ntmps70
    go_wp2
    refine bodyPost_ret (v := .tuple #[cdag cdz, .bool false]) ?_ rfl ⟨rfl, by repeat (first | exact Ext.refl' _ | assumption | apply Ext.ex' | apply Ext.al | apply Ext.drN | apply Ext.dr)⟩
    simp [results, Tryz.results70, go_sem, ↓IntWalk.iteOmega, cdz]
  · by_cases hl2 : args.length = 2
    · match args, hl2 with
      | [a, b], _ => exact condition_two o i v nm A a b c css w hR hs hcmp
    · rw [condF_len hl2]
      have hlb : ((args.length : Int) != 2) = true := by simp; omega
      clear hl2
      have hsw : (o == 7) = true ∨ ((o == 7) = false ∧ (o == 9) = true) ∨ ((o == 7) = false ∧ (o == 9) = false ∧ (o == 10) = true) ∨ ((o == 7) = false ∧ (o == 9) = false ∧ (o == 10) = false ∧ (o == 11) = true) ∨ ((o == 7) = false ∧ (o == 9) = false ∧ (o == 10) = false ∧ (o == 11) = false ∧ (o == 12) = true) := by
        simp only [isCmp, Bool.or_eq_true] at hcmp; revert hcmp
        cases o == 7 <;> cases o == 9 <;> cases o == 10 <;> cases o == 11 <;> cases o == 12 <;> simp
      clear hcmp
      rcases hsw with h7 | ⟨h7, h9⟩ | ⟨h7, h9, h10⟩ | ⟨h7, h9, h10, h11⟩ | ⟨h7, h9, h10, h11, h12⟩
      all_goals
        go_enter Tryz.func70, Tryz.ntmps70
        go_wp2
        refine bodyPost_ret (v := .tuple #[cdag cdz, .bool false]) ?_ rfl ⟨rfl, by repeat (first | exact Ext.refl' _ | assumption | apply Ext.ex' | apply Ext.al | apply Ext.drN | apply Ext.dr)⟩
        simp [results, Tryz.results70, go_sem, ↓IntWalk.iteOmega, cdz]

/-- the cells of conditions -/
def cdc (l : List Cd) : List Value := l.flatMap fun c => [.int .i64 c.op, .int .i64 c.col, .int .i64 c.v.k, .int .i64 c.v.i, .string c.v.t]
theorem oneCell_cdc (l : List Cd) : ∀ u ∈ cdc l, u.oneCell' = true := by
  intro u hu
  simp only [cdc, List.mem_flatMap] at hu
  obtain ⟨c, _, hc⟩ := hu
  simp at hc
  rcases hc with rfl | rfl | rfl | rfl | rfl <;> rfl
theorem elCond : El Tryz.prog 92 96 (.agg #[.int .i64 0, .int .i64 0, .int .i64 0, .int .i64 0, .string ⟨#[]⟩]) 5 48 := ⟨Tryz.underlying92, info_parts (by kernel_rfl), rfl, by decide⟩

/-- what the closure and each leave: the captured row -/
def CdPost (w0 : World) (res : List Cd) (e : Ending) (w' : World) : Prop :=
  e = .returned (.tuple #[]) ∧ ∃ v' x', w' = ext (w0.alloc (.cells #[v'] 92)) x' ∧ Own (w0.alloc (.cells #[v'] 92)) x' 96 5 v' res.length (cdc res)

theorem CdPost.mk {w0 : World} {u : Value} {res : List Cd} {w' : World} (hE : Ext (w0.alloc (.cells #[u] 92)) w') (ho : w'.ownsRow (w0.alloc (.cells #[u] 92)).heap.size 96 5 u res.length (cdc res)) : CdPost w0 res (.returned (.tuple #[])) w' := by
  obtain ⟨x, rfl⟩ := hE.get
  exact ⟨rfl, u, x, rfl, ho⟩

set_option maxHeartbeats 1600000 in
theorem clos_any (B : Nat) (w0 : World) (hB : w0.heap.size = B) (x : Add) (u : Value) (acc : List Cd) (o i : Int) (v : Va) (nm : ByteArray) (A : Option Addr) (args : List Ex) (c : Nat) (css : List (List Value)) (hR : Rd w0 7 A args.length css.flatten) (hs : REs w0 args css) (hl : args.length ≤ 9223372036854775807)
    (hown : Own (w0.alloc (.cells #[u] 92)) x 96 5 u acc.length (cdc acc)) (hacc : acc.length ≤ 1048576) :
    Calls Tryz.prog 69 #[exag o i v nm A args.length c, .pointer (some ⟨B, 0, none⟩)] (ext (w0.alloc (.cells #[u] 92)) x) (CdPost w0 (acc ++ (condF (.mk o i v nm args)).toList)) := by
  subst hB
  have HC := Lib.hid (fun w h1 h2 => condition_any o i v nm A args c css w h1 h2 hl)
  have HMX : Hid (acc.length + 1 ≤ maxLen) := Lib.hid (by unfold maxLen; omega)
  have HBY : Hid ((acc.length + 1) * 48 ≤ 140737488355328) := Lib.hid (by omega)
  generalize condF (.mk o i v nm args) = r at HC ⊢
  obtain ⟨A1, c1, rfl, hd1, hd2⟩ := Own.form hown
  rcases r with _ | cd
  · go_enter Tryz.func69, Tryz.ntmps69
    go_wp2_with (go_at_call 70; (refine (HC.out _ (hR.ext (by repeat (first | exact Ext.refl' _ | assumption | apply Ext.ex' | apply Ext.al | apply Ext.drN | apply Ext.dr))) (REs.ext (by repeat (first | exact Ext.refl' _ | assumption | apply Ext.ex' | apply Ext.al | apply Ext.drN | apply Ext.dr)) hs)).mono ?_; rintro e w1 ⟨rfl, hb1⟩; obtain ⟨x1, rfl⟩ := hb1.get; clear hb1))
    go_end0
    refine CdPost.mk (u := .slice A1 acc.length c1) ?_ ?_
    · repeat (first | exact Ext.refl' _ | assumption | apply Ext.ex' | apply Ext.al | apply Ext.drN | apply Ext.dr)
    · rw [Option.toList_none, List.append_nil]
      repeat (first | exact hown | apply own_ext | apply World.ownsRow.alloc | apply World.ownsRow.drew)
  · go_enter Tryz.func69, Tryz.ntmps69
    go_wp2_with (first
      | (go_at_call 70; (refine (HC.out _ (hR.ext (by repeat (first | exact Ext.refl' _ | assumption | apply Ext.ex' | apply Ext.al | apply Ext.drN | apply Ext.dr))) (REs.ext (by repeat (first | exact Ext.refl' _ | assumption | apply Ext.ex' | apply Ext.al | apply Ext.drN | apply Ext.dr)) hs)).mono ?_; rintro e w1 ⟨rfl, hb1⟩; obtain ⟨x1, rfl⟩ := hb1.get; clear hb1))
      | (at_builtin; (refine wpList_app _ rfl (.tmp 11) (.tmp 13) rfl elCond (w0.alloc (.cells #[.slice A1 acc.length c1] 92)) (by repeat (first | exact Ext.refl' _ | assumption | apply Ext.ex' | apply Ext.al | apply Ext.drN | apply Ext.dr)) (.slice A1 acc.length c1) acc.length (cdc acc) rfl (by repeat (first | exact hown | apply own_ext | apply World.ownsRow.alloc | apply World.ownsRow.drew)) _ 1 1 (cdc [cd]) rfl (Rd.lit _ #[.int .i64 cd.op, .int .i64 cd.col, .int .i64 cd.v.k, .int .i64 cd.v.i, .string cd.v.t] _ 1 5 rfl (by simp [size_ext])) (oneCell_cdc [cd]) HMX.out HBY.out ?_; intro v' x' hown' hg; obtain ⟨A', c', rfl, he1, he2⟩ := Own.form hown'; have HO := Lib.hid hown'; clear hg hown')))
    go_end0
    refine ⟨rfl, _, x', rfl, ?_⟩
    have h := own_base (W' := w0.alloc (.cells #[.slice A' (acc.length + 1) c'] 92)) HO.out (by simp)
    simpa [cdc] using h

/-- a conjunction as each takes it -/
def isAnd (o i : Int) (v : Va) (nm : ByteArray) (n : Nat) : Bool := o == 5 && decide (2 ≤ n) && i == 0 && emB nm && (v.k == 0 && v.i == 0 && emB v.t)
mutual
def szE : Ex → Nat
  | .mk _ _ _ _ args => szs args + 1
def szs : List Ex → Nat
  | [] => 0
  | e :: es => szE e + szs es
end
theorem szs_get : ∀ (es : List Ex) (k : Nat) (h : k < es.length), szs es[k].args + 1 ≤ szs es
  | [], k, h => by simp at h
  | .mk o i v nm ar :: es, 0, _ => by simp [szs, szE, Ex.args]
  | e :: es, k + 1, h => by
    have := szs_get es k (by simpa using h)
    simp only [List.getElem_cons_succ, szs]
    omega
mutual
def conds : Ex → List Cd
  | .mk o i v nm args => if isAnd o i v nm args.length then condss args else (condF (.mk o i v nm args)).toList
def condss : List Ex → List Cd
  | [] => []
  | e :: es => conds e ++ condss es
end

theorem held_value : Tryz.prog.stoodInHeld 29 = false := by kernel_rfl
@[go_sem] theorem guard_value : Tryz.prog.eqGuardType Tryz.prog.depth 29 = false := by kernel_rfl
@[go_sem high] theorem neq_value (a b c d : Int) (s t : ByteArray) (w : World) : (binOp .neq 29 (.agg #[.int .i64 a, .int .i64 b, .string s]) (.agg #[.int .i64 c, .int .i64 d, .string t])).run Tryz.prog w = .ok (.bool (!(a == c && b == d && s.toList == t.toList))) w := by
  simp [go_sem, held_value, Tryz.underlying29]
  by_cases h1 : a = c <;> by_cases h2 : b = d <;> by_cases h3 : s.toList = t.toList <;> simp [h1, h2, h3]

end Go.Proofs.YtflhikpihbenaaaGreat
