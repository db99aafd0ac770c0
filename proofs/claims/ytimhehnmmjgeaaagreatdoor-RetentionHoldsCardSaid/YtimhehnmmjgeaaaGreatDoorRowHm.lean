/- RetentionHolds holds for every input: the law returns true and its arguments read as before; the two tables of package unicode/utf8 that the row lists are tied to the program's text (the card). No condition on the input. (This file: the row and what it rests on of its own.) -/
import Derived.Test.YtimhehnmmjgeaaaGreatDoorOwn
import Derived.ProofKit
import Derived.SizedLaws
import Derived.OpenShut
import Derived.Lib.SmallJoins
import Derived.Deep.Slices
import Derived.Deep.Fields
import Derived.ChangeSame
import Derived.ChangeMaps5
import Derived.Test.YtimhehnmmjgeaaaGreatDoorRtC
import Derived.Sort.Walk0
import Derived.Lib.SlTrimSet
import Derived.Test.YtimhehnmmjgeaaaGreatDoorShf
import Derived.Deep.LoopGhost
import Derived.Test.YtimhehnmmjgeaaaGreatDoorCfM
import Derived.Test.YtimhehnmmjgeaaaGreatDoorVcp
import Derived.Test.YtimhehnmmjgeaaaGreatDoorSrt
import Derived.Sort.KeysCollected
import Derived.Test.YtimhehnmmjgeaaaGreatDoorOw2
import Derived.Test.YtimhehnmmjgeaaaGreatDoorRtH
import Derived.Test.YtimhehnmmjgeaaaGreatDoorCards
import Derived.Test.YtimhehnmmjgeaaaGreatDoorTie
import Derived.Lay
import Derived.Deep.DeepHandedRow
set_option linter.unusedSimpArgs false
set_option linter.unusedVariables false
namespace Go.Proofs.YtimhehnmmjgeaaaGreatDoor
open Go.ChangeShapes Go.WideShapes Go.ChangeAt Go.RowKit Go.Joins Go.Deep

theorem Tryz.own : ownKnob Tryz.prog.godebug = none := by kernel_rfl
theorem Tryz.laidOut : laidOutB Tryz.prog = true := by kernel_rfl

section
variable {H : Type} {enc : TypeId × Value → H} {P : Program}

theorem trodAll_stays (hl : laidOutB P = true) {W W' : World} {sp : Nat → Bool} : ∀ (ts : List TypeId) (vs : List Value) (ds : List (DataW H)) (ps : List MemPlace), (∀ t ∈ ts, P.readableRec t = true ∧ t < P.types.size) →
    DataW.TrodAll enc P W 0 (fun _ => true) true ts vs ds ps → (∀ x ∈ ps, W.sameAt W' x) → (∀ x ∈ ps, sp x.block = true) → DataW.TrodAll enc P W' 0 sp true ts vs ds ps
  | [], vs, ds, ps, _, h, _, _ => by
    cases vs <;> cases ds <;> simp [DataW.TrodAll] at h ⊢
    exact h
  | t :: ts, vs, ds, ps, hr, h, hs, hsp => by
    obtain ⟨v, vs', d, ds', p, q, rfl, rfl, rfl, h1, h2⟩ := trodAll_cons h
    exact trodAll_cons_mk (WideElems.Trod_stays hl (hr t (by simp)).1 (hr t (by simp)).2 h1 (fun x hx => hs x (by simp [hx])) (fun x hx => hsp x (by simp [hx])))
      (trodAll_stays hl ts vs' ds' q (fun t ht => hr t (by simp [ht])) h2 (fun x hx => hs x (by simp [hx])) (fun x hx => hsp x (by simp [hx])))

/-- what a law's specification says -/
def LawSpec (s : ChangeSpec) (n : Nat) : Prop := s.vars = [] ∧ ∀ (H : Type) (ds : List (DataW H)), ds.length = n → s.fn H ds = { results := [.lit (.bool true)], args := ds }

theorem trodAll_len : ∀ {ts : List TypeId} {vs : List Value} {ds : List (DataW H)} {ps : List MemPlace} {W : World} {b : Nat} {sp : Nat → Bool} {hd : Bool}, DataW.TrodAll enc P W b sp hd ts vs ds ps → ds.length = ts.length
  | [], vs, ds, ps, _, _, _, _, h => by cases vs <;> cases ds <;> simp [DataW.TrodAll] at h ⊢
  | t :: ts, vs, ds, ps, _, _, _, _, h => by
    obtain ⟨v, vs', d, ds', p, q, rfl, rfl, rfl, h1, h2⟩ := trodAll_cons h
    simp [trodAll_len h2]

theorem law_post {fn : Func} {s : ChangeSpec} {tb : TypeId} (hl : laidOutB P = true) (hs : LawSpec s fn.params.size) (hp : ∀ t ∈ fn.params.toList, P.readableRec t = true ∧ t < P.types.size) (hb : P.underlying tb = some .bool) (hrt : fn.resultTypes = #[tb])
    {W W' : World} {args : Array Value} {ds gs : List (DataW H)} {before : List MemPlace} (hW : DataW.Whole enc P fn.params.toList s.vars false W args.toList ds gs before) (hE : Ext W W') :
    s.post enc P fn false true false false W args (.bool true) W' := by
  have hW' := hW
  have hlt : ∀ p ∈ before, p.block < W.heap.size := fun p hp => hW.lt p hp
  obtain ⟨p, q, hA, hV, rfl, hfz, hnd⟩ := hW
  rw [hs.1] at hV
  obtain ⟨rfl, rfl⟩ := trodVars_none hV
  have hlen : ds.length = fn.params.size := by have := trodAll_len hA; simpa using this
  have hfn := hs.2 H ds hlen
  refine ⟨ds, [], p ++ [], [], p, [], hW', ?_, ?_, ?_, World.keptBut_mono (fun x hx => ⟨hx, Or.inr (Or.inl (by simpa using hx))⟩) (Below.frame hE (· ∈ p ++ [])), fun h => by cases h⟩
  · rw [List.append_nil, hfn, hrt]
    exact trodAll_mk1 (shut_bool hb true)
  · rw [List.append_nil, hfn]
    exact trodAll_stays hl _ _ _ _ hp hA (fun x hx => Below.same hE (hlt x (by simp [hx]))) (fun x hx => by simpa using hlt x (by simp [hx]))
  · rw [List.append_nil, hfn, hs.1]
    rfl

end

/-- the int behind a cell's reading -/
theorem trod_i64 {H : Type} {enc : TypeId × Value → H} {P : Program} {w : World} {base : Nat} {sp : Nat → Bool} {hd : Bool} {n : Nat} {t : TypeId} {v : Value} {y : DataW H × List MemPlace} (ht : P.underlying t = some (.int .i64)) (h : DataW.trod enc P w base sp hd n t [v] = some y) :
    ∃ a : Int, v = .int .i64 a ∧ y = (.lit (.int .i64 a), []) ∧ (Lit.int .i64 a).wf = true := by
  obtain ⟨a, e0, rfl, wa⟩ := DataW.trod_int ht h
  simp at e0
  exact ⟨a, e0, rfl, wa⟩

end Go.Proofs.YtimhehnmmjgeaaaGreatDoor

namespace Go.Proofs.YtimhehnmmjgeaaaGreatDoor
open Go.ChangeShapes Go.WideShapes Go.ChangeAt Go.RowKit Go.Joins Go.Deep

/-- ints as cells -/
abbrev zc (zs : List Int) : List Value := zs.map (Value.int .i64)

section
variable {P : Program}

/-- whatever reads as type t are k ints -/
def IntCells (P : Program) (t k : Nat) : Prop := ∀ {H : Type} {enc : TypeId × Value → H} {w : World} {base : Nat} {sp : Nat → Bool} {hd : Bool} {n : Nat} {cs : List Value} {x : DataW H × List MemPlace},
  DataW.trod enc P w base sp hd n t cs = some x → ∃ zs : List Int, cs = zc zs ∧ zs.length = k

theorem IntCells.int {t : TypeId} (ht : P.underlying t = some (.int .i64)) : IntCells P t 1 := by
  intro H enc w base sp hd n cs x h
  obtain ⟨a, rfl, _, _⟩ := DataW.trod_int ht h
  exact ⟨[a], rfl, rfl⟩

theorem IntCells.two {t : TypeId} {f0 f1 : Field} {k0 k1 : Nat} (ht : P.underlying t = some (.struct #[f0, f1])) (h0 : IntCells P f0.type k0) (h1 : IntCells P f1.type k1) (o0 : f0.offset = 0) (o1 : f1.offset = k0)
    (c0 : P.cellsOf f0.type = k0) (c1 : P.cellsOf f1.type = k1) (hC : P.cellsOf t = k0 + k1) : IntCells P t (k0 + k1) := by
  intro H enc w base sp hd n cs x h
  obtain ⟨ys, n', hn', hy, hlen, hyl, hf⟩ := DataW.trod_struct ht h
  have a0 := hf 0 f0 rfl
  have a1 := hf 1 f1 rfl
  rw [o0, c0, List.drop_zero] at a0
  rw [o1, c1] at a1
  have hcs : cs.length = k0 + k1 := by rw [← hC]; exact hlen
  cases hy0 : ys[0]? with
  | none => have := List.getElem?_eq_none_iff.1 hy0; simp at hyl; omega
  | some y0 =>
    cases hy1 : ys[1]? with
    | none => have := List.getElem?_eq_none_iff.1 hy1; simp at hyl; omega
    | some y1 =>
      rw [hy0] at a0
      rw [hy1] at a1
      obtain ⟨z0, e0, l0⟩ := h0 a0
      obtain ⟨z1, e1, l1⟩ := h1 a1
      refine ⟨z0 ++ z1, ?_, by rw [List.length_append, l0, l1]⟩
      rw [zc, List.map_append, ← zc, ← zc, ← e0, ← e1]
      rw [List.take_of_length_le (l := cs.drop k0) (by simp; omega), List.take_append_drop]

theorem list_of {α : Type} {Q : Nat → α → Prop} : ∀ n : Nat, (∀ i, i < n → ∃ p, Q i p) → ∃ l : List α, l.length = n ∧ ∀ i (h : i < l.length), Q i l[i]
  | 0, _ => ⟨[], rfl, fun i h => by simp at h⟩
  | n + 1, h => by
    obtain ⟨l, hl, hq⟩ := list_of n (fun i hi => h i (by omega))
    obtain ⟨p, hp⟩ := h n (by omega)
    refine ⟨l ++ [p], by simp [hl], fun i hi => ?_⟩
    by_cases hin : i < l.length
    · rw [List.getElem_append_left hin]; exact hq i hin
    · have : i = n := by simp at hi; omega
      subst this
      rw [List.getElem_append_right (by omega)]
      simpa [hl] using hp

theorem flat_get : ∀ (ls : List (List Int)) (k : Nat), (∀ z ∈ ls, z.length = k) → ∀ i (hi : i < ls.length) (j : Nat), j < k → (zc ls.flatten)[i * k + j]? = (zc ls[i])[j]?
  | [], k, _, i, hi, j, _ => by simp at hi
  | z :: ls, k, h, 0, hi, j, hj => by
    have hz := h z (by simp)
    simp only [List.flatten_cons, List.map_append, Nat.zero_mul, Nat.zero_add, List.getElem_cons_zero]
    rw [List.getElem?_append_left (by simp [hz]; exact hj)]
  | z :: ls, k, h, i + 1, hi, j, hj => by
    have hz := h z (by simp)
    simp only [List.flatten_cons, List.map_append, List.getElem_cons_succ]
    rw [List.getElem?_append_right (by simp [hz, Nat.add_mul]; omega)]
    have := flat_get ls k (fun z hz => h z (by simp [hz])) i (by simpa using hi) j hj
    rw [← this]
    congr 1
    simp [hz, Nat.add_mul]
    omega

theorem flat_lenO : ∀ (ls : List (List Int)) (k : Nat), (∀ z ∈ ls, z.length = k) → ls.flatten.length = ls.length * k
  | [], k, _ => by simp
  | z :: ls, k, h => by
    have := flat_lenO ls k (fun z hz => h z (by simp [hz]))
    simp [h z (by simp), Nat.add_mul] at *
    omega

/-- a slice of such elements -/
theorem open_flat {t e k : Nat} (ht : P.underlying t = some (.slice e)) (hI : IntCells P e k) (hC : P.cellsOf e = k) (hk : 0 < k) {H : Type} {enc : TypeId × Value → H} {w : World} {v : Value} {d : DataW H} {p : List MemPlace}
    (h : DataW.Trod enc P w 0 (fun _ => true) true t v d p) {a0 : Option Addr} {l0 c0 : Nat} (hv : v = .slice a0 l0 c0) :
    ∃ (A : Option Addr) (c : Nat) (ls : List (List Int)), v = .slice A ls.length c ∧ ls.length ≤ c ∧ c ≤ maxLen ∧ (∀ z ∈ ls, z.length = k) ∧ Rd w k A ls.length (zc ls.flatten) ∧ (d = .nil ∧ ls = [] ∨ ∃ elems spare, d = .slice elems spare ∧ elems.length = ls.length) := by
  subst hv
  obtain ⟨fuel, hf⟩ := h
  have hf' : DataW.trod enc P w 0 (fun _ => true) true fuel t [.slice a0 l0 c0] = some (d, p) := hf
  rcases open_slice ht hf' with ⟨hcs, hx⟩ | ⟨a, len, cap, m, n, D, Pl, hcs, hb, hl, hm, hmm, hx, hi⟩
  · simp only [List.cons.injEq, Value.slice.injEq, and_true] at hcs
    obtain ⟨rfl, rfl, rfl⟩ := hcs
    simp only [Prod.mk.injEq] at hx
    exact ⟨none, 0, [], rfl, Nat.le_refl _, Nat.zero_le _, by simp, Rd.nil, .inl ⟨hx.1, rfl⟩⟩
  · simp only [List.cons.injEq, Value.slice.injEq, and_true] at hcs
    obtain ⟨rfl, rfl, rfl⟩ := hcs
    simp only [Prod.mk.injEq] at hx
    simp only [if_true] at hmm
    subst hmm
    have hq : ∀ i, i < l0 → ∃ z : List Int, z.length = k ∧ ∀ j, j < k → w.cell? (a.add (i * k + j)) = (zc z)[j]? := by
      intro i hil
      obtain ⟨cs', hc, ht'⟩ := hi i (by omega)
      obtain ⟨z, rfl, hz⟩ := hI ht'
      obtain ⟨_, _, hat⟩ := World.cells?_some hc
      rw [hC] at hat
      refine ⟨z, hz, fun j hj => ?_⟩
      rw [← Go.Deep.add_add]
      exact hat j hj
    obtain ⟨ls, hls, hql⟩ := list_of l0 hq
    subst hls
    have hall : ∀ z ∈ ls, z.length = k := by
      intro z hz
      obtain ⟨i, hi', rfl⟩ := List.getElem_of_mem hz
      exact (hql i hi').1
    refine ⟨some a, _, ls, rfl, hl, hm, hall, ⟨by rw [zc, List.length_map, flat_lenO ls k hall], fun hpos => ?_⟩, .inr ⟨_, _, hx.1, by simp⟩⟩
    have hlp : 0 < ls.length := by
      rcases Nat.eq_zero_or_pos ls.length with h0 | h0
      · rw [h0] at hpos; simp at hpos
      · exact h0
    have hz0 := (hql 0 hlp).1
    have h00 := (hql 0 hlp).2 0 hk
    rw [Nat.zero_mul, Nat.add_zero, List.getElem?_eq_getElem (by simp [hz0]; exact hk)] at h00
    have ha0 : a.add 0 = a := by simp [Addr.add]
    rw [ha0] at h00
    obtain ⟨b, o, s⟩ := a
    have hs : s = none := by
      cases s with
      | none => rfl
      | some s =>
        exfalso
        simp only [World.cell?] at h00
        split at h00 <;> simp at h00
    subst hs
    refine ⟨b, o, rfl, cell_lt h00, fun j u hu => ?_⟩
    have hj : j < ls.length * k := by
      have := (List.getElem?_eq_some_iff.1 hu).1
      rwa [zc, List.length_map, flat_lenO ls k hall] at this
    have hdm : j / k < ls.length := Nat.div_lt_of_lt_mul (by rw [Nat.mul_comm]; exact hj)
    have hjm : j / k * k + j % k = j := Nat.div_add_mod' j k
    have h1 := (hql (j / k) hdm).2 (j % k) (Nat.mod_lt _ hk)
    rw [hjm, add_none] at h1
    rw [h1, ← flat_get ls k hall (j / k) hdm (j % k) (Nat.mod_lt _ hk), hjm]
    exact hu

end

/-- lists of two ints as pairs -/
def pairs (ls : List (List Int)) : List (Int × Int) := ls.map fun z => (z.getD 0 0, z.getD 1 0)
theorem pairs_pc : ∀ (ls : List (List Int)), (∀ z ∈ ls, z.length = 2) → zc ls.flatten = pc (pairs ls)
  | [], _ => rfl
  | z :: ls, h => by
    have := pairs_pc ls (fun z hz => h z (by simp [hz]))
    match z, h z (by simp) with
    | [a, b], _ => simp [pc, pairs] at *; exact this
theorem pairs_len (ls : List (List Int)) : (pairs ls).length = ls.length := by simp [pairs]
def singles (ls : List (List Int)) : List Int := ls.map fun z => z.getD 0 0
theorem singles_ic : ∀ (ls : List (List Int)), (∀ z ∈ ls, z.length = 1) → zc ls.flatten = ic (singles ls)
  | [], _ => rfl
  | z :: ls, h => by
    have := singles_ic ls (fun z hz => h z (by simp [hz]))
    match z, h z (by simp) with
    | [a], _ => simp [ic, singles] at *; exact this
theorem singles_len (ls : List (List Int)) : (singles ls).length = ls.length := by simp [singles]

end Go.Proofs.YtimhehnmmjgeaaaGreatDoor

namespace Go.Proofs.YtimhehnmmjgeaaaGreatDoor
open Go.ChangeShapes Go.WideShapes Go.ChangeAt Go.RowKit Go.Joins Go.Deep

section
variable {P : Program}

/-- whatever reads as type t is the encoding of a thing whose parts can be read -/
def Opn (P : Program) (t k : Nat) {α : Type} (enc : α → List Value) (mem : World → α → Prop) : Prop :=
  (∀ a, (enc a).length = k) ∧ ∀ {H : Type} {en : TypeId × Value → H} {w : World} {n : Nat} {cs : List Value} {x : DataW H × List MemPlace},
    DataW.trod en P w 0 (fun _ => true) true n t cs = some x → ∃ a, cs = enc a ∧ mem w a

theorem Opn.int {t : TypeId} {k : IntKind} (ht : P.underlying t = some (.int k)) : Opn P t 1 (fun a : Int => [.int k a]) (fun _ a => (Lit.int k a).wf = true) := by
  refine ⟨fun _ => rfl, fun {H en w n cs x} h => ?_⟩
  obtain ⟨a, rfl, _, hw⟩ := DataW.trod_int ht h
  exact ⟨a, rfl, hw⟩
theorem Opn.bool {t : TypeId} (ht : P.underlying t = some .bool) : Opn P t 1 (fun a : Bool => [.bool a]) (fun _ _ => True) := by
  refine ⟨fun _ => rfl, fun {H en w n cs x} h => ?_⟩
  obtain ⟨a, rfl, _⟩ := DataW.trod_bool ht h
  exact ⟨a, rfl, trivial⟩
theorem Opn.str {t : TypeId} (ht : P.underlying t = some .string) : Opn P t 1 (fun a : ByteArray => [.string a]) (fun _ a => a.size ≤ maxLen) := by
  refine ⟨fun _ => rfl, fun {H en w n cs x} h => ?_⟩
  obtain ⟨a, rfl, _, hs⟩ := DataW.trod_string ht h
  exact ⟨a, rfl, hs⟩
/-- the same thing under another name -/
theorem Opn.as {t k : Nat} {α β : Type} {enc : α → List Value} {mem : World → α → Prop} {enc' : β → List Value} {mem' : World → β → Prop} (h : Opn P t k enc mem) (f : α → β) (he : ∀ a, enc a = enc' (f a)) (hl : ∀ b, (enc' b).length = k) (hm : ∀ w a, mem w a → mem' w (f a)) : Opn P t k enc' mem' := by
  refine ⟨hl, fun {H en w n cs x} hx => ?_⟩
  obtain ⟨a, rfl, ha⟩ := h.2 hx
  exact ⟨f a, he a, hm w a ha⟩

/-- fields from an offset on -/
def Flds (P : Program) (fs : List Field) (off k : Nat) {α : Type} (enc : α → List Value) (mem : World → α → Prop) : Prop :=
  (∀ a, (enc a).length = k) ∧ ∀ {H : Type} {en : TypeId × Value → H} {w : World} {n : Nat} {cs : List Value} (ys : List (DataW H × List MemPlace)), cs.length = off + k → ys.length = fs.length →
    (∀ (i : Nat) (f : Field), fs[i]? = some f → DataW.trod en P w 0 (fun _ => true) true n f.type ((cs.drop f.offset).take (P.cellsOf f.type)) = ys[i]?) → ∃ a, cs.drop off = enc a ∧ mem w a

theorem Flds.one {f : Field} {off k : Nat} {α : Type} {enc : α → List Value} {mem : World → α → Prop} (h : Opn P f.type k enc mem) (ho : f.offset = off) (hc : P.cellsOf f.type = k) : Flds P [f] off k enc mem := by
  refine ⟨h.1, fun {H en w n cs} ys hl hy hf => ?_⟩
  have h0 := hf 0 f rfl
  rw [ho, hc, List.take_of_length_le (by simp; omega)] at h0
  cases hy0 : ys[0]? with
  | none => have := List.getElem?_eq_none_iff.1 hy0; simp at hy; omega
  | some y =>
    rw [hy0] at h0
    exact h.2 h0
theorem Flds.cons {f : Field} {fs : List Field} {off k1 k2 : Nat} {α β : Type} {enc1 : α → List Value} {mem1 : World → α → Prop} {enc2 : β → List Value} {mem2 : World → β → Prop} (h : Opn P f.type k1 enc1 mem1) (ho : f.offset = off) (hc : P.cellsOf f.type = k1)
    (hr : Flds P fs (off + k1) k2 enc2 mem2) : Flds P (f :: fs) off (k1 + k2) (fun a : α × β => enc1 a.1 ++ enc2 a.2) (fun w a => mem1 w a.1 ∧ mem2 w a.2) := by
  refine ⟨fun a => by simp [h.1, hr.1], fun {H en w n cs} ys hl hy hf => ?_⟩
  have h0 := hf 0 f rfl
  rw [ho, hc] at h0
  match ys, hy with
  | y :: ys, hy =>
    obtain ⟨a, ea, ma⟩ := h.2 h0
    obtain ⟨b, eb, mb⟩ := hr.2 (H := H) (en := en) (w := w) (n := n) (cs := cs) ys (by omega) (by simpa using hy) (fun i f hi => by simpa using hf (i + 1) f (by simpa using hi))
    refine ⟨(a, b), ?_, ma, mb⟩
    show cs.drop off = enc1 a ++ enc2 b
    rw [← ea, ← eb, ← List.drop_drop, List.take_append_drop]
theorem Opn.struct {t k : Nat} {fs : Array Field} {α : Type} {enc : α → List Value} {mem : World → α → Prop} (ht : P.underlying t = some (.struct fs)) (hF : Flds P fs.toList 0 k enc mem) (hC : P.cellsOf t = k) : Opn P t k enc mem := by
  refine ⟨hF.1, fun {H en w n cs x} h => ?_⟩
  obtain ⟨ys, n', hn', hy, hlen, hyl, hf⟩ := DataW.trod_struct ht h
  obtain ⟨a, ea, ma⟩ := hF.2 (H := H) (en := en) (w := w) (n := n') (cs := cs) ys (by omega) (by simpa using hyl) (fun i f hi => hf i f (by simpa using hi))
  exact ⟨a, by simpa using ea, ma⟩

/-- a slice whose elements are known -/
structure Sl (α : Type) where
  A : Option Addr
  c : Nat
  l : List α
def encS {α : Type} (s : Sl α) : List Value := [.slice s.A s.l.length s.c]
abbrev slg {α : Type} (s : Sl α) : Value := .slice s.A s.l.length s.c
def memS (k : Nat) {α : Type} (enc : α → List Value) (mem : World → α → Prop) (w : World) (s : Sl α) : Prop :=
  s.l.length ≤ s.c ∧ s.c ≤ maxLen ∧ Rd w k s.A s.l.length (s.l.flatMap enc) ∧ ∀ a ∈ s.l, mem w a

theorem fm_len {α : Type} {enc : α → List Value} {k : Nat} (h : ∀ a, (enc a).length = k) : ∀ l : List α, (l.flatMap enc).length = l.length * k
  | [] => by simp
  | a :: l => by simp [h, fm_len h l, Nat.add_mul]; omega
theorem fm_get {α : Type} {enc : α → List Value} {k : Nat} (h : ∀ a, (enc a).length = k) : ∀ (l : List α) (i : Nat) (hi : i < l.length) (j : Nat), j < k → (l.flatMap enc)[i * k + j]? = (enc l[i])[j]?
  | [], i, hi, j, _ => by simp at hi
  | a :: l, 0, hi, j, hj => by
    simp only [List.flatMap_cons, Nat.zero_mul, Nat.zero_add, List.getElem_cons_zero]
    rw [List.getElem?_append_left (by rw [h]; exact hj)]
  | a :: l, i + 1, hi, j, hj => by
    simp only [List.flatMap_cons, List.getElem_cons_succ]
    rw [List.getElem?_append_right (by rw [h, Nat.add_mul]; omega), ← fm_get h l i (by simpa using hi) j hj]
    congr 1
    rw [h, Nat.add_mul]; omega

theorem Opn.slice {t e k : Nat} {α : Type} {enc : α → List Value} {mem : World → α → Prop} (ht : P.underlying t = some (.slice e)) (hI : Opn P e k enc mem) (hC : P.cellsOf e = k) (hk : 0 < k) : Opn P t 1 (encS (α := α)) (memS k enc mem) := by
  refine ⟨fun _ => rfl, fun {H en w n cs x} h => ?_⟩
  rcases open_slice ht h with ⟨hcs, hx⟩ | ⟨a, len, cap, m, n, D, Pl, hcs, hb, hl, hm, hmm, hx, hi⟩
  · exact ⟨⟨none, 0, []⟩, hcs, Nat.le_refl _, Nat.zero_le _, Rd.nil, by simp⟩
  · simp only [if_true] at hmm
    subst hmm
    have hq : ∀ i, i < len → ∃ z : α, mem w z ∧ ∀ j, j < k → w.cell? (a.add (i * k + j)) = (enc z)[j]? := by
      intro i hil
      obtain ⟨cs', hc, ht'⟩ := hi i (by omega)
      obtain ⟨z, rfl, hz⟩ := hI.2 ht'
      obtain ⟨_, _, hat⟩ := World.cells?_some hc
      rw [hC] at hat
      refine ⟨z, hz, fun j hj => ?_⟩
      rw [← Go.Deep.add_add]
      exact hat j hj
    obtain ⟨ls, hls, hql⟩ := list_of len hq
    subst hls
    refine ⟨⟨some a, m, ls⟩, hcs, hl, hm, ⟨fm_len hI.1 ls, fun hpos => ?_⟩, fun z hz => ?_⟩
    · have hlp : 0 < ls.length := by
        rcases Nat.eq_zero_or_pos ls.length with h0 | h0
        · simp only [h0, Nat.zero_mul] at hpos; omega
        · exact h0
      have h00 := (hql 0 hlp).2 0 hk
      rw [Nat.zero_mul, Nat.add_zero, List.getElem?_eq_getElem (by rw [hI.1]; exact hk)] at h00
      have ha0 : a.add 0 = a := by simp [Addr.add]
      rw [ha0] at h00
      obtain ⟨b, o, s⟩ := a
      have hs : s = none := by
        cases s with
        | none => rfl
        | some s =>
          exfalso
          simp only [World.cell?] at h00
          split at h00 <;> simp at h00
      subst hs
      refine ⟨b, o, rfl, cell_lt h00, fun j u hu => ?_⟩
      have hj : j < ls.length * k := by
        have := (List.getElem?_eq_some_iff.1 hu).1
        rwa [fm_len hI.1 ls] at this
      have hdm : j / k < ls.length := Nat.div_lt_of_lt_mul (by rw [Nat.mul_comm]; exact hj)
      have hjm : j / k * k + j % k = j := Nat.div_add_mod' j k
      have h1 := (hql (j / k) hdm).2 (j % k) (Nat.mod_lt _ hk)
      rw [hjm, add_none] at h1
      rw [h1, ← fm_get hI.1 ls (j / k) hdm (j % k) (Nat.mod_lt _ hk), hjm]
      exact hu
    · obtain ⟨i, hi', rfl⟩ := List.getElem_of_mem hz
      exact (hql i hi').1

/-- an argument of a struct's type -/
theorem Opn.agg {t k : Nat} {fs : Array Field} {α : Type} {enc : α → List Value} {mem : World → α → Prop} (hO : Opn P t k enc mem) (ht : P.underlying t = some (.struct fs)) {H : Type} {en : TypeId × Value → H} {w : World} {r : Reach} {b0 : Nat} {v : Value} {d : DataW H} {p : List MemPlace}
    (hv : Value.okWide P w r b0 t v) (h : DataW.Trod en P w 0 (fun _ => true) true t v d p) : ∃ a, v = .agg (enc a).toArray ∧ mem w a := by
  obtain ⟨cs, rfl, hsz⟩ := okWide_struct ht hv
  obtain ⟨fuel, hf⟩ := h
  obtain ⟨a, ea, ma⟩ := hO.2 hf
  refine ⟨a, ?_, ma⟩
  simp only [Value.cells] at ea
  rw [← ea]
/-- .. of a slice's type -/
theorem Opn.sl {t k : Nat} {α : Type} {enc : α → List Value} {mem : World → α → Prop} (hO : Opn P t 1 (encS (α := α)) (memS k enc mem)) {e : Nat} (ht : P.underlying t = some (.slice e)) {H : Type} {en : TypeId × Value → H} {w : World} {r : Reach} {b0 : Nat} {v : Value} {d : DataW H} {p : List MemPlace}
    (hv : Value.okWide P w r b0 t v) (h : DataW.Trod en P w 0 (fun _ => true) true t v d p) : ∃ s : Sl α, v = slg s ∧ memS k enc mem w s := by
  obtain ⟨a, len, cap, rfl⟩ := okWide_slice ht hv
  obtain ⟨fuel, hf⟩ := h
  obtain ⟨s, es, ms⟩ := hO.2 hf
  refine ⟨s, ?_, ms⟩
  simp only [Value.cells, encS] at es
  simpa using es
/-- .. a text -/
theorem Opn.st {t : Nat} (ht : P.underlying t = some .string) {H : Type} {en : TypeId × Value → H} {w : World} {r : Reach} {b0 : Nat} {v : Value} {d : DataW H} {p : List MemPlace}
    (hv : Value.okWide P w r b0 t v) (h : DataW.Trod en P w 0 (fun _ => true) true t v d p) : ∃ s : ByteArray, v = .string s ∧ s.size ≤ maxLen := by
  obtain ⟨s, hs, _, _, hl⟩ := Go.ChangeMaps.open_string ht hv h
  exact ⟨s, hs, hl⟩
end
end Go.Proofs.YtimhehnmmjgeaaaGreatDoor

namespace Go.Proofs.YtimhehnmmjgeaaaGreatDoor
open Go.RowKit

/-- a hold as a value -/
structure Hd where
  nm : ByteArray
  tb : ByteArray
  r : Rct
theorem ba_ext {a b : ByteArray} (h : a.data.toList = b.data.toList) : a = b := by
  obtain ⟨⟨x⟩⟩ := a
  obtain ⟨⟨y⟩⟩ := b
  simp only at h
  rw [h]
def Hd.key (h : Hd) : List UInt8 := h.nm.data.toList
theorem key_eq {a b : Hd} : a.key = b.key ↔ a.nm = b.nm := ⟨fun h => ba_ext h, fun h => by unfold Hd.key; rw [h]⟩
def ltK (a b : List UInt8) : Bool := decide (a < b)
theorem ltK_irr (a : List UInt8) : ltK a a = false := by unfold ltK; exact decide_eq_false (List.lt_irrefl a)
theorem ltK_trans {a b c : List UInt8} (h : ltK a b = true) (k : ltK b c = true) : ltK a c = true := by
  unfold ltK at *
  exact decide_eq_true (List.lt_trans (of_decide_eq_true h) (of_decide_eq_true k))
theorem ltK_asymm {a b : List UInt8} (h : ltK a b = true) : ltK b a = false := by
  rw [Bool.eq_false_iff]
  intro k
  have := ltK_trans h k
  rw [ltK_irr] at this
  cases this
theorem ltK_total {a b : List UInt8} (h : ltK a b = false) (hne : a ≠ b) : ltK b a = true := by
  unfold ltK at *
  have h1 : ¬ a < b := of_decide_eq_false h
  refine decide_eq_true ?_
  rcases List.le_iff_lt_or_eq.1 (List.not_lt.1 h1) with h2 | h2
  · exact h2
  · exact absurd h2.symm hne
def SrtH (l : List Hd) : Prop := l.Pairwise fun a b => ltK a.key b.key = true
theorem SrtH.nodup {l : List Hd} (h : SrtH l) : (l.map Hd.key).Nodup := by
  refine List.pairwise_map.2 (h.imp fun {a b} hab e => ?_)
  rw [e, ltK_irr] at hab
  cases hab
theorem srtH_same : ∀ {a b : List Hd}, SrtH a → SrtH b → a.Perm b → a = b
  | [], b, _, _, p => (List.Perm.nil_eq p)
  | x :: a, [], _, _, p => absurd p.symm (by simp)
  | x :: a, y :: b, ha, hb, p => by
    obtain ⟨h1, h2⟩ := List.pairwise_cons.1 ha
    obtain ⟨k1, k2⟩ := List.pairwise_cons.1 hb
    have hxy : x = y := by
      rcases List.mem_cons.1 (p.mem_iff.1 (List.mem_cons_self)) with h | h
      · exact h
      · rcases List.mem_cons.1 (p.mem_iff.2 (List.mem_cons_self)) with k | k
        · exact k.symm
        · have e1 := k1 x h
          have e2 := h1 y k
          rw [ltK_asymm e1] at e2
          cases e2
    subst hxy
    rw [srtH_same h2 k2 (List.Perm.cons_inv p)]
/-- a new hold put in its place -/
def insH (l : List Hd) (h : Hd) : List Hd := l.takeWhile (fun x => ltK x.key h.key) ++ h :: l.dropWhile (fun x => ltK x.key h.key)
theorem insH_perm (l : List Hd) (h : Hd) : (insH l h).Perm (h :: l) := by
  unfold insH
  refine List.perm_middle.trans ?_
  rw [List.takeWhile_append_dropWhile]
theorem insH_srt : ∀ {l : List Hd} {h : Hd}, SrtH l → (∀ y ∈ l, y.nm ≠ h.nm) → SrtH (insH l h)
  | [], h, _, _ => by simp [insH, SrtH]
  | y :: l, h, hs, hn => by
    obtain ⟨h1, h2⟩ := List.pairwise_cons.1 hs
    cases e : ltK y.key h.key with
    | true =>
      have ih := insH_srt h2 (fun z hz => hn z (List.mem_cons_of_mem _ hz))
      have e2 : insH (y :: l) h = y :: insH l h := by simp [insH, List.takeWhile_cons, List.dropWhile_cons, e]
      rw [e2]
      refine List.pairwise_cons.2 ⟨fun z hz => ?_, ih⟩
      rcases List.mem_cons.1 ((insH_perm l h).mem_iff.1 hz) with rfl | hz
      · exact e
      · exact h1 z hz
    | false =>
      have e3 : ltK h.key y.key = true := ltK_total e (fun k => hn y (List.mem_cons_self) (key_eq.1 k))
      have e2 : insH (y :: l) h = h :: y :: l := by simp [insH, List.takeWhile_cons, List.dropWhile_cons, e]
      rw [e2]
      refine List.pairwise_cons.2 ⟨fun z hz => ?_, hs⟩
      rcases List.mem_cons.1 hz with rfl | hz
      · exact e3
      · exact ltK_trans e3 (h1 z hz)
/-- holds with another name -/
def remH (l : List Hd) (s : ByteArray) : List Hd := l.filter fun x => !decide (x.nm = s)
theorem remH_srt {l : List Hd} (h : SrtH l) (s : ByteArray) : SrtH (remH l s) := List.Pairwise.filter _ h
theorem remH_at {l : List Hd} (h : (l.map Hd.key).Nodup) {k : Nat} (hk : k < l.length) : remH l l[k].nm = l.take k ++ l.drop (k + 1) := by
  have e : l = l.take k ++ l[k] :: l.drop (k + 1) := by rw [← List.drop_eq_getElem_cons hk, List.take_append_drop]
  have hne : ∀ j (hj : j < l.length), j ≠ k → l[j].nm ≠ l[k].nm := fun j hj hjk he => by
    have h1 : (l.map Hd.key)[j]'(by simpa using hj) = (l.map Hd.key)[k]'(by simpa using hk) := by simp [Hd.key, he]
    exact hjk ((List.getElem_inj h).1 h1)
  have h1 : (l.take k).filter (fun x => !decide (x.nm = l[k].nm)) = l.take k := List.filter_eq_self.2 fun x hx => by
    obtain ⟨j, hj, rfl⟩ := List.mem_iff_getElem.1 hx
    simp only [List.length_take] at hj
    rw [List.getElem_take]
    simpa using hne j (by omega) (by omega)
  have h2 : (l.drop (k + 1)).filter (fun x => !decide (x.nm = l[k].nm)) = l.drop (k + 1) := List.filter_eq_self.2 fun x hx => by
    obtain ⟨j, hj, rfl⟩ := List.mem_iff_getElem.1 hx
    simp only [List.length_drop] at hj
    rw [List.getElem_drop]
    simpa using hne (k + 1 + j) (by omega) (by omega)
  unfold remH
  generalize l[k] = y at *
  rw [show l.filter (fun x => !decide (x.nm = y.nm)) = (l.take k ++ y :: l.drop (k + 1)).filter (fun x => !decide (x.nm = y.nm)) from by rw [← e]]
  rw [List.filter_append, List.filter_cons, h1, h2]
  simp
def hasH (l : List Hd) (s : ByteArray) : Bool := l.any fun x => decide (x.nm = s)
theorem hasH_iff {l : List Hd} {s : ByteArray} : hasH l s = true ↔ ∃ x ∈ l, x.nm = s := by simp [hasH]
theorem hasH_no {l : List Hd} {s : ByteArray} (h : hasH l s = false) : ∀ x ∈ l, x.nm ≠ s := fun x hx e => by
  have : hasH l s = true := hasH_iff.2 ⟨x, hx, e⟩
  rw [h] at this; cases this
/-- a name's letters -/
def chB (b : UInt8) : Bool := b == 95 || (decide (97 ≤ b) && decide (b ≤ 122)) || (decide (48 ≤ b) && decide (b ≤ 57))
def digB (b : UInt8) : Bool := decide (48 ≤ b) && decide (b ≤ 57)
def fstB : List UInt8 → Bool
  | b :: _ => digB b
  | [] => false
def wordB (s : ByteArray) : Bool := decide (1 ≤ s.size) && decide (s.size ≤ 24) && !fstB s.data.toList && s.data.toList.all chB
def rightB (h : Hd) : Bool := wordB h.nm && wordB h.tb && rvB h.r
/-- the letters as the program lists them -/
def letL : List UInt8 := [97, 98, 99, 100, 101, 102, 103, 104, 105, 106, 107, 108, 109, 110, 111, 112, 113, 114, 115, 116, 117, 118, 119, 120, 121, 122, 48, 49, 50, 51, 52, 53, 54, 55, 56, 57, 95]
theorem let_ch (b : UInt8) : letL.contains b = chB b := by
  have h : ∀ n : Fin 256, letL.contains (UInt8.ofNat n.val) = chB (UInt8.ofNat n.val) := by decide +kernel
  have := h ⟨b.toNat, b.toNat_lt⟩
  simpa using this
theorem dw_nil {f : UInt8 → Bool} {l : List UInt8} : l.dropWhile f = [] ↔ ∀ b ∈ l, f b = true := by
  induction l with
  | nil => simp
  | cons x l ih =>
    rw [List.dropWhile_cons]
    split
    · rw [ih]; simp_all
    · rename_i hx
      constructor
      · intro h; cases h
      · intro h; exact absurd (h x (by simp)) hx
theorem trim_nil (l : List UInt8) : Lib.trimS l letL = [] ↔ l.all chB = true := by
  unfold Lib.trimS Lib.trimLeftS Lib.trimRightS
  rw [dw_nil, List.all_eq_true]
  constructor
  · intro h
    have h2 : l.reverse.dropWhile (fun x => letL.contains x) = [] := by
      cases hc : l.reverse.dropWhile (fun x => letL.contains x) with
      | nil => rfl
      | cons y t =>
        exfalso
        have h3 := h y (by rw [hc]; simp)
        have h4 : (l.reverse.dropWhile (fun x => letL.contains x)).head? = some y := by rw [hc]; rfl
        have h5 := List.head?_dropWhile_not (fun x => letL.contains x) l.reverse
        rw [h4] at h5
        simp only at h5
        rw [h3] at h5
        cases h5
    rw [dw_nil] at h2
    intro b hb
    rw [← let_ch]
    exact h2 b (by simpa using hb)
  · intro h b hb
    have h1 : b ∈ l := by
      have h2 := (List.dropWhile_sublist (l := l.reverse) (fun x => letL.contains x)).subset (List.mem_reverse.1 hb)
      simpa using h2
    rw [let_ch]; exact h b h1
/-- the program's step and the reference's -/
def rectsH (l : List Hd) (s : ByteArray) : List Rct := (l.filter fun x => decide (x.tb = s)).map Hd.r
def placeE (l : List Hd) (h : Hd) : Int := if rightB h then (if hasH l h.nm then 10 else if 32 ≤ l.length then 5 else 0) else 8
end Go.Proofs.YtimhehnmmjgeaaaGreatDoor

namespace Go.Proofs.YtimhehnmmjgeaaaGreatDoor
open Go.RowKit


/-- the cells of holds -/
def hdc (h : Hd) : List Value := [.string h.nm, .string h.tb, .int .i64 h.r.1.1, .int .i64 h.r.1.2, .int .i64 h.r.2.1, .int .i64 h.r.2.2]
def hdl (l : List Hd) : List Value := l.flatMap hdc
abbrev hag (h : Hd) : Value := .agg #[.string h.nm, .string h.tb, .int .i64 h.r.1.1, .int .i64 h.r.1.2, .int .i64 h.r.2.1, .int .i64 h.r.2.2]
theorem hdl_length (l : List Hd) : (hdl l).length = l.length * 6 := flatMap_len _ 6 (fun _ => rfl) l
theorem hdl_append (a b : List Hd) : hdl (a ++ b) = hdl a ++ hdl b := by simp [hdl]
theorem hdl_one (h : Hd) : hdl [h] = hdc h := by simp [hdl]
theorem oneCell_hdc (h : Hd) : ∀ u ∈ hdc h, u.oneCell' = true := by
  intro u hu; simp [hdc] at hu; rcases hu with rfl | rfl | rfl | rfl | rfl | rfl <;> rfl
theorem oneCell_hdl (l : List Hd) : ∀ u ∈ hdl l, u.oneCell' = true := by
  intro u hu; obtain ⟨h, _, hv⟩ := List.mem_flatMap.1 hu; exact oneCell_hdc h u hv
theorem elHd : El Tryz.prog 22 29 (.agg #[.string ⟨#[]⟩, .string ⟨#[]⟩, .int .i64 0, .int .i64 0, .int .i64 0, .int .i64 0]) 6 64 := ⟨Tryz.underlying22, info_parts (by kernel_rfl), rfl, by decide⟩
theorem Rd.hd {w : World} {A : Option Addr} {l : List Hd} {n : Nat} (h : Rd w 6 A n (hdl l)) (hn : l.length = n) {k : Nat} (hk : k < n) :
    ∃ p b o, l[k]? = some p ∧ A = some ⟨b, o, none⟩ ∧ b < w.heap.size ∧ w.cell? ⟨b, o + k * 6, none⟩ = some (.string p.nm) ∧ w.cell? ⟨b, o + k * 6 + 1, none⟩ = some (.string p.tb) ∧ w.cell? ⟨b, o + k * 6 + 2, none⟩ = some (.int .i64 p.r.1.1) ∧ w.cell? ⟨b, o + k * 6 + 3, none⟩ = some (.int .i64 p.r.1.2) ∧ w.cell? ⟨b, o + k * 6 + 4, none⟩ = some (.int .i64 p.r.2.1) ∧ w.cell? ⟨b, o + k * 6 + 5, none⟩ = some (.int .i64 p.r.2.2) := by
  have hk' : k < l.length := by omega
  obtain ⟨b, o, hA, hb, hc⟩ := h.2 (by omega)
  have f := fun j hj => flatMap_get hdc 6 (fun _ => rfl) l k j hk' hj
  refine ⟨l[k], b, o, List.getElem?_eq_getElem hk', hA, hb, ?_, ?_, ?_, ?_, ?_, ?_⟩
  · exact hc _ _ (f 0 (by omega))
  · have := hc _ _ (f 1 (by omega)); rwa [← Nat.add_assoc] at this
  · have := hc _ _ (f 2 (by omega)); rwa [← Nat.add_assoc] at this
  · have := hc _ _ (f 3 (by omega)); rwa [← Nat.add_assoc] at this
  · have := hc _ _ (f 4 (by omega)); rwa [← Nat.add_assoc] at this
  · have := hc _ _ (f 5 (by omega)); rwa [← Nat.add_assoc] at this
theorem ba_get (s : ByteArray) {k : Nat} (hk : k < s.size) : s.data.toList[k]? = some s[k] := by
  rw [Array.getElem?_toList, Array.getElem?_eq_getElem hk]; rfl
theorem ch_iff (b : UInt8) : chB b = decide (b.toNat = 95 ∨ (97 ≤ b.toNat ∧ b.toNat ≤ 122) ∨ (48 ≤ b.toNat ∧ b.toNat ≤ 57)) := by
  have h : ∀ n : Fin 256, chB (UInt8.ofNat n.val) = decide ((UInt8.ofNat n.val).toNat = 95 ∨ (97 ≤ (UInt8.ofNat n.val).toNat ∧ (UInt8.ofNat n.val).toNat ≤ 122) ∨ (48 ≤ (UInt8.ofNat n.val).toNat ∧ (UInt8.ofNat n.val).toNat ≤ 57)) := by decide +kernel
  have := h ⟨b.toNat, b.toNat_lt⟩
  simpa using this
theorem dig_iff (b : UInt8) : digB b = decide (48 ≤ b.toNat ∧ b.toNat ≤ 57) := by
  have h : ∀ n : Fin 256, digB (UInt8.ofNat n.val) = decide (48 ≤ (UInt8.ofNat n.val).toNat ∧ (UInt8.ofNat n.val).toNat ≤ 57) := by decide +kernel
  have := h ⟨b.toNat, b.toNat_lt⟩
  simpa using this
theorem word_0 {s : ByteArray} (h : s.size = 0) : wordB s = false := by unfold wordB; rw [h]; rfl
theorem word_long {s : ByteArray} (h : 24 < s.size) : wordB s = false := by
  unfold wordB; rw [decide_eq_false (show ¬ s.size ≤ 24 by omega)]; simp
theorem word_first {s : ByteArray} (h : 0 < s.size) : fstB s.data.toList = digB s[0] := by
  have := ba_get s h
  cases hc : s.data.toList with
  | nil => rw [hc] at this; cases this
  | cons b l => rw [hc] at this; simp at this; simp [fstB, this]
theorem word_dig {s : ByteArray} (h : 0 < s.size) (h2 : 48 ≤ s[0].toNat) (h3 : s[0].toNat ≤ 57) : wordB s = false := by
  unfold wordB; rw [word_first h, dig_iff, decide_eq_true (show 48 ≤ s[0].toNat ∧ s[0].toNat ≤ 57 from ⟨h2, h3⟩)]; simp
theorem word_bad {s : ByteArray} {k : Nat} (hk : k < s.size) (h : chB s[k] = false) : wordB s = false := by
  have h1 : s.data.toList.all chB = false := by
    rw [List.all_eq_false]
    exact ⟨s[k], List.mem_of_getElem? (ba_get s hk), by rw [h]; simp⟩
  unfold wordB; rw [h1]; simp
theorem word_rest {s : ByteArray} (h : 0 < s.size) (h24 : s.size ≤ 24) (hd : ¬ (48 ≤ s[0].toNat ∧ s[0].toNat ≤ 57)) : wordB s = s.data.toList.all chB := by
  unfold wordB; rw [word_first h, dig_iff, decide_eq_false hd, decide_eq_true (show 1 ≤ s.size by omega), decide_eq_true h24]; simp
theorem all_take {s : ByteArray} {k : Nat} (hk : k < s.size) (h : (s.data.toList.take k).all chB = true) (h2 : chB s[k] = true) : (s.data.toList.take (k + 1)).all chB = true := by
  have hg := ba_get s hk
  obtain ⟨a, b⟩ := List.getElem?_eq_some_iff.1 hg
  rw [List.take_succ_eq_append_getElem a, List.all_append, h, b]
  simp [h2]
theorem toList_nil {s : ByteArray} : s.toList = [] ↔ s.size = 0 := by
  rw [Lib.toList_data]
  constructor
  · intro h; have := congrArg List.length h; simpa using this
  · intro h; exact List.eq_nil_of_length_eq_zero (by simpa using h)


set_option maxRecDepth 100000 in
set_option maxHeartbeats 4000000 in
theorem rword_any (s : ByteArray) (w : World) (hs : s.size ≤ 9223372036854775807) :
    Calls Tryz.prog 28 #[.string s] w fun e w' => e = .returned (.bool (wordB s)) ∧ Ext w w' := by
  by_cases h0 : s.size = 0
  · have HE : Hid (wordB s = false) := Lib.hid (word_0 h0)
    have h0z : (s.size : Int) < 1 := by omega
    go_enter Tryz.func28, Tryz.ntmps28
    go_wp2
    go_ret
    exact ⟨by rw [HE.out]; rfl, by repeat (first | exact Ext.refl' _ | assumption | apply Ext.ex' | apply Ext.al | apply Ext.drN | apply Ext.dr)⟩
  have h0z : ¬ (s.size : Int) < 1 := by omega
  by_cases h24 : 24 < s.size
  · have HE : Hid (wordB s = false) := Lib.hid (word_long h24)
    have h24z : 24 < (s.size : Int) := by omega
    go_enter Tryz.func28, Tryz.ntmps28
    go_wp2
    go_ret
    exact ⟨by rw [HE.out]; rfl, by repeat (first | exact Ext.refl' _ | assumption | apply Ext.ex' | apply Ext.al | apply Ext.drN | apply Ext.dr)⟩
  have h24z : ¬ 24 < (s.size : Int) := by omega
  have hpos : 0 < s.size := by omega
  obtain ⟨b0, hb0⟩ : ∃ b : Nat, (s[0]'hpos).toNat = b := ⟨_, rfl⟩
  rcases (show (48 ≤ b0 ∧ b0 ≤ 57) ∨ b0 < 48 ∨ 57 < b0 from by omega) with ⟨g1, g2⟩ | g1 | g1
  · have HE : Hid (wordB s = false) := Lib.hid (word_dig hpos (by omega) (by omega))
    go_enter Tryz.func28, Tryz.ntmps28
    go_wp2
    go_ret
    exact ⟨by rw [HE.out]; rfl, by repeat (first | exact Ext.refl' _ | assumption | apply Ext.ex' | apply Ext.al | apply Ext.drN | apply Ext.dr)⟩
  · have HR : Hid (wordB s = s.data.toList.all chB) := Lib.hid (word_rest hpos (by omega) (by omega))
    have g2 := g1
    have q1 := g1
    go_enter Tryz.func28, Tryz.ntmps28
    go_wp2
    go_loop [3] (fun i => ∃ k : Nat, k ≤ s.size ∧ i = .int .i64 k ∧ Hid ((s.data.toList.take k).all chB = true)) (fun i => s.size - (intOf i).toNat)
    case atStart => exact ⟨0, Nat.zero_le _, rfl, Lib.hid rfl⟩
    case round =>
      clear hb0 g1 g2 q1
      obtain ⟨k, hk, rfl, HA⟩ := hrel
      by_cases hlt : k < s.size
      · obtain ⟨b, hb⟩ : ∃ b : Nat, (s[k]'hlt).toNat = b := ⟨_, rfl⟩
        rcases (show (b < 48) ∨ (48 ≤ b ∧ b ≤ 57) ∨ (57 < b ∧ b < 95) ∨ (b = 95) ∨ (b = 96) ∨ (97 ≤ b ∧ b ≤ 122) ∨ (122 < b) from by omega) with h1 | ⟨h1, h2⟩ | ⟨h1, h2⟩ | h1 | h1 | ⟨h1, h2⟩ | h1
        · have HE : Hid (wordB s = false) := Lib.hid (word_bad hlt (by rw [ch_iff, hb]; exact decide_eq_false (by omega)))
          have q9 : ((b : Int) != 95) = true := by rw [bne_iff_ne]; omega
          clear HA
          go_wp2
          all_goals (go_ret; exact ⟨by rw [HE.out]; rfl, by repeat (first | exact Ext.refl' _ | assumption | apply Ext.ex' | apply Ext.al | apply Ext.drN | apply Ext.dr)⟩)
        · have HS : Hid ((s.data.toList.take (k + 1)).all chB = true) := Lib.hid (all_take hlt HA.out (by rw [ch_iff, hb]; exact decide_eq_true (by omega)))
          clear HA
          go_wp2
          all_goals (go_round; (case rel => exact ⟨k + 1, by omega, by go_num, HS⟩); (case measure => simp [intOf]; omega))
        · have HE : Hid (wordB s = false) := Lib.hid (word_bad hlt (by rw [ch_iff, hb]; exact decide_eq_false (by omega)))
          have q9 : ((b : Int) != 95) = true := by rw [bne_iff_ne]; omega
          clear HA
          go_wp2
          all_goals (go_ret; exact ⟨by rw [HE.out]; rfl, by repeat (first | exact Ext.refl' _ | assumption | apply Ext.ex' | apply Ext.al | apply Ext.drN | apply Ext.dr)⟩)
        · have HS : Hid ((s.data.toList.take (k + 1)).all chB = true) := Lib.hid (all_take hlt HA.out (by rw [ch_iff, hb]; exact decide_eq_true (by omega)))
          clear HA
          go_wp2
          all_goals (go_round; (case rel => exact ⟨k + 1, by omega, by go_num, HS⟩); (case measure => simp [intOf]; omega))
        · have HE : Hid (wordB s = false) := Lib.hid (word_bad hlt (by rw [ch_iff, hb]; exact decide_eq_false (by omega)))
          have q9 : ((b : Int) != 95) = true := by rw [bne_iff_ne]; omega
          clear HA
          go_wp2
          all_goals (go_ret; exact ⟨by rw [HE.out]; rfl, by repeat (first | exact Ext.refl' _ | assumption | apply Ext.ex' | apply Ext.al | apply Ext.drN | apply Ext.dr)⟩)
        · have HS : Hid ((s.data.toList.take (k + 1)).all chB = true) := Lib.hid (all_take hlt HA.out (by rw [ch_iff, hb]; exact decide_eq_true (by omega)))
          clear HA
          go_wp2
          all_goals (go_round; (case rel => exact ⟨k + 1, by omega, by go_num, HS⟩); (case measure => simp [intOf]; omega))
        · have HE : Hid (wordB s = false) := Lib.hid (word_bad hlt (by rw [ch_iff, hb]; exact decide_eq_false (by omega)))
          have q9 : ((b : Int) != 95) = true := by rw [bne_iff_ne]; omega
          clear HA
          go_wp2
          all_goals (go_ret; exact ⟨by rw [HE.out]; rfl, by repeat (first | exact Ext.refl' _ | assumption | apply Ext.ex' | apply Ext.al | apply Ext.drN | apply Ext.dr)⟩)
      · have HE : Hid (wordB s = true) := Lib.hid (by
          rw [HR.out, ← HA.out, List.take_of_length_le (by simp; omega)])
        go_wp2
        go_ret
        exact ⟨by rw [HE.out]; rfl, by repeat (first | exact Ext.refl' _ | assumption | apply Ext.ex' | apply Ext.al | apply Ext.drN | apply Ext.dr)⟩
  · have HR : Hid (wordB s = s.data.toList.all chB) := Lib.hid (word_rest hpos (by omega) (by omega))
    have g2 := g1
    have q1 := g1
    go_enter Tryz.func28, Tryz.ntmps28
    go_wp2
    go_loop [3] (fun i => ∃ k : Nat, k ≤ s.size ∧ i = .int .i64 k ∧ Hid ((s.data.toList.take k).all chB = true)) (fun i => s.size - (intOf i).toNat)
    case atStart => exact ⟨0, Nat.zero_le _, rfl, Lib.hid rfl⟩
    case round =>
      clear hb0 g1 g2 q1
      obtain ⟨k, hk, rfl, HA⟩ := hrel
      by_cases hlt : k < s.size
      · obtain ⟨b, hb⟩ : ∃ b : Nat, (s[k]'hlt).toNat = b := ⟨_, rfl⟩
        rcases (show (b < 48) ∨ (48 ≤ b ∧ b ≤ 57) ∨ (57 < b ∧ b < 95) ∨ (b = 95) ∨ (b = 96) ∨ (97 ≤ b ∧ b ≤ 122) ∨ (122 < b) from by omega) with h1 | ⟨h1, h2⟩ | ⟨h1, h2⟩ | h1 | h1 | ⟨h1, h2⟩ | h1
        · have HE : Hid (wordB s = false) := Lib.hid (word_bad hlt (by rw [ch_iff, hb]; exact decide_eq_false (by omega)))
          have q9 : ((b : Int) != 95) = true := by rw [bne_iff_ne]; omega
          clear HA
          go_wp2
          all_goals (go_ret; exact ⟨by rw [HE.out]; rfl, by repeat (first | exact Ext.refl' _ | assumption | apply Ext.ex' | apply Ext.al | apply Ext.drN | apply Ext.dr)⟩)
        · have HS : Hid ((s.data.toList.take (k + 1)).all chB = true) := Lib.hid (all_take hlt HA.out (by rw [ch_iff, hb]; exact decide_eq_true (by omega)))
          clear HA
          go_wp2
          all_goals (go_round; (case rel => exact ⟨k + 1, by omega, by go_num, HS⟩); (case measure => simp [intOf]; omega))
        · have HE : Hid (wordB s = false) := Lib.hid (word_bad hlt (by rw [ch_iff, hb]; exact decide_eq_false (by omega)))
          have q9 : ((b : Int) != 95) = true := by rw [bne_iff_ne]; omega
          clear HA
          go_wp2
          all_goals (go_ret; exact ⟨by rw [HE.out]; rfl, by repeat (first | exact Ext.refl' _ | assumption | apply Ext.ex' | apply Ext.al | apply Ext.drN | apply Ext.dr)⟩)
        · have HS : Hid ((s.data.toList.take (k + 1)).all chB = true) := Lib.hid (all_take hlt HA.out (by rw [ch_iff, hb]; exact decide_eq_true (by omega)))
          clear HA
          go_wp2
          all_goals (go_round; (case rel => exact ⟨k + 1, by omega, by go_num, HS⟩); (case measure => simp [intOf]; omega))
        · have HE : Hid (wordB s = false) := Lib.hid (word_bad hlt (by rw [ch_iff, hb]; exact decide_eq_false (by omega)))
          have q9 : ((b : Int) != 95) = true := by rw [bne_iff_ne]; omega
          clear HA
          go_wp2
          all_goals (go_ret; exact ⟨by rw [HE.out]; rfl, by repeat (first | exact Ext.refl' _ | assumption | apply Ext.ex' | apply Ext.al | apply Ext.drN | apply Ext.dr)⟩)
        · have HS : Hid ((s.data.toList.take (k + 1)).all chB = true) := Lib.hid (all_take hlt HA.out (by rw [ch_iff, hb]; exact decide_eq_true (by omega)))
          clear HA
          go_wp2
          all_goals (go_round; (case rel => exact ⟨k + 1, by omega, by go_num, HS⟩); (case measure => simp [intOf]; omega))
        · have HE : Hid (wordB s = false) := Lib.hid (word_bad hlt (by rw [ch_iff, hb]; exact decide_eq_false (by omega)))
          have q9 : ((b : Int) != 95) = true := by rw [bne_iff_ne]; omega
          clear HA
          go_wp2
          all_goals (go_ret; exact ⟨by rw [HE.out]; rfl, by repeat (first | exact Ext.refl' _ | assumption | apply Ext.ex' | apply Ext.al | apply Ext.drN | apply Ext.dr)⟩)
      · have HE : Hid (wordB s = true) := Lib.hid (by
          rw [HR.out, ← HA.out, List.take_of_length_le (by simp; omega)])
        go_wp2
        go_ret
        exact ⟨by rw [HE.out]; rfl, by repeat (first | exact Ext.refl' _ | assumption | apply Ext.ex' | apply Ext.al | apply Ext.drN | apply Ext.dr)⟩


theorem trim_any (s : ByteArray) (w : World) (hs : s.size ≤ 9223372036854775807) :
    Calls Tryz.prog 26 #[.string s, .string ⟨#[97, 98, 99, 100, 101, 102, 103, 104, 105, 106, 107, 108, 109, 110, 111, 112, 113, 114, 115, 116, 117, 118, 119, 120, 121, 122, 48, 49, 50, 51, 52, 53, 54, 55, 56, 57, 95]⟩] w fun e w' => ∃ t : ByteArray, e = .returned (.string t) ∧ (t.toList == []) = s.data.toList.all chB ∧ Ext w w' := by
  have h := Any.strings_Trim_laid Tryz.laysTrim (by kernel_rfl) s ⟨#[97, 98, 99, 100, 101, 102, 103, 104, 105, 106, 107, 108, 109, 110, 111, 112, 113, 114, 115, 116, 117, 118, 119, 120, 121, 122, 48, 49, 50, 51, 52, 53, 54, 55, 56, 57, 95]⟩ w hs (by decide) (Go.Proofs.ascii_of_all (by decide))
  change Calls Tryz.prog 26 _ _ _ at h
  refine Calls.mono h ?_
  rintro e w' ⟨rfl, hb⟩
  refine ⟨_, rfl, ?_, hb⟩
  rw [Lib.toList_data, Bool.eq_iff_iff, beq_iff_eq]
  have h2 := trim_nil s.data.toList
  unfold letL at h2
  rw [← h2]
set_option maxRecDepth 100000 in
set_option maxHeartbeats 4000000 in
theorem tname_any (s : ByteArray) (w : World) (hs : s.size ≤ 9223372036854775807) :
    Calls Tryz.prog 16 #[.string s] w fun e w' => e = .returned (.bool (wordB s)) ∧ Ext w w' := by
  by_cases h0 : s.size = 0
  · have HE : Hid (wordB s = false) := Lib.hid (word_0 h0)
    have q0 : s.toList = [] := toList_nil.2 h0
    have q2 : s.toList.isEmpty = true := by rw [q0]; rfl
    go_enter Tryz.func16, Tryz.ntmps16
    go_wp2
    go_ret
    exact ⟨by rw [HE.out]; rfl, by repeat (first | exact Ext.refl' _ | assumption | apply Ext.ex' | apply Ext.al | apply Ext.drN | apply Ext.dr)⟩
  have q1 : (s.toList == []) = false := by rw [beq_eq_false_iff_ne]; exact fun h => h0 (toList_nil.1 h)
  have q2 : s.toList.isEmpty = false := by rw [List.isEmpty_eq_false_iff]; exact fun h => h0 (toList_nil.1 h)
  have q3 : ¬ s.toList = [] := fun h => h0 (toList_nil.1 h)
  by_cases h24 : 24 < s.size
  · have HE : Hid (wordB s = false) := Lib.hid (word_long h24)
    have h24z : 24 < (s.size : Int) := by omega
    go_enter Tryz.func16, Tryz.ntmps16
    go_wp2
    go_ret
    exact ⟨by rw [HE.out]; rfl, by repeat (first | exact Ext.refl' _ | assumption | apply Ext.ex' | apply Ext.al | apply Ext.drN | apply Ext.dr)⟩
  have h24z : ¬ 24 < (s.size : Int) := by omega
  have hpos : 0 < s.size := by omega
  obtain ⟨b0, hb0⟩ : ∃ b : Nat, (s[0]'hpos).toNat = b := ⟨_, rfl⟩
  rcases (show (48 ≤ b0 ∧ b0 ≤ 57) ∨ b0 < 48 ∨ 57 < b0 from by omega) with ⟨g1, g2⟩ | g1 | g1
  · have HE : Hid (wordB s = false) := Lib.hid (word_dig hpos (by omega) (by omega))
    go_enter Tryz.func16, Tryz.ntmps16
    go_wp2
    go_ret
    exact ⟨by rw [HE.out]; rfl, by repeat (first | exact Ext.refl' _ | assumption | apply Ext.ex' | apply Ext.al | apply Ext.drN | apply Ext.dr)⟩
  · have HR : Hid (wordB s = s.data.toList.all chB) := Lib.hid (word_rest hpos (by omega) (by omega))
    have HT := Lib.hid fun W => trim_any s W hs
    go_enter Tryz.func16, Tryz.ntmps16
    go_wp2_with fail
    refine (HT.out _).mono ?_
    rintro e w1 ⟨t, rfl, ht, hb1⟩
    obtain ⟨x1, rfl⟩ := hb1.get
    have HT2 := Lib.hid ht
    clear hb1 ht
    rcases hq : (t.toList == []) with _ | _
    · have HE : Hid (wordB s = false) := Lib.hid (by rw [HR.out, ← HT2.out, hq])
      have q5 : t.toList.isEmpty = false := by rw [List.isEmpty_eq_false_iff]; simpa using hq
      go_wp2
      go_ret
      exact ⟨by rw [HE.out]; first | rfl | simp_all, by repeat (first | exact Ext.refl' _ | assumption | apply Ext.ex' | apply Ext.al | apply Ext.drN | apply Ext.dr)⟩
    · have HE : Hid (wordB s = true) := Lib.hid (by rw [HR.out, ← HT2.out, hq])
      have q5 : t.toList.isEmpty = true := by rw [List.isEmpty_iff]; simpa using hq
      go_wp2
      go_ret
      exact ⟨by rw [HE.out]; first | rfl | simp_all, by repeat (first | exact Ext.refl' _ | assumption | apply Ext.ex' | apply Ext.al | apply Ext.drN | apply Ext.dr)⟩
  · have HR : Hid (wordB s = s.data.toList.all chB) := Lib.hid (word_rest hpos (by omega) (by omega))
    have HT := Lib.hid fun W => trim_any s W hs
    go_enter Tryz.func16, Tryz.ntmps16
    go_wp2_with fail
    refine (HT.out _).mono ?_
    rintro e w1 ⟨t, rfl, ht, hb1⟩
    obtain ⟨x1, rfl⟩ := hb1.get
    have HT2 := Lib.hid ht
    clear hb1 ht
    rcases hq : (t.toList == []) with _ | _
    · have HE : Hid (wordB s = false) := Lib.hid (by rw [HR.out, ← HT2.out, hq])
      have q5 : t.toList.isEmpty = false := by rw [List.isEmpty_eq_false_iff]; simpa using hq
      go_wp2
      go_ret
      exact ⟨by rw [HE.out]; first | rfl | simp_all, by repeat (first | exact Ext.refl' _ | assumption | apply Ext.ex' | apply Ext.al | apply Ext.drN | apply Ext.dr)⟩
    · have HE : Hid (wordB s = true) := Lib.hid (by rw [HR.out, ← HT2.out, hq])
      have q5 : t.toList.isEmpty = true := by rw [List.isEmpty_iff]; simpa using hq
      go_wp2
      go_ret
      exact ⟨by rw [HE.out]; first | rfl | simp_all, by repeat (first | exact Ext.refl' _ | assumption | apply Ext.ex' | apply Ext.al | apply Ext.drN | apply Ext.dr)⟩


set_option maxRecDepth 100000 in
set_option maxHeartbeats 4000000 in
theorem rright_any (h : Hd) (w : World) (h1 : h.nm.size ≤ 9223372036854775807) (h2 : h.tb.size ≤ 9223372036854775807) :
    Calls Tryz.prog 18 #[hag h] w fun e w' => e = .returned (.bool (rightB h)) ∧ Ext w w' := by
  have H1 := Lib.hid fun W => rword_any h.nm W h1
  have H2 := Lib.hid fun W => rword_any h.tb W h2
  have H3 := Lib.hid fun W => rvalid33_any h.r W
  have HB : Hid (rightB h = (wordB h.nm && wordB h.tb && rvB h.r)) := Lib.hid rfl
  obtain ⟨nm, tb, ⟨⟨v1, v2⟩, s1, s2⟩⟩ := h
  dsimp only at H1 H2 H3 HB
  generalize rightB _ = b at HB ⊢
  generalize wordB nm = a1 at H1 HB
  generalize wordB tb = a2 at H2 HB
  generalize rvB ((v1, v2), s1, s2) = a3 at H3 HB
  cases a1
  · go_enter Tryz.func18, Tryz.ntmps18
    go_wp2_with fail
    refine (H1.out _).mono ?_; rintro e w1 ⟨rfl, hb1⟩; obtain ⟨x1, rfl⟩ := hb1.get; clear hb1
    go_wp2
    go_ret
    exact ⟨by rw [HB.out]; rfl, by repeat (first | exact Ext.refl' _ | assumption | apply Ext.ex' | apply Ext.al | apply Ext.drN | apply Ext.dr)⟩
  cases a2
  · go_enter Tryz.func18, Tryz.ntmps18
    go_wp2_with fail
    refine (H1.out _).mono ?_; rintro e w1 ⟨rfl, hb1⟩; obtain ⟨x1, rfl⟩ := hb1.get; clear hb1
    go_wp2_with fail
    refine (H2.out _).mono ?_; rintro e w2 ⟨rfl, hb2⟩; obtain ⟨x2, rfl⟩ := hb2.get; clear hb2
    go_wp2
    go_ret
    exact ⟨by rw [HB.out]; rfl, by repeat (first | exact Ext.refl' _ | assumption | apply Ext.ex' | apply Ext.al | apply Ext.drN | apply Ext.dr)⟩
  go_enter Tryz.func18, Tryz.ntmps18
  go_wp2_with fail
  refine (H1.out _).mono ?_; rintro e w1 ⟨rfl, hb1⟩; obtain ⟨x1, rfl⟩ := hb1.get; clear hb1
  go_wp2_with fail
  refine (H2.out _).mono ?_; rintro e w2 ⟨rfl, hb2⟩; obtain ⟨x2, rfl⟩ := hb2.get; clear hb2
  go_wp2_with fail
  refine (H3.out _).mono ?_; rintro e w3 ⟨rfl, hb3⟩; obtain ⟨x3, rfl⟩ := hb3.get; clear hb3
  go_wp2
  go_ret
  exact ⟨by rw [HB.out]; rfl, by repeat (first | exact Ext.refl' _ | assumption | apply Ext.ex' | apply Ext.al | apply Ext.drN | apply Ext.dr)⟩


/-- where a hold of a name is -/
def finH (l : List Hd) (s : ByteArray) : Int := match l.findIdx? fun x => decide (x.nm = s) with | some k => (k : Int) | none => -1
theorem finH_at {l : List Hd} {s : ByteArray} {k : Nat} {p : Hd} (h : ∀ j q, j < k → l[j]? = some q → q.nm ≠ s) (hp : l[k]? = some p) (he : p.nm = s) : finH l s = k := by
  obtain ⟨hk, rfl⟩ := List.getElem?_eq_some_iff.1 hp
  have : l.findIdx? (fun x => decide (x.nm = s)) = some k := by
    rw [List.findIdx?_eq_some_iff_getElem]
    refine ⟨hk, by simpa using he, fun j hj => ?_⟩
    have := h j l[j] hj (List.getElem?_eq_getElem (by omega))
    simpa using this
  unfold finH; rw [this]
theorem finH_no {l : List Hd} {s : ByteArray} (h : ∀ j q, j < l.length → l[j]? = some q → q.nm ≠ s) : finH l s = -1 := by
  have : l.findIdx? (fun x => decide (x.nm = s)) = none := by
    rw [List.findIdx?_eq_none_iff]
    intro x hx
    obtain ⟨j, hj, rfl⟩ := List.mem_iff_getElem.1 hx
    have := h j l[j] hj (List.getElem?_eq_getElem hj)
    simpa using this
  unfold finH; rw [this]
set_option maxRecDepth 100000 in
set_option maxHeartbeats 4000000 in
theorem rfind33_any (A : Option Addr) (n c : Nat) (l : List Hd) (s : ByteArray) (w : World) (hn : l.length = n) (hA : Rd w 6 A n (hdl l)) (nl : n ≤ 1048576) :
    Calls Tryz.prog 15 #[.slice A n c, .string s] w fun e w' => e = .returned (.int .i64 (finH l s)) ∧ Ext w w' := by
  have HN := Lib.hid hn
  clear hn
  go_enter Tryz.func15, Tryz.ntmps15
  go_wp2
  go_loop [5] (fun i => ∃ k : Nat, k ≤ n ∧ i = .int .i64 k ∧ Hid (∀ j q, j < k → l[j]? = some q → q.nm ≠ s)) (fun i => n - (intOf i).toNat)
  case atStart => exact ⟨0, Nat.zero_le _, rfl, Lib.hid fun j q h => absurd h (by omega)⟩
  case round =>
    obtain ⟨k, hk, rfl, HF⟩ := hrel
    by_cases hlt : k < n
    · obtain ⟨p, g, oo, hp, rfl, hg, c0, -⟩ := hA.hd HN.out hlt
      have HP := Lib.hid hp
      clear hp
      rcases h1 : (p.nm.toList == s.toList) with _ | _
      · have HS : Hid (∀ j q, j < k + 1 → l[j]? = some q → q.nm ≠ s) := Lib.hid fun j q hj hq => by
          rcases Nat.lt_or_ge j k with h2 | h2
          · exact HF.out j q h2 hq
          · have : j = k := by omega
            subst this
            have hpq : p = q := Option.some.inj (HP.out.symm.trans hq)
            subst hpq
            intro he
            rw [he] at h1
            simp at h1
        clear HF
        go_wp2
        go_round
        case rel => exact ⟨k + 1, by omega, by go_num, HS⟩
        case measure => simp [intOf]; omega
      · have HE : Hid (finH l s = k) := Lib.hid (finH_at HF.out HP.out (ba_ext (by have := beq_iff_eq.1 h1; rwa [Lib.toList_data, Lib.toList_data] at this)))
        clear HF
        go_wp2
        go_ret
        exact ⟨by rw [HE.out]; rfl, Ext.refl' _⟩
    · have HE : Hid (finH l s = -1) := Lib.hid (finH_no fun j q hj hq => HF.out j q (by have := HN.out; omega) hq)
      clear HF
      go_wp2
      go_ret
      exact ⟨by rw [HE.out]; rfl, Ext.refl' _⟩


set_option maxRecDepth 100000 in
set_option maxHeartbeats 4000000 in
theorem trects_any (A : Option Addr) (n c : Nat) (l : List Hd) (t : ByteArray) (w : World) (hn : l.length = n) (hA : Rd w 6 A n (hdl l)) (nl : n ≤ 1048576) :
    Calls Tryz.prog 10 #[.slice A n c, .string t] w (RdP 4 (rectsH l t).length (rcl (rectsH l t)) w) := by
  have HN := Lib.hid hn
  clear hn
  go_enter Tryz.func10, Tryz.ntmps10
  go_wp2
  go_loopw [5, 10] (fun so si wr => ∃ (k : Nat) (acc : List Rct) (x : Add), k ≤ n ∧ acc.length ≤ k ∧ si = .int .i64 k ∧ Hid (rectsH l t = acc ++ rectsH (l.drop k) t) ∧ wr = ext w x ∧ Own w x 27 4 so acc.length (rcl acc)) (fun _ si _ => n - (intOf si).toNat)
  case atStart =>
    obtain ⟨x, hx⟩ := (Ext.refl' w).get
    exact ⟨0, [], x, by omega, by simp, rfl, Lib.hid (by simp), hx, own_nil _ _ _ _⟩
  case round =>
    obtain ⟨k, acc, x, hk, hal, rfl, HF, rfl, hown⟩ := hrel
    by_cases hlt : k < n
    · obtain ⟨p, g, oo, hp, rfl, hg, c0, c1, c2, c3, c4, c5⟩ := hA.hd HN.out hlt
      have HD : Hid (rectsH l t = (acc ++ if decide (p.tb = t) then [p.r] else []) ++ rectsH (l.drop (k + 1)) t) := Lib.hid (by
        obtain ⟨hk2, he⟩ := List.getElem?_eq_some_iff.1 hp
        rw [HF.out, List.drop_eq_getElem_cons hk2, he, List.append_assoc]
        congr 1
        unfold rectsH
        rw [List.filter_cons]
        split <;> simp_all)
      clear HF hp
      rcases h1 : (p.tb.toList == t.toList) with _ | _
      · have HE : Hid (rectsH l t = acc ++ rectsH (l.drop (k + 1)) t) := Lib.hid (by
          rw [HD.out, if_neg (by intro h; rw [of_decide_eq_true h] at h1; simp at h1), List.append_nil])
        clear HD
        go_wp2
        go_roundw
        case rel =>
          refine rel_same (w' := (ext w x).alloc (.cells #[.string p.nm, .string p.tb, .int .i64 p.r.1.1, .int .i64 p.r.1.2, .int .i64 p.r.2.1, .int .i64 p.r.2.2] 29)) hown (Ext.al1 _ _) fun x1 hx1 ho1 => ?_
          exact ⟨k + 1, acc, x1, by omega, by omega, by go_num, HE, hx1, ho1⟩
        case measure => simp [intOf]; omega
      · have HE : Hid (rectsH l t = (acc ++ [p.r]) ++ rectsH (l.drop (k + 1)) t) := Lib.hid (by
          rw [HD.out, if_pos (decide_eq_true (ba_ext (by have := beq_iff_eq.1 h1; rwa [Lib.toList_data, Lib.toList_data] at this)))])
        clear HD
        go_wp2_with (at_builtin; refine wpList_app _ rfl (.tmp 18) (.tmp 21) rfl elRect w (by repeat (first | exact Ext.refl' _ | assumption | apply Ext.ex' | apply Ext.al | apply Ext.drN | apply Ext.dr)) _ _ _ rfl (by repeat (first | exact hown | apply World.ownsRow.alloc | apply own_ext)) _ 1 1 [.int .i64 p.r.1.1, .int .i64 p.r.1.2, .int .i64 p.r.2.1, .int .i64 p.r.2.2] rfl (Rd.lit _ _ _ 1 4 rfl (by simp [size_ext])) (by intro u hu; simp at hu; rcases hu with rfl | rfl | rfl | rfl <;> rfl) (by unfold maxLen; omega) (by omega) ?_; intro v' x' hown' _; have HOWN := Lib.hid hown'; clear hown')
        go_roundw
        case rel => exact ⟨k + 1, acc ++ [p.r], x', by omega, by simp; omega, by go_num, HE, rfl, by rw [List.length_append]; have := HOWN.out; simpa [rcl] using this⟩
        case measure => simp [intOf]; omega
    · have HE : Hid (rectsH l t = acc) := Lib.hid (by rw [HF.out, List.drop_eq_nil_of_le (by have := HN.out; omega)]; simp [rectsH])
      obtain ⟨A7, c7, rfl, _, _⟩ := Own.form hown
      have HR := Lib.hid (Rd.of_own hown)
      clear HF hown
      go_wp2
      go_ret
      rw [HE.out]
      exact ⟨A7, c7, rfl, by repeat (first | exact Ext.refl' _ | assumption | apply Ext.ex' | apply Ext.al | apply Ext.drN | apply Ext.dr), HR.out⟩


set_option maxRecDepth 100000 in
set_option maxHeartbeats 4000000 in
theorem rrects_any (A : Option Addr) (n c : Nat) (l : List Hd) (t : ByteArray) (w : World) (hn : l.length = n) (hA : Rd w 6 A n (hdl l)) (nl : n ≤ 1048576) :
    Calls Tryz.prog 11 #[.slice A n c, .string t] w (RdP 4 (rectsH l t).length (rcl (rectsH l t)) w) := by
  have HN := Lib.hid hn
  clear hn
  go_enter Tryz.func11, Tryz.ntmps11
  go_wp2
  go_loopw [5, 6] (fun so si wr => ∃ (k : Nat) (acc : List Rct) (x : Add), k ≤ n ∧ acc.length ≤ k ∧ si = .int .i64 k ∧ Hid (rectsH l t = acc ++ rectsH (l.drop k) t) ∧ wr = ext w x ∧ Own w x 27 4 so acc.length (rcl acc)) (fun _ si _ => n - (intOf si).toNat)
  case atStart =>
    obtain ⟨x, hx⟩ := (Ext.refl' w).get
    exact ⟨0, [], x, by omega, by simp, rfl, Lib.hid (by simp), hx, own_nil _ _ _ _⟩
  case round =>
    obtain ⟨k, acc, x, hk, hal, rfl, HF, rfl, hown⟩ := hrel
    by_cases hlt : k < n
    · obtain ⟨p, g, oo, hp, rfl, hg, c0, c1, c2, c3, c4, c5⟩ := hA.hd HN.out hlt
      have HD : Hid (rectsH l t = (acc ++ if decide (p.tb = t) then [p.r] else []) ++ rectsH (l.drop (k + 1)) t) := Lib.hid (by
        obtain ⟨hk2, he⟩ := List.getElem?_eq_some_iff.1 hp
        rw [HF.out, List.drop_eq_getElem_cons hk2, he, List.append_assoc]
        congr 1
        unfold rectsH
        rw [List.filter_cons]
        split <;> simp_all)
      clear HF hp
      rcases h1 : (p.tb.toList == t.toList) with _ | _
      · have HE : Hid (rectsH l t = acc ++ rectsH (l.drop (k + 1)) t) := Lib.hid (by
          rw [HD.out, if_neg (by intro h; rw [of_decide_eq_true h] at h1; simp at h1), List.append_nil])
        clear HD
        go_wp2
        go_roundw
        case rel => exact ⟨k + 1, acc, x, by omega, by omega, by go_num, HE, rfl, hown⟩
        case measure => simp [intOf]; omega
      · have HE : Hid (rectsH l t = (acc ++ [p.r]) ++ rectsH (l.drop (k + 1)) t) := Lib.hid (by
          rw [HD.out, if_pos (decide_eq_true (ba_ext (by have := beq_iff_eq.1 h1; rwa [Lib.toList_data, Lib.toList_data] at this)))])
        clear HD
        go_wp2_with (at_builtin; refine wpList_app _ rfl (.tmp 20) (.tmp 26) rfl elRect w (by repeat (first | exact Ext.refl' _ | assumption | apply Ext.ex' | apply Ext.al | apply Ext.drN | apply Ext.dr)) _ _ _ rfl (by repeat (first | exact hown | apply World.ownsRow.alloc | apply own_ext)) _ 1 1 [.int .i64 p.r.1.1, .int .i64 p.r.1.2, .int .i64 p.r.2.1, .int .i64 p.r.2.2] rfl (Rd.lit _ _ _ 1 4 rfl (by simp [size_ext])) (by intro u hu; simp at hu; rcases hu with rfl | rfl | rfl | rfl <;> rfl) (by unfold maxLen; omega) (by omega) ?_; intro v' x' hown' _; have HOWN := Lib.hid hown'; clear hown')
        go_roundw
        case rel => exact ⟨k + 1, acc ++ [p.r], x', by omega, by simp; omega, by go_num, HE, rfl, by rw [List.length_append]; have := HOWN.out; simpa [rcl] using this⟩
        case measure => simp [intOf]; omega
    · have HE : Hid (rectsH l t = acc) := Lib.hid (by rw [HF.out, List.drop_eq_nil_of_le (by have := HN.out; omega)]; simp [rectsH])
      obtain ⟨A7, c7, rfl, _, _⟩ := Own.form hown
      have HR := Lib.hid (Rd.of_own hown)
      clear HF hown
      go_wp2
      go_ret
      rw [HE.out]
      exact ⟨A7, c7, rfl, by repeat (first | exact Ext.refl' _ | assumption | apply Ext.ex' | apply Ext.al | apply Ext.drN | apply Ext.dr), HR.out⟩


theorem held_hold : Tryz.prog.stoodInHeld 29 = false := by kernel_rfl
@[go_sem] theorem guard_hold : Tryz.prog.eqGuardType Tryz.prog.depth 29 = false := by kernel_rfl
theorem hd_ext {a b : Hd} (h1 : a.nm = b.nm) (h2 : a.tb = b.tb) (h3 : a.r = b.r) : a = b := by
  obtain ⟨x, y, z⟩ := a
  obtain ⟨x', y', z'⟩ := b
  simp only at h1 h2 h3
  subst h1 h2 h3
  rfl
instance : DecidableEq Hd := fun a b => if h : a.nm = b.nm ∧ a.tb = b.tb ∧ a.r = b.r then isTrue (hd_ext h.1 h.2.1 h.2.2) else isFalse fun e => h (by subst e; exact ⟨rfl, rfl, rfl⟩)
theorem toList_inj {a b : ByteArray} : a.toList = b.toList ↔ a = b := by
  rw [Lib.toList_data, Lib.toList_data]
  exact ⟨fun h => ba_ext h, fun h => by rw [h]⟩
@[go_sem high] theorem neq_hold (a b : Hd) (w : World) : (binOp .neq 29 (.agg #[.string a.nm, .string a.tb, .int .i64 a.r.1.1, .int .i64 a.r.1.2, .int .i64 a.r.2.1, .int .i64 a.r.2.2]) (.agg #[.string b.nm, .string b.tb, .int .i64 b.r.1.1, .int .i64 b.r.1.2, .int .i64 b.r.2.1, .int .i64 b.r.2.2])).run Tryz.prog w = .ok (.bool (!decide (a = b))) w := by
  obtain ⟨an, at_, ⟨⟨a1, a2⟩, a3, a4⟩⟩ := a
  obtain ⟨bn, bt, ⟨⟨b1, b2⟩, b3, b4⟩⟩ := b
  have he : decide ((⟨an, at_, ⟨⟨a1, a2⟩, a3, a4⟩⟩ : Hd) = ⟨bn, bt, ⟨⟨b1, b2⟩, b3, b4⟩⟩) = (an.toList == bn.toList && (at_.toList == bt.toList && (a1 == b1 && a2 == b2 && (a3 == b3 && a4 == b4)))) := by
    rw [Bool.eq_iff_iff]
    simp [toList_inj]
  rw [he]
  simp [go_sem, held_hold, Tryz.underlying29, Tryz.underlying27, Tryz.underlying25]
  by_cases h1 : an.toList = bn.toList <;> by_cases h2 : at_.toList = bt.toList <;> by_cases h3 : a1 = b1 <;> by_cases h4 : a2 = b2 <;> by_cases h5 : a3 = b3 <;> by_cases h6 : a4 = b4 <;> simp [h1, h2, h3, h4, h5, h6]
set_option maxRecDepth 100000 in
set_option maxHeartbeats 4000000 in
theorem same33_any (A B : Option Addr) (c d n m : Nat) (l l' : List Hd) (w : World) (hn : l.length = n) (hm : l'.length = m) (hA : Rd w 6 A n (hdl l)) (hB : Rd w 6 B m (hdl l')) (hl : n ≤ 1048576) (hl' : m ≤ 1048576) :
    Calls Tryz.prog 8 #[.slice A n c, .slice B m d] w fun e w' => e = .returned (.bool (decide (l = l'))) ∧ Ext w w' := by
  have HN := Lib.hid hn
  have HM := Lib.hid hm
  by_cases hq : n = m
  · have hb : ((n : Int) != (m : Int)) = false := by simp [hq]
    have HQ := Lib.hid hq
    clear hn hm hq
    go_enter Tryz.func8, Tryz.ntmps8
    go_wp2
    go_loopw [5] (fun i wr => ∃ k : Nat, k ≤ n ∧ i = .int .i64 k ∧ Hid (l.take k = l'.take k) ∧ Ext w wr) (fun i _ => n - (intOf i).toNat)
    case atStart => exact ⟨0, Nat.zero_le _, rfl, Lib.hid (by simp), Ext.refl' _⟩
    case round =>
      obtain ⟨k, hk, rfl, HT, hext⟩ := hrel
      obtain ⟨x, rfl⟩ := hext.get
      clear hext
      by_cases hlt : k < n
      · have hlt' : k < m := by have := HQ.out; omega
        obtain ⟨p, b, o, hp, rfl, hb, p0, p1, p2, p3, p4, p5⟩ := hA.hd HN.out hlt
        obtain ⟨q, b', o', hq, rfl, hb', q0, q1, q2, q3, q4, q5⟩ := hB.hd HM.out hlt'
        obtain ⟨a1, a2⟩ := List.getElem?_eq_some_iff.1 hp
        obtain ⟨a3, a4⟩ := List.getElem?_eq_some_iff.1 hq
        by_cases heq : p = q
        · have HE := Lib.hid (take_succ_eq a1 a3 HT.out (by rw [a2, a4, heq]))
          have hdq : decide (p = q) = true := by simp [heq]
          clear heq hp hq a2 a4
          go_wp2
          go_quiet (fail)
          go_wp2
          go_roundw
          case rel => exact ⟨k + 1, by omega, by go_num, HE, by repeat (first | exact Ext.refl' _ | assumption | apply Ext.ex' | apply Ext.al | apply Ext.drN | apply Ext.dr)⟩
          case measure => simp [intOf]; omega
        · have HE := Lib.hid (take_ne a1 a3 (by rw [a2, a4]; exact heq))
          have hdq : decide (p = q) = false := by simp [heq]
          clear heq hp hq a2 a4
          go_wp2
          go_quiet (fail)
          go_wp2
          go_ret
          exact ⟨by simp [HE.out], by repeat (first | exact Ext.refl' _ | assumption | apply Ext.ex' | apply Ext.al | apply Ext.drN | apply Ext.dr)⟩
      · go_wp2
        go_ret
        have h1 := eq_of_takes (a := l) (b := l') (by rw [HN.out, HM.out, HQ.out]) (by rw [HN.out]; exact hlt) HT.out
        exact ⟨by rw [h1]; simp, Ext.ex _ _⟩
  · have hb : ((n : Int) != (m : Int)) = true := by simp; omega
    have hlm : decide (l = l') = false := by simp; rintro rfl; exact hq (hn.symm.trans hm)
    rw [hlm]
    clear hn hm hlm hq
    go_enter Tryz.func8, Tryz.ntmps8
    go_wp2
    go_ret
    exact ⟨rfl, Ext.refl' _⟩

end Go.Proofs.YtimhehnmmjgeaaaGreatDoor

namespace Go.Proofs.YtimhehnmmjgeaaaGreatDoor
open Go.RowKit Go.Maps Go.WideElems Go.ChangeMaps Go.Shelf Go.Sort


theorem keyTH : Keyed Tryz.prog 9 := string_keyed Tryz.underlying9
theorem key_mkH {s : ByteArray} (h : s.size ≤ maxLen) : keyOf Tryz.prog 9 (.string s) = some (.string s.data.toList) := by
  simp [keyOf, Tryz.underlying9, mapKey, h]
theorem gcellH {w w' : World} {row : Option Nat} (hg : w.grownBy w' row) {b o : Nat} {v : Value} (hb : b < w.heap.size) (hne : row ≠ some b) (h : w.cell? ⟨b, o, none⟩ = some v) : w'.cell? ⟨b, o, none⟩ = some v :=
  (World.cell?_of_block (hg.block b hb (fun e => hne e.symm))).trans h
theorem map_cellsH {w : World} {P : Program} {k : TypeId} {R : Value → Option (DataW Value × List MemPlace)} {b n : Nat} {D : DataW Value} (h : w.ownsMap P k R b n D) : ∀ r, some b = some r → ∃ o : Obj, w.heap[r]? = some o ∧ o.isCells = false := by
  rintro r ⟨rfl⟩
  obtain ⟨es, clock, hb, _⟩ := h
  exact ⟨_, hb, rfl⟩
/-- an owned row stays so where no block of cells turns -/
theorem own_keptH {w w' : World} {row : Option Nat} {base e size n : Nat} {v : Value} {xs : List Value} (h : w.ownsRow base e size v n xs) (hg : w.grownBy w' row) (hr : ∀ r, row = some r → ∃ o : Obj, w.heap[r]? = some o ∧ o.isCells = false) : w'.ownsRow base e size v n xs := by
  refine h.kept hg ?_
  rcases h.2 with ⟨rfl, _⟩ | ⟨g, cap, cur, rfl, hb, hg2, _⟩
  · exact .inl rfl
  · refine .inr fun e => ?_
    obtain ⟨ob, ho, hoc⟩ := hr g e.symm
    rw [hg2] at ho
    cases ho
    cases hoc
theorem row_neH {w : World} {base e size n b : Nat} {v : Value} {xs : List Value} (h : w.ownsRow base e size v n xs) (hb : ∃ o : Obj, w.heap[b]? = some o ∧ o.isCells = false) : some b ≠ v.ownBlock := by
  intro he
  rcases h.2 with ⟨rfl, _⟩ | ⟨g, cap, cur, rfl, _, hg2, _⟩
  · cases he
  · obtain ⟨ob, ho, hoc⟩ := hb
    have : b = g := by simpa [Value.ownBlock] using he
    subst this
    rw [hg2] at ho
    cases ho
    cases hoc
/-- D holds the holds of l by their names -/
structure MpH (D : DataW Value) (l : List Hd) : Prop where
  isMap : IsMap D
  has : ∀ k : List UInt8, Maps.has D (.string k) = l.any fun x => decide (x.key = k)
  at_ : ∀ x ∈ l, ∀ z, D.atKey (.string x.key) z = .held (hag x)
theorem MpH.nil : MpH (.map []) [] := ⟨isMap_empty, fun k => rfl, fun x hx => by cases hx⟩
theorem MpH.put {D : DataW Value} {l : List Hd} (h : MpH D l) {x : Hd} (hx : ∀ y ∈ l, y.key ≠ x.key) : MpH (D.put (.string x.key) (.held (hag x))) (l ++ [x]) := by
  refine ⟨h.isMap.put _ _, fun k => ?_, fun y hy z => ?_⟩
  · by_cases hk : k = x.key
    · subst hk
      rw [has_put_same h.isMap (by trivial)]
      simp
    · rw [has_put_other (by simpa using hk), h.has, List.any_append]
      rw [List.any_cons, List.any_nil, decide_eq_false (fun e : x.key = k => hk e.symm)]; simp
  · rcases List.mem_append.1 hy with hy | hy
    · rw [atKey_put_other (by simpa using hx y hy)]
      exact h.at_ y hy z
    · obtain rfl := List.mem_singleton.1 hy
      exact atKey_put_same h.isMap (by trivial) _ _
theorem MpH.del {D : DataW Value} {l : List Hd} (h : MpH D l) (s : ByteArray) : MpH (D.del (.string s.data.toList)) (remH l s) := by
  refine ⟨h.isMap.del _, fun k => ?_, fun y hy z => ?_⟩
  · by_cases hk : k = s.data.toList
    · subst hk
      rw [has_del_same]
      symm
      rw [List.any_eq_false]
      intro x hx
      have := (List.mem_filter.1 hx).2
      simp only [Bool.not_eq_eq_eq_not, Bool.not_true, decide_eq_false_iff_not] at this
      simp only [decide_eq_true_eq]
      exact fun e => this (ba_ext e)
    · rw [has_del_other (by simpa using hk), h.has]
      rw [Bool.eq_iff_iff, List.any_eq_true, List.any_eq_true]
      constructor
      · rintro ⟨x, hx, he⟩
        refine ⟨x, List.mem_filter.2 ⟨hx, ?_⟩, he⟩
        simp only [Bool.not_eq_eq_eq_not, Bool.not_true, decide_eq_false_iff_not]
        intro e
        exact hk ((of_decide_eq_true he).symm.trans (by rw [← e]; rfl))
      · rintro ⟨x, hx, he⟩
        exact ⟨x, (List.mem_filter.1 hx).1, he⟩
  · have h1 := List.mem_filter.1 hy
    have h2 := h1.2
    simp only [Bool.not_eq_eq_eq_not, Bool.not_true, decide_eq_false_iff_not] at h2
    rw [atKey_del_other (by simpa using fun e : y.key = s.data.toList => h2 (ba_ext e))]
    exact h.at_ y h1.1 z
theorem MpH.at_name {D : DataW Value} {l : List Hd} (h : MpH D l) (s : ByteArray) : Maps.has D (.string s.data.toList) = hasH l s := by
  rw [h.has]
  unfold hasH
  congr 1
  funext x
  rw [decide_eq_decide]
  exact ⟨fun e => ba_ext e, fun e => by rw [← e]; rfl⟩
theorem keys_take {l : List Hd} (h : (l.map Hd.key).Nodup) {k : Nat} {p : Hd} (hp : l[k]? = some p) : ∀ y ∈ l.take k, y.key ≠ p.key := fun y hy e => by
  obtain ⟨hk, rfl⟩ := List.getElem?_eq_some_iff.1 hp
  obtain ⟨j, hj, rfl⟩ := List.mem_iff_getElem.1 hy
  simp only [List.length_take] at hj
  rw [List.getElem_take] at e
  have h1 : (l.map Hd.key)[j]'(by simp; omega) = (l.map Hd.key)[k]'(by simpa using hk) := by simpa using e
  have := (List.getElem_inj h).1 h1
  omega


/-- a map of holds is returned -/
def IxP (w : World) (l : List Hd) (e : Ending) (w' : World) : Prop := ∃ b D, e = .returned (.map (some b)) ∧ w.heap.size ≤ b ∧ w'.ownsMap Tryz.prog 9 heldR b l.length D ∧ MpH D l ∧ Ext w w'
set_option maxRecDepth 100000 in
set_option maxHeartbeats 8000000 in
theorem index_any (A : Option Addr) (n c : Nat) (l : List Hd) (w : World) (hn : l.length = n) (hA : Rd w 6 A n (hdl l)) (nl : n ≤ 1048576) (hk : (l.map Hd.key).Nodup) (hz : ∀ x ∈ l, x.nm.size ≤ maxLen) :
    Calls Tryz.prog 13 #[.slice A n c] w (IxP w l) := by
  have HN := Lib.hid hn
  have HK := Lib.hid hk
  have HZ := Lib.hid hz
  clear hn hk hz
  unfold IxP
  have hmm := @run_makeMap Tryz.prog
  go_enter Tryz.func13, Tryz.ntmps13
  go_wp2
  go_loopw [9] (fun si wr => ∃ (k : Nat) (D : DataW Value) (x : Add), k ≤ n ∧ si = .int .i64 k ∧ wr = ext w x ∧ 0 < x.n ∧ (ext w x).ownsMap Tryz.prog 9 heldR w.heap.size k D ∧ Hid (MpH D (l.take k))) (fun si _ => n - (intOf si).toNat)
  case atStart =>
    obtain ⟨x, hx⟩ := (show Ext w (w.alloc (.map #[] 0)) from Ext.al1 w _).get
    refine ⟨0, .map [], x, Nat.zero_le _, rfl, hx, ?_, ?_, Lib.hid MpH.nil⟩
    · have := congrArg (fun W : World => W.heap.size) hx
      simp only [World.size_alloc, size_ext] at this
      omega
    · rw [← hx]; exact World.ownsMap_made w _ _ _
  case round =>
    obtain ⟨k, D, x, hk, rfl, rfl, hx0, hown, HM⟩ := hrel
    by_cases hlt : k < n
    · obtain ⟨p, g, oo, hp, rfl, hg, c0, c1, c2, c3, c4, c5⟩ := hA.hd HN.out hlt
      have hkey := key_mkH (HZ.out p (List.mem_of_getElem? hp))
      have HP : Hid (MpH (D.put (.string p.nm.data.toList) (.held (hag p))) (l.take (k + 1))) := Lib.hid (by
        obtain ⟨hk2, he⟩ := List.getElem?_eq_some_iff.1 hp
        rw [List.take_succ_eq_append_getElem hk2, he]
        exact HM.out.put (keys_take HK.out hp))
      have hown1 := hown.alloc (.cells #[.string p.nm, .string p.tb, .int .i64 p.r.1.1, .int .i64 p.r.1.2, .int .i64 p.r.2.1, .int .i64 p.r.2.2] 29)
      clear HM hp hown
      go_wp2_with (at_mapUpdate; refine wpList_mapUpdate_own _ rfl _ _ _ 39 rfl 9 29 keyTH Tryz.underlying39 heldR w.heap.size k D rfl hown1 (by unfold maxLen; omega) (.string p.nm) (hag p) (.string p.nm.data.toList) rfl rfl hkey (.held (hag p)) [] rfl ?_; intro w2 hown2 hg2)
      have hE2 : Ext w w2 := Below.grown (show Ext w ((ext w x).alloc (.cells #[.string p.nm, .string p.tb, .int .i64 p.r.1.1, .int .i64 p.r.1.2, .int .i64 p.r.2.1, .int .i64 p.r.2.2] 29)) from by repeat (first | exact Ext.refl' _ | assumption | apply Ext.ex' | apply Ext.al | apply Ext.drN | apply Ext.dr)) hg2 (by simp [size_ext]; omega) (fun j hj => by cases hj; exact Nat.le_refl _)
      have hs2 := hg2.size
      simp only [World.size_alloc, size_ext] at hs2
      obtain ⟨x2, rfl⟩ := hE2.get
      simp only [size_ext] at hs2
      go_roundw
      case rel => exact ⟨k + 1, _, x2, by omega, by go_num, rfl, by omega, hown2, HP⟩
      case measure => simp [intOf]; omega
    · have hkn : k = n := by omega
      subst hkn
      have HM2 : Hid (MpH D l) := Lib.hid (by have := HM.out; rwa [List.take_of_length_le (by have := HN.out; omega)] at this)
      clear HM
      go_wp2
      go_ret
      exact ⟨w.heap.size, D, rfl, Nat.le_refl _, by rw [HN.out]; exact hown, HM2.out, Ext.ex w x⟩


instance : Inhabited Hd := ⟨⟨⟨#[]⟩, ⟨#[]⟩, ((0, 0), (0, 0))⟩⟩
def cfH (x y : Hd) : Int := Lib.compareBytes x.nm.data.toList y.nm.data.toList
theorem ltH (x y : Hd) : ltOf cfH x y = ltK x.key y.key := by
  unfold ltOf cfH ltK
  rw [cb_spec, bytesLess_eq]
  unfold Hd.key
  by_cases h : x.nm.data.toList < y.nm.data.toList
  · simp [h]
  · simp only [h, decide_false, Bool.false_eq_true, if_false, decide_eq_false_iff_not]
    split <;> omega
theorem swoH : SWO (ltOf cfH) where
  irrefl x := by rw [ltH]; exact ltK_irr _
  trans x y z h1 h2 := by rw [ltH] at *; exact ltK_trans h1 h2
  ntrans x y z h1 h2 := by
    rw [ltH] at *
    by_cases hxy : x.key = y.key
    · rw [hxy]; exact h2
    by_cases hyz : y.key = z.key
    · rw [← hyz]; exact h1
    exact ltK_asymm (ltK_trans (ltK_total h2 hyz) (ltK_total h1 hxy))
set_option maxRecDepth 100000 in
set_option maxHeartbeats 8000000 in
theorem closureH (x y : Hd) (W : World) : Calls Tryz.prog 24 #[.agg #[.string x.nm, .string x.tb, .int .i64 x.r.1.1, .int .i64 x.r.1.2, .int .i64 x.r.2.1, .int .i64 x.r.2.2], .agg #[.string y.nm, .string y.tb, .int .i64 y.r.1.1, .int .i64 y.r.1.2, .int .i64 y.r.2.1, .int .i64 y.r.2.2]] W fun e w' => e = .returned (.int .i64 (cfH x y)) ∧ ∃ q os', w' = grow (W.drewN q) os' := by
  have HC := Lib.hid fun W => strcmp_any x.nm y.nm W
  have HF : Hid (Lib.compareBytes x.nm.data.toList y.nm.data.toList = cfH x y) := Lib.hid rfl
  rw [HF.out] at HC
  generalize cfH x y = z at HC
  clear HF
  go_enter Tryz.func24, Tryz.ntmps24
  go_wp2_with fail
  refine (HC.out _).mono ?_
  rintro e w1 ⟨rfl, rfl⟩
  go_wp2
  go_ret
  exact ⟨rfl, 0, _, by rw [alloc_eq_grow, alloc_eq_grow, grow_grow]; rfl⟩
theorem cmpH (blk off size : Nat) (w : World) : CmpLays Tryz.prog 24 #[] hdc 6 cfH blk off size w :=
  fun _ _ _ _ x y => closureH x y _
set_option maxHeartbeats 1000000 in
/-- slices.SortFunc on an owned row of holds -/
theorem sortH (W : World) (x : Add) (A : Option Addr) (cap : Nat) (L0 : List Hd) (hk : (L0.map Hd.key).Nodup) (ho : Own W x 29 6 (.slice A L0.length cap) L0.length (hdl L0)) (hl : L0.length < 4611686018427387904) :
    Calls Tryz.prog 23 #[.slice A L0.length cap, .func (.func 24) #[] #[]] (ext W x) fun e w' => e = .returned (.tuple #[]) ∧ ∃ x' L, w' = ext W x' ∧ L.Perm L0 ∧ SrtH L ∧ Own W x' 29 6 (.slice A L0.length cap) L0.length (hdl L) := by
  rcases Nat.eq_zero_or_pos L0.length with h0 | h0
  · obtain rfl : L0 = [] := List.eq_nil_of_length_eq_zero h0
    have h := AnyF.slices_SortFunc_none Tryz.laysSH A cap (.func (.func 24) #[] #[]) (ext W x)
    change Calls Tryz.prog 23 _ _ _ at h
    refine h.mono ?_
    rintro e w' ⟨rfl, rfl⟩
    exact ⟨rfl, x, [], rfl, List.Perm.refl _, List.Pairwise.nil, ho⟩
  · obtain ⟨g, rfl, _⟩ := Own.at ho h0
    have hlen : L0.length = L0.toArray.size := by simp
    have hF := flatK_toList hdc 6 (fun _ => rfl) L0.toArray
    rw [show L0.toArray.toList = L0 from by simp] at hF
    have hH : HoldsK hdc 6 (ext W x) g 0 L0.toArray := holds_own ho _ hF
    have eg : ∀ args w, (callFunc 24 args).run Tryz.prog w = .ok (.enter 24 args) w := enters_of Tryz.func24 (by kernel_rfl) rfl
    have h := AnyQ.slices_SortFunc Tryz.laysSH 6 Tryz.isAgg29 Tryz.sizeOf29 hdc (fun _ => rfl) (fun e v hv => oneCell_hdc e v hv) cfH swoH 24 #[] g 0 cap L0.toArray (ext W x) eg (cmpH g 0 L0.toArray.size (ext W x)) hH (ho.lt g rfl).2 (by simpa using hl)
    change Calls Tryz.prog 23 _ _ _ at h
    rw [hlen]
    refine h.mono ?_
    rintro e w' ⟨rfl, d', m, os, hp, hs, rfl⟩
    refine ⟨rfl, ?_⟩
    have hsz : d'.size = L0.toArray.size := hp.1
    obtain ⟨x', hx', ho'⟩ := own_sorted ho (flatK hdc 6 d') (by rw [size_flatK, hsz, hlen]) m os
    have hpm : d'.toList.Perm L0 := by
      have h1 := hp.2.2
      rw [Array.extract_eq_self_of_le (by omega), Array.extract_eq_self_of_le (Nat.le_refl _)] at h1
      simpa using h1
    refine ⟨x', d'.toList, hx', hpm, ?_, ?_⟩
    · have hn : (d'.toList.map Hd.key).Nodup := (hpm.map Hd.key).nodup_iff.2 hk
      refine List.pairwise_iff_getElem.2 fun i j hi hj hij => ?_
      have := hs i j (Nat.zero_le _) hij (by rw [← hsz]; simpa using hj)
      have hi' : i < d'.size := by simpa using hi
      have hj' : j < d'.size := by simpa using hj
      rw [getElem!_pos d' i hi', getElem!_pos d' j hj', ltH] at this
      simp only [Array.getElem_toList]
      refine ltK_total this fun e => ?_
      have h1 : (d'.toList.map Hd.key)[i]'(by simpa using hi') = (d'.toList.map Hd.key)[j]'(by simpa using hj') := by simpa using e.symm
      have := (List.getElem_inj hn).1 h1
      omega
    · rw [show hdl d'.toList = (flatK hdc 6 d').toList from (flatK_toList hdc 6 (fun _ => rfl) d').symm, ← hlen]
      exact ho'
/-- what the loop over a map has collected -/
structure Col (D : DataW Value) (left : Lit → Bool) (X : List Hd) : Prop where
  at_ : ∀ x ∈ X, ∀ z, D.atKey (.string x.key) z = .held (hag x)
  nod : (X.map Hd.key).Nodup
  mem : ∀ k : List UInt8, (X.any fun x => decide (x.key = k)) = (Maps.has D (.string k) && !left (.string k))
theorem hag_inj {a b : Hd} (h : hag a = hag b) : a = b := by
  obtain ⟨an, at_, ⟨⟨a1, a2⟩, a3, a4⟩⟩ := a
  obtain ⟨bn, bt, ⟨⟨b1, b2⟩, b3, b4⟩⟩ := b
  simp only [hag, Value.agg.injEq, Array.mk.injEq, List.cons.injEq, Value.string.injEq, Value.int.injEq, true_and, and_true] at h
  obtain ⟨rfl, rfl, rfl, rfl, rfl, rfl⟩ := h
  rfl
theorem col_perm {D : DataW Value} {left : Lit → Bool} {X l : List Hd} (c : Col D left X) (m : MpH D l) (hn : (l.map Hd.key).Nodup) (hl : ∀ k, left k = false) : X.Perm l := by
  have n1 : X.Nodup := List.Pairwise.of_map Hd.key (fun a b h e => h (by rw [e])) c.nod
  have n2 : l.Nodup := List.Pairwise.of_map Hd.key (fun a b h e => h (by rw [e])) hn
  have hk : ∀ k : List UInt8, (X.any fun x => decide (x.key = k)) = l.any fun x => decide (x.key = k) := fun k => by
    rw [c.mem, m.has, hl, Bool.not_false, Bool.and_true]
  have hv : ∀ x ∈ X, ∀ y ∈ l, x.key = y.key → x = y := fun x hx y hy e => by
    have h1 := c.at_ x hx (.held (.bool true))
    have h2 := m.at_ y hy (.held (.bool true))
    rw [e, h2] at h1
    injection h1 with h1
    exact (hag_inj h1).symm
  refine (List.perm_ext_iff_of_nodup n1 n2).2 fun a => ⟨fun ha => ?_, fun ha => ?_⟩
  · have h1 : (l.any fun x => decide (x.key = a.key)) = true := by rw [← hk]; exact List.any_eq_true.2 ⟨a, ha, decide_eq_true rfl⟩
    obtain ⟨y, hy, he⟩ := List.any_eq_true.1 h1
    rw [hv a ha y hy (of_decide_eq_true he).symm]
    exact hy
  · have h1 : (X.any fun x => decide (x.key = a.key)) = true := by rw [hk]; exact List.any_eq_true.2 ⟨a, ha, decide_eq_true rfl⟩
    obtain ⟨y, hy, he⟩ := List.any_eq_true.1 h1
    rw [← hv y hy a ha (of_decide_eq_true he)]
    exact hy
theorem Col.start (D : DataW Value) : Col D (Maps.has D) [] := ⟨fun x hx => (by cases hx), List.nodup_nil, fun k => by simp⟩
theorem Col.snoc {D : DataW Value} {left : Lit → Bool} {X l : List Hd} (c : Col D left X) (m : MpH D l) {h : Hd} (hl : left (.string h.key) = true) (hh : Maps.has D (.string h.key) = true) (ha : ∀ z, D.atKey (.string h.key) z = .held (hag h)) : Col D (fun z => left z && !z.sameKey (.string h.key)) (X ++ [h]) := by
  refine ⟨fun x hx => ?_, ?_, fun k => ?_⟩
  · rcases List.mem_append.1 hx with hx | hx
    · exact c.at_ x hx
    · obtain rfl := List.mem_singleton.1 hx
      exact ha
  · rw [List.map_append]
    refine List.nodup_append.2 ⟨c.nod, by simp, fun a h1 b h2 e => ?_⟩
    obtain ⟨x, hx, rfl⟩ := List.mem_map.1 h1
    simp only [List.map_cons, List.map_nil, List.mem_singleton] at h2
    subst h2
    have h3 : (X.any fun y => decide (y.key = h.key)) = true := List.any_eq_true.2 ⟨x, hx, decide_eq_true e⟩
    rw [c.mem, hl] at h3
    simp at h3
  · rw [List.any_append, c.mem, List.any_cons, List.any_nil, Bool.or_false]
    by_cases hk : h.key = k
    · subst hk
      rw [hh, hl, show (Lit.string h.key).sameKey (.string h.key) = true from WideAt.sameKey_self (by trivial)]
      simp
    · rw [show (Lit.string k).sameKey (.string h.key) = false from sameKey_ne (by simpa using fun e => hk e.symm), decide_eq_false hk]
      simp


/-- the sorted list of a map is returned -/
def StP (w : World) (l : List Hd) (e : Ending) (w' : World) : Prop := ∃ (A : Option Addr) (c : Nat) (L : List Hd), e = .returned (.slice A l.length c) ∧ Ext w w' ∧ Rd w' 6 A l.length (hdl L) ∧ L.Perm l ∧ SrtH L
set_option maxRecDepth 100000 in
set_option maxHeartbeats 8000000 in
theorem sorted_any (b nb : Nat) (D : DataW Value) (l : List Hd) (w : World) (hown : w.ownsMap Tryz.prog 9 heldR b nb D) (hM : MpH D l) (hn : (l.map Hd.key).Nodup) (nl : l.length ≤ 1048576) (nnb : nb ≤ 1048576) :
    Calls Tryz.prog 14 #[.map (some b)] w (StP w l) := by
  have hbl := hown.lt
  have HM := Lib.hid hM
  have HN := Lib.hid hn
  have HB := Lib.hid hbl
  clear hM hn
  unfold StP
  go_enter Tryz.func14, Tryz.ntmps14
  go_wp2_with (at_range; refine wpList_range_own _ rfl _ 39 rfl 9 29 keyTH Tryz.underlying39 heldR b nb D rfl hown ?_; intro w0 hrg0 hg0 hs0)
  go_frame
  have hE0 : Ext w w0 := Below.grown (Ext.refl' w) hg0 (Nat.le_refl _) (fun j hj => by cases hj)
  clear hown hg0 hs0
  obtain ⟨r, hr⟩ : ∃ r, w.heap.size = r := ⟨_, rfl⟩
  have HR := Lib.hid hr
  rw [hr] at hrg0 ⊢
  go_loopw [3] (fun s3 wr => ∃ (X : List Hd) (left : Lit → Bool) (cnt : Nat), wr.ranges Tryz.prog 9 heldR b r nb D left cnt ∧ wr.ownsRow w.heap.size 29 6 s3 X.length (hdl X) ∧ Ext w wr ∧ Hid (Col D left X) ∧ X.length + cnt ≤ 1048576) (fun _ wr => wr.rangeLeft b r)
  case atStart =>
    have hsz : Maps.size D ≤ nb := hrg0.owns.size_le
    exact ⟨[], _, _, hrg0, World.ownsRow_nil _ _ _ _, hE0, Lib.hid (Col.start D), by simp; omega⟩
  case round =>
    obtain ⟨X, left, cnt, hrg, hown, hE, HC, hcl⟩ := hrel
    go_wp2_with (at_next; refine wpList_next_ranges _ rfl _ rfl 9 keyTH heldR (fun s : ByteArray => .string s) (fun v : Value => v) (fun key kl h => by obtain ⟨x, hx, _⟩ := Maps.keyOf_str Tryz.underlying9 h; exact ⟨_, hx⟩) (fun v y _ => ⟨v, rfl⟩) b r nb D left cnt rfl hrg ?_ ?_)
    · intro hc0 hl0
      obtain ⟨A7, c7, rfl, hA7, _⟩ := World.ownsRow.form' hown
      have hp := col_perm HC.out HM.out HN.out hl0
      have hlen := hp.length_eq
      obtain ⟨x, rfl⟩ := hE.get
      have HS := Lib.hid (sortH w x A7 c7 X HC.out.nod hown (by omega))
      have HP := Lib.hid hp
      have HL := Lib.hid hlen
      clear hrg hown hE HC hp hlen hl0
      go_wp2_with fail
      refine HS.out.mono ?_
      rintro e w1 ⟨rfl, x1, L, rfl, hL1, hL2, ho1⟩
      have HRd := Lib.hid (Rd.of_own ho1)
      have HL1 := Lib.hid hL1
      have HL2 := Lib.hid hL2
      clear hL1 hL2 ho1
      go_wp2
      go_ret
      rw [← HL.out]
      exact ⟨A7, c7, L, rfl, Ext.ex w x1, HRd.out, HL1.out.trans HP.out, HL2.out⟩
    · intro x v kl yd yp w1 cnt1 hkx hlx hv hat hrg1 hlt hg1 hs1 hen
      obtain ⟨x', hx', rfl, hlen⟩ := Maps.keyOf_str Tryz.underlying9 hkx
      have hxd : x.data.toList = x' := by
        have hx' : Value.string x = Value.string ⟨x'.toArray⟩ := hx'
        injection hx' with hx'
        rw [hx']
      subst hxd
      have hin := World.ranges.has_left hrg keyTH hlx
      obtain ⟨h, hh, hk⟩ : ∃ h ∈ l, h.key = x.data.toList := by
        have h1 := hin
        rw [HM.out.has] at h1
        obtain ⟨h, hh, hk⟩ := List.any_eq_true.1 h1
        exact ⟨h, hh, of_decide_eq_true hk⟩
      obtain rfl : x = h.nm := ba_ext hk.symm
      have hah := HM.out.at_ h hh
      obtain rfl : v = hag h := by
        have h1 := hah (.held v)
        have h2 := hat (.held v)
        have hvd : DataW.held v = yd := by have h := hv; simp [heldR] at h; exact h.1
        rw [show (Lit.string h.key) = .string h.nm.data.toList from rfl, h2, ← hvd] at h1
        injection h1
      have HC2 := Lib.hid (HC.out.snoc HM.out (h := h) hlx hin hah)
      have hE1 : Ext w w1 := Below.grown hE hg1 hE.size (fun j hj => by cases hj; have := HR.out; omega)
      have hown1 := own_keptH hown hg1 (World.ranges.iter hrg)
      have hrne : ∃ o : Obj, w1.heap[r]? = some o ∧ o.isCells = false := World.ranges.iter hrg1 r rfl
      have HLE := Lib.hid hrg.left_eq
      have hbne : ∃ o : Obj, w1.heap[b]? = some o ∧ o.isCells = false := map_cellsH hrg1.owns b rfl
      clear HC hrg hown hE hg1 hs1 hkx hlx hv hat hin hh hk hah
      have hXl : X.length + 1 ≤ 1048576 := by omega
      go_wp2_with (at_builtin; refine wpList_app _ rfl (.tmp 12) (.tmp 14) rfl elHd w (by repeat (first | exact Ext.refl' _ | assumption | apply Ext.ex' | apply Ext.al | apply Ext.drN | apply Ext.dr)) _ _ _ rfl (by repeat (first | exact hown1 | apply World.ownsRow.alloc)) _ 1 1 (hdc h) rfl (Rd.lit _ _ _ 1 6 rfl (by simp [size_ext])) (oneCell_hdc h) (by unfold maxLen; omega) (by omega) ?_; intro v' x' hown' hg'; have HOWN := Lib.hid hown'; have HG := Lib.hid hg'; clear hown' hg')
      have HRG := Lib.hid (((hrg1.alloc _).alloc _).kept HG.out (row_neH hown1 hbne) (row_neH hown1 hrne))
      go_roundw
      case rel => exact ⟨X ++ [h], _, cnt1, HRG.out, by rw [hdl_append, hdl_one, List.length_append]; exact HOWN.out, Ext.ex w x', HC2, by simp; omega⟩
      case measure => rw [HRG.out.left_eq, HLE.out]; exact hlt

end Go.Proofs.YtimhehnmmjgeaaaGreatDoor

namespace Go.Proofs.YtimhehnmmjgeaaaGreatDoor
open Go.RowKit Go.Maps Go.WideElems Go.ChangeMaps


def placeL (l : List Hd) (h : Hd) : List Hd := if placeE l h = 0 then insH l h else []
def relE (l : List Hd) (s : ByteArray) : Int := if hasH l s then 0 else 23
def relL (l : List Hd) (s : ByteArray) : List Hd := if hasH l s then remH l s else []
/-- an implication that no rule opens -/
def ImpH (p q : Prop) : Prop := p → q
/-- holds and an errno are returned -/
def HlQ (w : World) (l : List Hd) (f : Int) (e : Ending) (w' : World) : Prop := ∃ (A : Option Addr) (n c : Nat), e = .returned (.tuple #[.slice A n c, .int .i64 f]) ∧ Hid (l.length = n) ∧ Hid (Rd w' 6 A n (hdl l)) ∧ Ext w w'
theorem hz_val {D : DataW Value} {l : List Hd} (hM : MpH D l) (s : ByteArray) : ∃ V : Hd, ∀ v ps, heldR v = some (D.atKey (.string s.data.toList) (.held (.agg #[.string ⟨#[]⟩, .string ⟨#[]⟩, .int .i64 0, .int .i64 0, .int .i64 0, .int .i64 0])), ps) → v = hag V := by
  rcases hh : hasH l s with _ | _
  · refine ⟨⟨⟨#[]⟩, ⟨#[]⟩, ((0, 0), (0, 0))⟩, fun v ps hv => ?_⟩
    have h1 : Maps.has D (.string s.data.toList) = false := by rw [hM.at_name, hh]
    rw [atKey_of_not_has h1] at hv
    have h2 := congrArg (fun z => z.map Prod.fst) hv
    simp [heldR] at h2
    exact h2
  · obtain ⟨x, hx, he⟩ := hasH_iff.1 hh
    refine ⟨x, fun v ps hv => ?_⟩
    have h1 := hM.at_ x hx (.held (.agg #[.string ⟨#[]⟩, .string ⟨#[]⟩, .int .i64 0, .int .i64 0, .int .i64 0, .int .i64 0]))
    rw [show x.key = s.data.toList from by unfold Hd.key; rw [he]] at h1
    rw [h1] at hv
    have h2 := congrArg (fun z => z.map Prod.fst) hv
    simp [heldR] at h2
    exact h2
theorem srt_place {l L : List Hd} {h : Hd} (hs : SrtH l) (hn : hasH l h.nm = false) (hp : L.Perm (l ++ [h])) (hL : SrtH L) : L = insH l h :=
  srtH_same hL (insH_srt hs (hasH_no hn)) (hp.trans ((List.perm_append_comm (l₁ := l) (l₂ := [h])).trans (insH_perm l h).symm))
theorem nodup_snocH {l : List Hd} {h : Hd} (hs : SrtH l) (hn : hasH l h.nm = false) : ((l ++ [h]).map Hd.key).Nodup := by
  rw [List.map_append]
  refine List.nodup_append.2 ⟨hs.nodup, by simp, fun a h1 b h2 e => ?_⟩
  obtain ⟨x, hx, rfl⟩ := List.mem_map.1 h1
  simp only [List.map_cons, List.map_nil, List.mem_singleton] at h2
  subst h2
  exact hasH_no hn x hx (key_eq.1 e)


set_option maxRecDepth 100000 in
set_option maxHeartbeats 8000000 in
theorem place_any (A : Option Addr) (n c : Nat) (l : List Hd) (h : Hd) (w : World) (hn : l.length = n) (hA : Rd w 6 A n (hdl l)) (nl : n ≤ 1000) (hs : SrtH l) (hz : ∀ x ∈ l, x.nm.size ≤ maxLen) (h1 : h.nm.size ≤ maxLen) (h2 : h.tb.size ≤ maxLen) :
    Calls Tryz.prog 6 #[.slice A n c, hag h] w (HlQ w (placeL l h) (placeE l h)) := by
  have HIX := Lib.hid fun W (e : Ext w W) => index_any A n c l W hn (hA.ext e) (by omega) hs.nodup hz
  have H1 := Lib.hid fun W => tname_any h.nm W (by unfold maxLen at h1; omega)
  have H2 := Lib.hid fun W => tname_any h.tb W (by unfold maxLen at h2; omega)
  have H3 := Lib.hid fun W => tvalid_any h.r W
  have HK := Lib.hid (key_mkH h1)
  have HPE : Hid (placeE l h = if wordB h.nm && wordB h.tb && rvB h.r then (if hasH l h.nm then 10 else if 32 ≤ n then 5 else 0) else 8) := Lib.hid (by unfold placeE rightB; rw [hn])
  have HPL : Hid (placeE l h ≠ 0 → placeL l h = []) := Lib.hid fun e => if_neg e
  have HPZ : Hid (placeE l h = 0 → placeL l h = insH l h) := Lib.hid fun e => if_pos e
  have HS := Lib.hid hs
  have HN := Lib.hid hn
  clear hn hA hs hz h1 h2
  have HFI : Hid (ImpH (placeE l h = 0) (∀ W b D, W.ownsMap Tryz.prog 9 heldR b (n + 1) D → MpH D (l ++ [h]) → Calls Tryz.prog 14 #[.map (some b)] W fun e w' => ∃ (A : Option Addr) (c : Nat), e = .returned (.slice A (n + 1) c) ∧ Ext W w' ∧ Hid (Rd w' 6 A (n + 1) (hdl (placeL l h))))) := Lib.hid fun q0 W b D ho hm => by
    have q4 : hasH l h.nm = false := by
      have q1 := HPE.out
      rw [q0] at q1
      cases e : hasH l h.nm with
      | false => rfl
      | true =>
        exfalso
        rw [e, if_pos rfl] at q1
        split at q1 <;> omega
    refine Calls.mono (sorted_any b (n + 1) D (l ++ [h]) W ho hm (nodup_snocH HS.out q4) (by simp [HN.out]; omega) (by omega)) ?_
    rintro e w' ⟨A, c, L, rfl, hE, hR, hp, hL⟩
    have e1 : (l ++ [h]).length = n + 1 := by simp [HN.out]
    have e2 := srt_place HS.out q4 hp hL
    have e3 : placeL l h = insH l h := HPZ.out q0
    rw [e1] at hR ⊢
    exact ⟨A, c, rfl, hE, Lib.hid (by rw [e3, ← e2]; exact hR)⟩
  have HLEN : Hid (ImpH (placeE l h = 0) ((placeL l h).length = n + 1)) := Lib.hid fun e => by
    rw [HPZ.out e, (insH_perm l h).length_eq, List.length_cons, HN.out]
  obtain ⟨PL, hPL⟩ : ∃ PL, placeL l h = PL := ⟨_, rfl⟩
  obtain ⟨PE, hPE⟩ : ∃ PE, placeE l h = PE := ⟨_, rfl⟩
  rw [hPL] at HPL HPZ HFI HLEN ⊢
  rw [hPE] at HPE HPL HPZ HLEN HFI ⊢
  obtain ⟨hb2, hhb⟩ : ∃ b, hasH l h.nm = b := ⟨_, rfl⟩
  rw [hhb] at HPE
  have HHH := Lib.hid hhb
  clear hPL hPE hhb
  unfold HlQ IxP at *
  go_enter Tryz.func6, Tryz.ntmps6
  go_wp2_with fail
  refine Calls.mono (HIX.out _ (by repeat (first | exact Ext.refl' _ | assumption | apply Ext.ex' | apply Ext.al | apply Ext.drN | apply Ext.dr))) ?_
  rintro e w1 ⟨b, D, rfl, hb, hown, hM, hE1⟩
  rw [HN.out] at hown
  have HM := Lib.hid hM
  obtain ⟨x1, rfl⟩ := hE1.get
  obtain ⟨V, hV⟩ := hz_val hM h.nm
  have HVV := Lib.hid hV
  have HHB := Lib.hid (hM.at_name h.nm)
  have hkey := HK.out
  have hown1 := hown
  have hbw : w.heap.size ≤ b := by simp only [World.size_alloc] at hb; omega
  clear hE1 HIX hM hV hb
  have HM2 : Hid (ImpH (hb2 = false) (MpH (D.put (.string h.nm.data.toList) (.held (hag h))) (l ++ [h]))) := Lib.hid fun e => HM.out.put fun y hy e2 => hasH_no (HHH.out.trans e) y hy (key_eq.1 e2)
  rw [HHH.out] at HHB
  clear HM
  go_wp2_with (first | (at_lookup; refine wpList_lookup_own_ok _ rfl _ _ 39 rfl 9 29 keyTH Tryz.underlying39 heldR (z := .agg #[.string ⟨#[]⟩, .string ⟨#[]⟩, .int .i64 0, .int .i64 0, .int .i64 0, .int .i64 0]) (Tryz.zeroValue29 _) (.held (.agg #[.string ⟨#[]⟩, .string ⟨#[]⟩, .int .i64 0, .int .i64 0, .int .i64 0, .int .i64 0])) [] rfl b n D rfl hown1 (.string h.nm) (.string h.nm.data.toList) rfl hkey ?_; intro v ps hv; have hv2 := HVV.out v ps hv; clear hv; subst hv2))
  obtain ⟨a1, ha1⟩ : ∃ b, wordB h.nm = b := ⟨_, rfl⟩
  obtain ⟨a2, ha2⟩ : ∃ b, wordB h.tb = b := ⟨_, rfl⟩
  obtain ⟨a3, ha3⟩ : ∃ b, rvB h.r = b := ⟨_, rfl⟩
  rw [ha1] at H1 HPE
  rw [ha2] at H2 HPE
  rw [ha3] at H3 HPE
  clear ha1 ha2 ha3
  rw [HHB.out]
  refine (H1.out _).mono ?_
  rintro e w1 ⟨rfl, hb1⟩
  obtain ⟨x2, rfl⟩ := hb1.get
  clear hb1 H1
  cases a1
  · obtain rfl : PE = 8 := by have := HPE.out; simpa using this
    obtain rfl : PL = [] := HPL.out (by decide)
    go_wp2
    go_ret2
    exact ⟨none, 0, 0, rfl, Lib.hid rfl, Lib.hid Rd.nil, by repeat (first | exact Ext.refl' _ | assumption | apply Ext.ex' | apply Ext.al | apply Ext.drN | apply Ext.dr)⟩
  go_wp2_with fail
  refine (H2.out _).mono ?_
  rintro e w1 ⟨rfl, hb1⟩
  obtain ⟨x3, rfl⟩ := hb1.get
  clear hb1 H2
  cases a2
  · obtain rfl : PE = 8 := by have := HPE.out; simpa using this
    obtain rfl : PL = [] := HPL.out (by decide)
    go_wp2
    go_ret2
    exact ⟨none, 0, 0, rfl, Lib.hid rfl, Lib.hid Rd.nil, by repeat (first | exact Ext.refl' _ | assumption | apply Ext.ex' | apply Ext.al | apply Ext.drN | apply Ext.dr)⟩
  go_wp2_with fail
  refine (H3.out _).mono ?_
  rintro e w1 ⟨rfl, hb1⟩
  obtain ⟨x4, rfl⟩ := hb1.get
  clear hb1 H3
  cases a3
  · obtain rfl : PE = 8 := by have := HPE.out; simpa using this
    obtain rfl : PL = [] := HPL.out (by decide)
    go_wp2
    go_ret2
    exact ⟨none, 0, 0, rfl, Lib.hid rfl, Lib.hid Rd.nil, by repeat (first | exact Ext.refl' _ | assumption | apply Ext.ex' | apply Ext.al | apply Ext.drN | apply Ext.dr)⟩
  cases hb2
  case true =>
    obtain rfl : PE = 10 := by have := HPE.out; simpa using this
    obtain rfl : PL = [] := HPL.out (by decide)
    go_wp2
    go_ret2
    exact ⟨none, 0, 0, rfl, Lib.hid rfl, Lib.hid Rd.nil, by repeat (first | exact Ext.refl' _ | assumption | apply Ext.ex' | apply Ext.al | apply Ext.drN | apply Ext.dr)⟩
  by_cases h32 : 32 ≤ n
  · obtain rfl : PE = 5 := by have := HPE.out; simpa [h32] using this
    obtain rfl : PL = [] := HPL.out (by decide)
    have h32z : (32 : Int) ≤ (n : Int) := by omega
    go_wp2
    go_ret2
    exact ⟨none, 0, 0, rfl, Lib.hid rfl, Lib.hid Rd.nil, by repeat (first | exact Ext.refl' _ | assumption | apply Ext.ex' | apply Ext.al | apply Ext.drN | apply Ext.dr)⟩
  obtain rfl : PE = 0 := by have := HPE.out; simpa [h32] using this
  have h32z : ¬ (32 : Int) ≤ (n : Int) := by omega
  have HFI2 := Lib.hid (HFI.out (by first | trivial | rfl))
  have HLEN2 := Lib.hid (HLEN.out (by first | trivial | rfl))
  have HM3 := Lib.hid (HM2.out (by first | trivial | rfl))
  go_wp2_with (at_mapUpdate; refine wpList_mapUpdate_own _ rfl _ _ _ 39 rfl 9 29 keyTH Tryz.underlying39 heldR b n D rfl (hown.kept (ext_grown (show Ext (ext (w.alloc (.cells #[.string h.nm, .string h.tb, .int .i64 h.r.1.1, .int .i64 h.r.1.2, .int .i64 h.r.2.1, .int .i64 h.r.2.2] 29)) x1) _ from by repeat (first | exact Ext.refl' _ | assumption | apply Ext.ex' | apply Ext.al | apply Ext.drN | apply Ext.dr))) (by simp)) (by unfold maxLen; omega) (.string h.nm) (hag h) (.string h.nm.data.toList) rfl rfl hkey (.held (hag h)) [] rfl ?_; intro w2 hown2 hg2)
  have hE2 : Ext w w2 := Below.grown (show Ext w _ from by repeat (first | exact Ext.refl' _ | assumption | apply Ext.ex' | apply Ext.al | apply Ext.drN | apply Ext.dr)) hg2 (by simp [size_ext]; omega) (fun j hj => by cases hj; exact hbw)
  obtain ⟨x5, rfl⟩ := hE2.get
  go_wp2_with fail
  refine Calls.mono (HFI2.out _ _ _ hown2 HM3.out) ?_
  rintro e w3 ⟨A3, c3, rfl, hb3, HR3⟩
  obtain ⟨x6, rfl⟩ := hb3.get
  clear hb3 hown2 hg2
  go_wp2
  go_ret2
  exact ⟨A3, n + 1, c3, rfl, HLEN2, HR3, by repeat (first | exact Ext.refl' _ | assumption | apply Ext.ex' | apply Ext.al | apply Ext.drN | apply Ext.dr)⟩


theorem remH_len (l : List Hd) (s : ByteArray) : (remH l s).length ≤ l.length := List.length_filter_le _ _
set_option maxRecDepth 100000 in
set_option maxHeartbeats 8000000 in
theorem release_any (A : Option Addr) (n c : Nat) (l : List Hd) (s : ByteArray) (w : World) (hn : l.length = n) (hA : Rd w 6 A n (hdl l)) (nl : n ≤ 1000) (hs : SrtH l) (hz : ∀ x ∈ l, x.nm.size ≤ maxLen) (h1 : s.size ≤ maxLen) :
    Calls Tryz.prog 4 #[.slice A n c, .string s] w (HlQ w (relL l s) (relE l s)) := by
  have HIX := Lib.hid fun W (e : Ext w W) => index_any A n c l W hn (hA.ext e) (by omega) hs.nodup hz
  have HK := Lib.hid (key_mkH h1)
  have HS := Lib.hid hs
  have HN := Lib.hid hn
  have hrl : (remH l s).length ≤ n := by rw [← hn]; exact remH_len l s
  have HFI : Hid (∀ W b D, W.ownsMap Tryz.prog 9 heldR b n D → MpH D (remH l s) → Calls Tryz.prog 14 #[.map (some b)] W fun e w' => ∃ (A : Option Addr) (c : Nat), e = .returned (.slice A (remH l s).length c) ∧ Ext W w' ∧ Hid (Rd w' 6 A (remH l s).length (hdl (remH l s)))) := Lib.hid fun W b D ho hm => by
    refine Calls.mono (sorted_any b n D (remH l s) W ho hm (remH_srt HS.out s).nodup (by omega) (by omega)) ?_
    rintro e w' ⟨A, c, L, rfl, hE, hR, hp, hL⟩
    have e2 : L = remH l s := srtH_same hL (remH_srt HS.out s) hp
    exact ⟨A, c, rfl, hE, Lib.hid (by rw [← e2]; rw [← e2] at hR; exact hR)⟩
  clear hn hA hs hz h1
  rcases hh : hasH l s with _ | _
  · have e1 : relE l s = 23 := by unfold relE; rw [hh]; rfl
    have e2 : relL l s = [] := by unfold relL; rw [hh]; rfl
    rw [e1, e2]
    clear e1 e2
    have HHH := Lib.hid hh
    clear hh HFI
    unfold HlQ IxP at *
    go_enter Tryz.func4, Tryz.ntmps4
    go_wp2_with fail
    refine Calls.mono (HIX.out _ (by repeat (first | exact Ext.refl' _ | assumption | apply Ext.ex' | apply Ext.al | apply Ext.drN | apply Ext.dr))) ?_
    rintro e w1 ⟨b, D, rfl, hb, hown, hM, hE1⟩
    rw [HN.out] at hown
    obtain ⟨x1, rfl⟩ := hE1.get
    obtain ⟨V, hV⟩ := hz_val hM s
    have HVV := Lib.hid hV
    have HHB := Lib.hid ((hM.at_name s).trans HHH.out)
    have hkey := HK.out
    have hown1 := hown
    clear hE1 HIX hM hV hb
    go_wp2_with (first | (at_lookup; refine wpList_lookup_own_ok _ rfl _ _ 39 rfl 9 29 keyTH Tryz.underlying39 heldR (z := .agg #[.string ⟨#[]⟩, .string ⟨#[]⟩, .int .i64 0, .int .i64 0, .int .i64 0, .int .i64 0]) (Tryz.zeroValue29 _) (.held (.agg #[.string ⟨#[]⟩, .string ⟨#[]⟩, .int .i64 0, .int .i64 0, .int .i64 0, .int .i64 0])) [] rfl b n D rfl hown1 (.string s) (.string s.data.toList) rfl hkey ?_; intro v ps hv; have hv2 := HVV.out v ps hv; clear hv; subst hv2; rw [HHB.out]))
    go_ret2
    exact ⟨none, 0, 0, rfl, Lib.hid rfl, Lib.hid Rd.nil, by repeat (first | exact Ext.refl' _ | assumption | apply Ext.ex' | apply Ext.al | apply Ext.drN | apply Ext.dr)⟩
  · have e1 : relE l s = 0 := by unfold relE; rw [hh]; rfl
    have e2 : relL l s = remH l s := by unfold relL; rw [hh]; rfl
    rw [e1, e2]
    clear e1 e2
    have HHH := Lib.hid hh
    clear hh
    obtain ⟨RL, hRL⟩ : ∃ RL, remH l s = RL := ⟨_, rfl⟩
    have HRL := Lib.hid hRL
    rw [hRL] at HFI hrl ⊢
    clear hRL
    obtain ⟨m, hm⟩ : ∃ m, RL.length = m := ⟨_, rfl⟩
    have HMN := Lib.hid hm
    rw [hm] at HFI hrl
    clear hm
    unfold HlQ IxP at *
    go_enter Tryz.func4, Tryz.ntmps4
    go_wp2_with fail
    refine Calls.mono (HIX.out _ (by repeat (first | exact Ext.refl' _ | assumption | apply Ext.ex' | apply Ext.al | apply Ext.drN | apply Ext.dr))) ?_
    rintro e w1 ⟨b, D, rfl, hb, hown, hM, hE1⟩
    rw [HN.out] at hown
    obtain ⟨x1, rfl⟩ := hE1.get
    obtain ⟨V, hV⟩ := hz_val hM s
    have HVV := Lib.hid hV
    have HHB := Lib.hid ((hM.at_name s).trans HHH.out)
    have HMD : Hid (MpH (D.del (.string s.data.toList)) RL) := Lib.hid (by rw [← HRL.out]; exact hM.del s)
    have hkey := HK.out
    have hown1 := hown
    have hbw : w.heap.size ≤ b := by simpa using hb
    clear hE1 HIX hM hV hb
    go_wp2_with (first | (at_lookup; refine wpList_lookup_own_ok _ rfl _ _ 39 rfl 9 29 keyTH Tryz.underlying39 heldR (z := .agg #[.string ⟨#[]⟩, .string ⟨#[]⟩, .int .i64 0, .int .i64 0, .int .i64 0, .int .i64 0]) (Tryz.zeroValue29 _) (.held (.agg #[.string ⟨#[]⟩, .string ⟨#[]⟩, .int .i64 0, .int .i64 0, .int .i64 0, .int .i64 0])) [] rfl b n D rfl hown1 (.string s) (.string s.data.toList) rfl hkey ?_; intro v ps hv; have hv2 := HVV.out v ps hv; clear hv; subst hv2; rw [HHB.out]) | (at_delete; refine wpList_delete_own _ rfl _ _ 39 9 rfl 29 keyTH Tryz.underlying39 heldR b n D rfl (hown.kept (ext_grown (show Ext (ext w x1) _ from by repeat (first | exact Ext.refl' _ | assumption | apply Ext.ex' | apply Ext.al | apply Ext.drN | apply Ext.dr))) (by simp)) (.string s) (.string s.data.toList) rfl hkey ?_; intro w2 hown2 ht2))
    have hg2 := World.mapTurned.grown ht2
    have hE2 : Ext w w2 := Below.grown (show Ext w _ from by repeat (first | exact Ext.refl' _ | assumption | apply Ext.ex' | apply Ext.al | apply Ext.drN | apply Ext.dr)) hg2 (by simp [size_ext]; omega) (fun j hj => by cases hj; exact hbw)
    obtain ⟨x5, rfl⟩ := hE2.get
    go_wp2_with fail
    refine Calls.mono (HFI.out _ _ _ hown2 HMD.out) ?_
    rintro e w3 ⟨A3, c3, rfl, hb3, HR3⟩
    obtain ⟨x6, rfl⟩ := hb3.get
    clear hb3 hown2 hg2
    go_wp2
    go_ret2
    exact ⟨A3, m, c3, rfl, HMN, HR3, by repeat (first | exact Ext.refl' _ | assumption | apply Ext.ex' | apply Ext.al | apply Ext.drN | apply Ext.dr)⟩

end Go.Proofs.YtimhehnmmjgeaaaGreatDoor

namespace Go.Proofs.YtimhehnmmjgeaaaGreatDoor
open Go.RowKit


/-- where a row of the reference lies -/
def RowF (A : Option Addr) (n c : Nat) : Prop := (A = none ∧ n = 0 ∧ c = 0) ∨ ∃ g, A = some ⟨g, 0, none⟩ ∧ n ≤ c ∧ c ≤ maxLen
theorem own_rowF {w : World} {base e size n c : Nat} {A : Option Addr} {xs : List Value} (h : w.ownsRow base e size (.slice A n c) n xs) : RowF A n c := by
  rcases h.2 with ⟨h', h0⟩ | ⟨g, cap, cur, h', hb, hg, hnc, hcm, _⟩
  · simp only [Value.slice.injEq] at h'
    exact .inl ⟨h'.1, h0, h'.2.2⟩
  · simp only [Value.slice.injEq] at h'
    obtain ⟨rfl, _, rfl⟩ := h'
    exact .inr ⟨g, rfl, hnc, hcm⟩
/-- holds and an errno are returned -/
def HlR (w : World) (l : List Hd) (f : Int) (e : Ending) (w' : World) : Prop := ∃ (A : Option Addr) (n c : Nat), e = .returned (.tuple #[.slice A n c, .int .i64 f]) ∧ Hid (l.length = n) ∧ Hid (Rd w' 6 A n (hdl l)) ∧ Hid (RowF A n c) ∧ Ext w w'
theorem hdl_take (l : List Hd) (k : Nat) (hk : k ≤ l.length) : (hdl l).take (k * 6) = hdl (l.take k) := by
  have e : hdl l = hdl (l.take k) ++ hdl (l.drop k) := by rw [← hdl_append, List.take_append_drop]
  rw [e]
  have hl : (hdl (l.take k)).length = k * 6 := by rw [hdl_length, List.length_take, Nat.min_eq_left hk]
  rw [← hl, List.take_left]
theorem hdl_drop (l : List Hd) (k : Nat) (hk : k ≤ l.length) : (hdl l).drop (k * 6) = hdl (l.drop k) := by
  have e : hdl l = hdl (l.take k) ++ hdl (l.drop k) := by rw [← hdl_append, List.take_append_drop]
  rw [e]
  have hl : (hdl (l.take k)).length = k * 6 := by rw [hdl_length, List.length_take, Nat.min_eq_left hk]
  rw [← hl, List.drop_left]
theorem Rd.takeH {w : World} {A : Option Addr} {l : List Hd} {n : Nat} (h : Rd w 6 A n (hdl l)) (hn : l.length = n) {k : Nat} (hk : k ≤ n) : Rd w 6 A k (hdl (l.take k)) := by
  refine ⟨by rw [hdl_length, List.length_take]; omega, fun hp => ?_⟩
  obtain ⟨b, o, hA, hb, hc⟩ := h.2 (by omega)
  refine ⟨b, o, hA, hb, fun j u hu => hc j u ?_⟩
  rw [← hdl_take l k (by omega)] at hu
  rw [List.getElem?_take] at hu
  split at hu
  · exact hu
  · cases hu
theorem Rd.dropH {w : World} {b o : Nat} {l : List Hd} {n : Nat} (h : Rd w 6 (some ⟨b, o, none⟩) n (hdl l)) (hn : l.length = n) {k : Nat} (hk : k ≤ n) : Rd w 6 (some ⟨b, o + k * 6, none⟩) (n - k) (hdl (l.drop k)) := by
  refine ⟨by rw [hdl_length, List.length_drop]; omega, fun hp => ?_⟩
  obtain ⟨b', o', hA, hb, hc⟩ := h.2 (by omega)
  cases hA
  refine ⟨b, o + k * 6, rfl, hb, fun j u hu => ?_⟩
  rw [← hdl_drop l k (by omega), List.getElem?_drop] at hu
  have := hc _ u hu
  rwa [← Nat.add_assoc] at this
theorem tw_at {p : Hd → Bool} {l : List Hd} {k : Nat} (h1 : ∀ j q, j < k → l[j]? = some q → p q = true) (h2 : ∀ q, l[k]? = some q → p q = false) : l.takeWhile p = l.take k ∧ l.dropWhile p = l.drop k := by
  induction l generalizing k with
  | nil => simp
  | cons x l ih =>
    cases k with
    | zero =>
      have := h2 x rfl
      simp [List.takeWhile_cons, List.dropWhile_cons, this]
    | succ k =>
      have hx := h1 0 x (by omega) rfl
      have := ih (k := k) (fun j q hj hq => h1 (j + 1) q (by omega) (by simpa using hq)) (fun q hq => h2 q (by simpa using hq))
      simp [List.takeWhile_cons, List.dropWhile_cons, hx, this.1, this.2]
theorem finH_neg {l : List Hd} {s : ByteArray} (h : hasH l s = false) : finH l s = -1 := finH_no fun j q _ hq => hasH_no h q (List.mem_of_getElem? hq)
theorem finH_pos {l : List Hd} {s : ByteArray} (h : hasH l s = true) : ∃ k : Nat, finH l s = k ∧ k < l.length ∧ ∃ q, l[k]? = some q ∧ q.nm = s := by
  unfold finH
  cases hf : l.findIdx? fun x => decide (x.nm = s) with
  | some k =>
    obtain ⟨hk, he, _⟩ := List.findIdx?_eq_some_iff_getElem.1 hf
    exact ⟨k, rfl, hk, l[k], List.getElem?_eq_getElem hk, by simpa using he⟩
  | none =>
    exfalso
    obtain ⟨x, hx, he⟩ := hasH_iff.1 h
    have := List.findIdx?_eq_none_iff.1 hf x hx
    simp [he] at this


set_option maxRecDepth 100000 in
set_option maxHeartbeats 8000000 in
theorem rplace_any (A : Option Addr) (n c : Nat) (l : List Hd) (h : Hd) (w : World) (hn : l.length = n) (hA : Rd w 6 A n (hdl l)) (hF : RowF A n c) (nl : n ≤ 1000) (h1 : h.nm.size ≤ maxLen) (h2 : h.tb.size ≤ maxLen) :
    Calls Tryz.prog 7 #[.slice A n c, hag h] w (HlR w (placeL l h) (placeE l h)) := by
  have H1 := Lib.hid fun W => rright_any h W (by unfold maxLen at h1; omega) (by unfold maxLen at h2; omega)
  have H2 := Lib.hid fun W (e : Ext w W) => rfind33_any A n c l h.nm W hn (hA.ext e) (by omega)
  have HPE : Hid (placeE l h = if rightB h then (if hasH l h.nm then 10 else if 32 ≤ n then 5 else 0) else 8) := Lib.hid (by unfold placeE; rw [hn])
  have HPL : Hid (placeE l h ≠ 0 → placeL l h = []) := Lib.hid fun e => if_neg e
  have HPZ : Hid (ImpH (placeE l h = 0) (placeL l h = l.takeWhile (fun x => ltK x.key h.key) ++ h :: l.dropWhile (fun x => ltK x.key h.key))) := Lib.hid fun e => if_pos e
  have HN := Lib.hid hn
  obtain ⟨PL, hPL⟩ : ∃ PL, placeL l h = PL := ⟨_, rfl⟩
  obtain ⟨PE, hPE⟩ : ∃ PE, placeE l h = PE := ⟨_, rfl⟩
  rw [hPL] at HPL HPZ ⊢
  rw [hPE] at HPE HPL HPZ ⊢
  obtain ⟨a1, ha1⟩ : ∃ b, rightB h = b := ⟨_, rfl⟩
  rw [ha1] at H1 HPE
  clear hPL hPE ha1
  unfold HlR
  cases a1
  · obtain rfl : PE = 8 := by have := HPE.out; simpa using this
    obtain rfl : PL = [] := HPL.out (by decide)
    go_enter Tryz.func7, Tryz.ntmps7
    go_wp2_with fail
    refine (H1.out _).mono ?_
    rintro e w1 ⟨rfl, hb1⟩
    obtain ⟨x1, rfl⟩ := hb1.get
    clear hb1 H1
    go_wp2
    go_ret2
    exact ⟨none, 0, 0, rfl, Lib.hid rfl, Lib.hid Rd.nil, Lib.hid (.inl ⟨rfl, rfl, rfl⟩), by repeat (first | exact Ext.refl' _ | assumption | apply Ext.ex' | apply Ext.al | apply Ext.drN | apply Ext.dr)⟩
  rcases hh : hasH l h.nm with _ | _
  case true =>
    obtain ⟨k0, hk0, _, _⟩ := finH_pos hh
    rw [hk0] at H2
    rw [hh] at HPE
    obtain rfl : PE = 10 := by have := HPE.out; simpa using this
    obtain rfl : PL = [] := HPL.out (by decide)
    have hkz : (0 : Int) ≤ (k0 : Int) := by omega
    go_enter Tryz.func7, Tryz.ntmps7
    go_wp2_with fail
    refine (H1.out _).mono ?_
    rintro e w1 ⟨rfl, hb1⟩
    obtain ⟨x1, rfl⟩ := hb1.get
    clear hb1 H1
    go_wp2_with fail
    refine (H2.out _ (by repeat (first | exact Ext.refl' _ | assumption | apply Ext.ex' | apply Ext.al | apply Ext.drN | apply Ext.dr))).mono ?_
    rintro e w1 ⟨rfl, hb1⟩
    obtain ⟨x2, rfl⟩ := hb1.get
    clear hb1 H2
    go_wp2
    go_ret2
    exact ⟨none, 0, 0, rfl, Lib.hid rfl, Lib.hid Rd.nil, Lib.hid (.inl ⟨rfl, rfl, rfl⟩), by repeat (first | exact Ext.refl' _ | assumption | apply Ext.ex' | apply Ext.al | apply Ext.drN | apply Ext.dr)⟩
  rw [finH_neg hh] at H2
  rw [hh] at HPE
  clear hh
  by_cases h32 : 32 ≤ n
  · obtain rfl : PE = 5 := by have := HPE.out; simpa [h32] using this
    obtain rfl : PL = [] := HPL.out (by decide)
    have h32z : (32 : Int) ≤ (n : Int) := by omega
    go_enter Tryz.func7, Tryz.ntmps7
    go_wp2_with fail
    refine (H1.out _).mono ?_
    rintro e w1 ⟨rfl, hb1⟩
    obtain ⟨x1, rfl⟩ := hb1.get
    clear hb1 H1
    go_wp2_with fail
    refine (H2.out _ (by repeat (first | exact Ext.refl' _ | assumption | apply Ext.ex' | apply Ext.al | apply Ext.drN | apply Ext.dr))).mono ?_
    rintro e w1 ⟨rfl, hb1⟩
    obtain ⟨x2, rfl⟩ := hb1.get
    clear hb1 H2
    go_wp2
    go_ret2
    exact ⟨none, 0, 0, rfl, Lib.hid rfl, Lib.hid Rd.nil, Lib.hid (.inl ⟨rfl, rfl, rfl⟩), by repeat (first | exact Ext.refl' _ | assumption | apply Ext.ex' | apply Ext.al | apply Ext.drN | apply Ext.dr)⟩
  obtain rfl : PE = 0 := by have := HPE.out; simpa [h32] using this
  have h32z : ¬ (32 : Int) ≤ (n : Int) := by omega
  have HPZ2 := Lib.hid (HPZ.out rfl)
  clear HPE HPL HPZ hn
  rcases hF with ⟨rfl, rfl, rfl⟩ | ⟨g, rfl, hnc, hcm⟩
  · have HL : Hid (PL = [h]) := Lib.hid (by
      rw [HPZ2.out, List.eq_nil_of_length_eq_zero HN.out]; rfl)
    clear HPZ2
    go_enter Tryz.func7, Tryz.ntmps7
    go_wp2_with fail
    refine (H1.out _).mono ?_
    rintro e w1 ⟨rfl, hb1⟩
    obtain ⟨x1, rfl⟩ := hb1.get
    clear hb1 H1
    go_wp2_with fail
    refine (H2.out _ (by repeat (first | exact Ext.refl' _ | assumption | apply Ext.ex' | apply Ext.al | apply Ext.drN | apply Ext.dr))).mono ?_
    rintro e w1 ⟨rfl, hb1⟩
    obtain ⟨x2, rfl⟩ := hb1.get
    clear hb1 H2
    go_wp2
    go_loop [6] (fun s6 => s6 = .int .i64 0) (fun _ => 0)
    case atStart => rfl
    case round =>
      subst hrel
      go_wp2
      go_quiet (fail)
      go_wp2_with (first | (at_builtin; refine wpList_app _ rfl (.tmp 35) (.tmp 38) rfl elHd (w.alloc (.cells #[.string h.nm, .string h.tb, .int .i64 h.r.1.1, .int .i64 h.r.1.2, .int .i64 h.r.2.1, .int .i64 h.r.2.2] 29)) (by repeat (first | exact Ext.refl' _ | assumption | apply Ext.ex' | apply Ext.al | apply Ext.drN | apply Ext.dr)) _ _ _ rfl (own_lit0' (w.alloc (.cells #[.string h.nm, .string h.tb, .int .i64 h.r.1.1, .int .i64 h.r.1.2, .int .i64 h.r.2.1, .int .i64 h.r.2.2] 29)) _ (by repeat (first | exact Ext.refl' _ | assumption | apply Ext.ex' | apply Ext.al | apply Ext.drN | apply Ext.dr)) _ _ (by first | rfl | simp [size_ext])) none 0 0 ([]) rfl (Rd.nil) (by intro u hu; cases hu) (by unfold maxLen; omega) (by omega) ?_; intro v35 y35 ho35 _; have HO1 := Lib.hid ho35; clear ho35) | (at_builtin; refine wpList_app _ rfl (.tmp 40) (.tmp 42) rfl elHd (w.alloc (.cells #[.string h.nm, .string h.tb, .int .i64 h.r.1.1, .int .i64 h.r.1.2, .int .i64 h.r.2.1, .int .i64 h.r.2.2] 29)) (by repeat (first | exact Ext.refl' _ | assumption | apply Ext.ex' | apply Ext.al | apply Ext.drN | apply Ext.dr)) _ _ _ rfl (by repeat (first | exact HO1.out | apply World.ownsRow.alloc | apply own_ext)) _ 1 1 (hdc h) rfl (Rd.lit _ _ _ 1 6 rfl (by simp [size_ext])) (oneCell_hdc h) (by unfold maxLen; omega) (by omega) ?_; intro v40 y40 ho40 _; have HO2 := Lib.hid ho40; clear ho40) | (at_builtin; refine wpList_app _ rfl (.tmp 44) (.tmp 47) rfl elHd (w.alloc (.cells #[.string h.nm, .string h.tb, .int .i64 h.r.1.1, .int .i64 h.r.1.2, .int .i64 h.r.2.1, .int .i64 h.r.2.2] 29)) (by repeat (first | exact Ext.refl' _ | assumption | apply Ext.ex' | apply Ext.al | apply Ext.drN | apply Ext.dr)) _ _ _ rfl (by repeat (first | exact HO2.out | apply World.ownsRow.alloc | apply own_ext)) none 0 0 ([]) rfl (Rd.nil) (by intro u hu; cases hu) (by unfold maxLen; omega) (by omega) ?_; intro v44 y44 ho44 _; have HO3 := Lib.hid ho44; clear ho44))
      go_ret2
      obtain ⟨A7, c7, rfl, _, _⟩ := Own.form HO3.out
      refine ⟨A7, 1, c7, rfl, Lib.hid (by rw [HL.out]; rfl), Lib.hid ?_, Lib.hid (own_rowF HO3.out), by repeat (first | exact Ext.refl' _ | assumption | apply Ext.ex' | apply Ext.al | apply Ext.drN | apply Ext.dr)⟩
      rw [HL.out, hdl_one]
      have := Rd.of_own HO3.out
      simpa using this
  · have HL2 := Lib.hid hcm
    go_enter Tryz.func7, Tryz.ntmps7
    go_wp2_with fail
    refine (H1.out _).mono ?_
    rintro e w1 ⟨rfl, hb1⟩
    obtain ⟨x1, rfl⟩ := hb1.get
    clear hb1 H1
    go_wp2_with fail
    refine (H2.out _ (by repeat (first | exact Ext.refl' _ | assumption | apply Ext.ex' | apply Ext.al | apply Ext.drN | apply Ext.dr))).mono ?_
    rintro e w1 ⟨rfl, hb1⟩
    obtain ⟨x2, rfl⟩ := hb1.get
    clear hb1 H2
    go_wp2
    go_loopw [6] (fun s6 wr => ∃ k : Nat, k ≤ n ∧ s6 = .int .i64 k ∧ Ext (w.alloc (.cells #[.string h.nm, .string h.tb, .int .i64 h.r.1.1, .int .i64 h.r.1.2, .int .i64 h.r.2.1, .int .i64 h.r.2.2] 29)) wr ∧ Hid (∀ j q, j < k → l[j]? = some q → ltK q.key h.key = true)) (fun s6 _ => n - (intOf s6).toNat)
    case atStart =>
      exact ⟨0, Nat.zero_le _, rfl, by repeat (first | exact Ext.refl' _ | assumption | apply Ext.ex' | apply Ext.al | apply Ext.drN | apply Ext.dr), Lib.hid fun j q hj => absurd hj (by omega)⟩
    case round =>
      obtain ⟨k, hk, rfl, hE, HJ⟩ := hrel
      obtain ⟨x, rfl⟩ := hE.get
      clear hE
      have HTK := Lib.hid (hA.takeH HN.out hk)
      have HDK := Lib.hid (by have := hA.dropH HN.out hk; rwa [Nat.zero_add] at this)
      have HX : Hid ((∀ q, l[k]? = some q → ltK q.key h.key = false) → PL = l.take k ++ h :: l.drop k) := Lib.hid fun e => by
        rw [HPZ2.out, (tw_at HJ.out e).1, (tw_at HJ.out e).2]
      have hnk : (hdl (l.drop k)).length = (n - k) * 6 := HDK.out.1
      by_cases hlt : k < n
      · obtain ⟨p, g2, oo, hp, hg2, hgl, c0, -⟩ := hA.hd HN.out hlt
        cases hg2
        rw [Nat.zero_add] at c0
        rcases hq : ltK p.key h.key with _ | _
        · have hbl : Op.bytesLess p.nm.toList h.nm.toList = false := by rw [bytesLess_eq, Lib.toList_data, Lib.toList_data]; exact hq
          have HPL := Lib.hid (HX.out fun q hq2 => by
            have : p = q := Option.some.inj (hp.symm.trans hq2)
            rw [← this]; exact hq)
          clear HX HJ hp hq HPZ2
          have hkz : (k : Int) < (n : Int) := by omega
          go_wp2
          go_quiet (fail)
          go_wp2_with (first | (at_builtin; refine wpList_app _ rfl (.tmp 35) (.tmp 38) rfl elHd (w.alloc (.cells #[.string h.nm, .string h.tb, .int .i64 h.r.1.1, .int .i64 h.r.1.2, .int .i64 h.r.2.1, .int .i64 h.r.2.2] 29)) (by repeat (first | exact Ext.refl' _ | assumption | apply Ext.ex' | apply Ext.al | apply Ext.drN | apply Ext.dr)) _ _ _ rfl (own_lit0' (w.alloc (.cells #[.string h.nm, .string h.tb, .int .i64 h.r.1.1, .int .i64 h.r.1.2, .int .i64 h.r.2.1, .int .i64 h.r.2.2] 29)) _ (by repeat (first | exact Ext.refl' _ | assumption | apply Ext.ex' | apply Ext.al | apply Ext.drN | apply Ext.dr)) _ _ (by first | rfl | simp [size_ext])) _ k _ (hdl (l.take k)) rfl (HTK.out.ext (by repeat (first | exact Ext.refl' _ | assumption | apply Ext.ex' | apply Ext.al | apply Ext.drN | apply Ext.dr))) (oneCell_hdl _) (by unfold maxLen; omega) (by omega) ?_; intro v35 y35 ho35 _; have HO1 := Lib.hid ho35; clear ho35) | (at_builtin; refine wpList_app _ rfl (.tmp 40) (.tmp 42) rfl elHd (w.alloc (.cells #[.string h.nm, .string h.tb, .int .i64 h.r.1.1, .int .i64 h.r.1.2, .int .i64 h.r.2.1, .int .i64 h.r.2.2] 29)) (by repeat (first | exact Ext.refl' _ | assumption | apply Ext.ex' | apply Ext.al | apply Ext.drN | apply Ext.dr)) _ _ _ rfl (by repeat (first | exact HO1.out | apply World.ownsRow.alloc | apply own_ext)) _ 1 1 (hdc h) rfl (Rd.lit _ _ _ 1 6 rfl (by simp [size_ext])) (oneCell_hdc h) (by unfold maxLen; omega) (by omega) ?_; intro v40 y40 ho40 _; have HO2 := Lib.hid ho40; clear ho40) | (at_builtin; refine wpList_app _ rfl (.tmp 44) (.tmp 47) rfl elHd (w.alloc (.cells #[.string h.nm, .string h.tb, .int .i64 h.r.1.1, .int .i64 h.r.1.2, .int .i64 h.r.2.1, .int .i64 h.r.2.2] 29)) (by repeat (first | exact Ext.refl' _ | assumption | apply Ext.ex' | apply Ext.al | apply Ext.drN | apply Ext.dr)) _ _ _ rfl (by repeat (first | exact HO2.out | apply World.ownsRow.alloc | apply own_ext)) _ (n - k) _ (hdl (l.drop k)) rfl (HDK.out.ext (by repeat (first | exact Ext.refl' _ | assumption | apply Ext.ex' | apply Ext.al | apply Ext.drN | apply Ext.dr))) (oneCell_hdl _) (by unfold maxLen; omega) (by omega) ?_; intro v44 y44 ho44 _; have HO3 := Lib.hid ho44; clear ho44))
          go_ret2
          obtain ⟨A7, c7, rfl, _, _⟩ := Own.form HO3.out
          have hpl : PL.length = k + 1 + (n - k) := by rw [HPL.out, List.length_append, List.length_cons, List.length_take, List.length_drop, HN.out]; omega
          refine ⟨A7, k + 1 + (n - k), c7, (by first | rfl | simp), Lib.hid hpl, Lib.hid ?_, Lib.hid ?_, by repeat (first | exact Ext.refl' _ | assumption | apply Ext.ex' | apply Ext.al | apply Ext.drN | apply Ext.dr)⟩
          · rw [HPL.out, hdl_append, show h :: l.drop k = [h] ++ l.drop k from rfl, hdl_append, hdl_one, ← List.append_assoc]
            have := Rd.of_own HO3.out
            simpa using this
          · have := own_rowF HO3.out
            simpa using this
        · have hbl : Op.bytesLess p.nm.toList h.nm.toList = true := by rw [bytesLess_eq, Lib.toList_data, Lib.toList_data]; exact hq
          have HJ2 : Hid (∀ j q, j < k + 1 → l[j]? = some q → ltK q.key h.key = true) := Lib.hid fun j q hj hq2 => by
            rcases Nat.lt_or_ge j k with h5 | h5
            · exact HJ.out j q h5 hq2
            · have : j = k := by omega
              subst this
              have : p = q := Option.some.inj (hp.symm.trans hq2)
              rw [← this]; exact hq
          clear HX HJ hp hq
          have hkz : (k : Int) < (n : Int) := by omega
          go_wp2
          go_quiet (fail)
          go_wp2
          go_roundw
          case rel =>
            exact ⟨k + 1, by omega, by go_num, by repeat (first | exact Ext.refl' _ | assumption | apply Ext.ex' | apply Ext.al | apply Ext.drN | apply Ext.dr), HJ2⟩
          case measure => simp [intOf]; omega
      · have HPL := Lib.hid (HX.out fun q hq2 => by
          have := (List.getElem?_eq_some_iff.1 hq2).1
          have := HN.out
          omega)
        clear HX HJ HPZ2
        have hkz : ¬ (k : Int) < (n : Int) := by omega
        have HZK : Hid (∀ W B, Rd W 6 B (n - k) (hdl (l.drop k))) := Lib.hid fun W B => by
          rw [List.drop_eq_nil_of_le (by have := HN.out; omega), show n - k = 0 from by omega]
          exact Rd.nil
        have hcs : k ≤ c := by omega
        by_cases hck : c = k
        · go_wp2
          go_quiet (fail)
          go_wp2_with (first | (at_builtin; refine wpList_app _ rfl (.tmp 35) (.tmp 38) rfl elHd (w.alloc (.cells #[.string h.nm, .string h.tb, .int .i64 h.r.1.1, .int .i64 h.r.1.2, .int .i64 h.r.2.1, .int .i64 h.r.2.2] 29)) (by repeat (first | exact Ext.refl' _ | assumption | apply Ext.ex' | apply Ext.al | apply Ext.drN | apply Ext.dr)) _ _ _ rfl (own_lit0' (w.alloc (.cells #[.string h.nm, .string h.tb, .int .i64 h.r.1.1, .int .i64 h.r.1.2, .int .i64 h.r.2.1, .int .i64 h.r.2.2] 29)) _ (by repeat (first | exact Ext.refl' _ | assumption | apply Ext.ex' | apply Ext.al | apply Ext.drN | apply Ext.dr)) _ _ (by first | rfl | simp [size_ext])) _ k _ (hdl (l.take k)) rfl (HTK.out.ext (by repeat (first | exact Ext.refl' _ | assumption | apply Ext.ex' | apply Ext.al | apply Ext.drN | apply Ext.dr))) (oneCell_hdl _) (by unfold maxLen; omega) (by omega) ?_; intro v35 y35 ho35 _; have HO1 := Lib.hid ho35; clear ho35) | (at_builtin; refine wpList_app _ rfl (.tmp 40) (.tmp 42) rfl elHd (w.alloc (.cells #[.string h.nm, .string h.tb, .int .i64 h.r.1.1, .int .i64 h.r.1.2, .int .i64 h.r.2.1, .int .i64 h.r.2.2] 29)) (by repeat (first | exact Ext.refl' _ | assumption | apply Ext.ex' | apply Ext.al | apply Ext.drN | apply Ext.dr)) _ _ _ rfl (by repeat (first | exact HO1.out | apply World.ownsRow.alloc | apply own_ext)) _ 1 1 (hdc h) rfl (Rd.lit _ _ _ 1 6 rfl (by simp [size_ext])) (oneCell_hdc h) (by unfold maxLen; omega) (by omega) ?_; intro v40 y40 ho40 _; have HO2 := Lib.hid ho40; clear ho40) | (at_builtin; refine wpList_app _ rfl (.tmp 44) (.tmp 47) rfl elHd (w.alloc (.cells #[.string h.nm, .string h.tb, .int .i64 h.r.1.1, .int .i64 h.r.1.2, .int .i64 h.r.2.1, .int .i64 h.r.2.2] 29)) (by repeat (first | exact Ext.refl' _ | assumption | apply Ext.ex' | apply Ext.al | apply Ext.drN | apply Ext.dr)) _ _ _ rfl (by repeat (first | exact HO2.out | apply World.ownsRow.alloc | apply own_ext)) _ (n - k) _ (hdl (l.drop k)) rfl (HZK.out _ _) (oneCell_hdl _) (by unfold maxLen; omega) (by omega) ?_; intro v44 y44 ho44 _; have HO3 := Lib.hid ho44; clear ho44))
          go_ret2
          obtain ⟨A7, c7, rfl, _, _⟩ := Own.form HO3.out
          have hpl : PL.length = k + 1 + (n - k) := by rw [HPL.out, List.length_append, List.length_cons, List.length_take, List.length_drop, HN.out]; omega
          refine ⟨A7, k + 1 + (n - k), c7, (by first | rfl | simp), Lib.hid hpl, Lib.hid ?_, Lib.hid ?_, by repeat (first | exact Ext.refl' _ | assumption | apply Ext.ex' | apply Ext.al | apply Ext.drN | apply Ext.dr)⟩
          · rw [HPL.out, hdl_append, show h :: l.drop k = [h] ++ l.drop k from rfl, hdl_append, hdl_one, ← List.append_assoc]
            have := Rd.of_own HO3.out
            simpa using this
          · have := own_rowF HO3.out
            simpa using this
        · have hck2 : k < c := by omega
          go_wp2
          go_quiet (fail)
          go_wp2_with (first | (at_builtin; refine wpList_app _ rfl (.tmp 35) (.tmp 38) rfl elHd (w.alloc (.cells #[.string h.nm, .string h.tb, .int .i64 h.r.1.1, .int .i64 h.r.1.2, .int .i64 h.r.2.1, .int .i64 h.r.2.2] 29)) (by repeat (first | exact Ext.refl' _ | assumption | apply Ext.ex' | apply Ext.al | apply Ext.drN | apply Ext.dr)) _ _ _ rfl (own_lit0' (w.alloc (.cells #[.string h.nm, .string h.tb, .int .i64 h.r.1.1, .int .i64 h.r.1.2, .int .i64 h.r.2.1, .int .i64 h.r.2.2] 29)) _ (by repeat (first | exact Ext.refl' _ | assumption | apply Ext.ex' | apply Ext.al | apply Ext.drN | apply Ext.dr)) _ _ (by first | rfl | simp [size_ext])) _ k _ (hdl (l.take k)) rfl (HTK.out.ext (by repeat (first | exact Ext.refl' _ | assumption | apply Ext.ex' | apply Ext.al | apply Ext.drN | apply Ext.dr))) (oneCell_hdl _) (by unfold maxLen; omega) (by omega) ?_; intro v35 y35 ho35 _; have HO1 := Lib.hid ho35; clear ho35) | (at_builtin; refine wpList_app _ rfl (.tmp 40) (.tmp 42) rfl elHd (w.alloc (.cells #[.string h.nm, .string h.tb, .int .i64 h.r.1.1, .int .i64 h.r.1.2, .int .i64 h.r.2.1, .int .i64 h.r.2.2] 29)) (by repeat (first | exact Ext.refl' _ | assumption | apply Ext.ex' | apply Ext.al | apply Ext.drN | apply Ext.dr)) _ _ _ rfl (by repeat (first | exact HO1.out | apply World.ownsRow.alloc | apply own_ext)) _ 1 1 (hdc h) rfl (Rd.lit _ _ _ 1 6 rfl (by simp [size_ext])) (oneCell_hdc h) (by unfold maxLen; omega) (by omega) ?_; intro v40 y40 ho40 _; have HO2 := Lib.hid ho40; clear ho40) | (at_builtin; refine wpList_app _ rfl (.tmp 44) (.tmp 47) rfl elHd (w.alloc (.cells #[.string h.nm, .string h.tb, .int .i64 h.r.1.1, .int .i64 h.r.1.2, .int .i64 h.r.2.1, .int .i64 h.r.2.2] 29)) (by repeat (first | exact Ext.refl' _ | assumption | apply Ext.ex' | apply Ext.al | apply Ext.drN | apply Ext.dr)) _ _ _ rfl (by repeat (first | exact HO2.out | apply World.ownsRow.alloc | apply own_ext)) _ (n - k) _ (hdl (l.drop k)) rfl (HZK.out _ _) (oneCell_hdl _) (by unfold maxLen; omega) (by omega) ?_; intro v44 y44 ho44 _; have HO3 := Lib.hid ho44; clear ho44))
          go_ret2
          obtain ⟨A7, c7, rfl, _, _⟩ := Own.form HO3.out
          have hpl : PL.length = k + 1 + (n - k) := by rw [HPL.out, List.length_append, List.length_cons, List.length_take, List.length_drop, HN.out]; omega
          refine ⟨A7, k + 1 + (n - k), c7, (by first | rfl | simp), Lib.hid hpl, Lib.hid ?_, Lib.hid ?_, by repeat (first | exact Ext.refl' _ | assumption | apply Ext.ex' | apply Ext.al | apply Ext.drN | apply Ext.dr)⟩
          · rw [HPL.out, hdl_append, show h :: l.drop k = [h] ++ l.drop k from rfl, hdl_append, hdl_one, ← List.append_assoc]
            have := Rd.of_own HO3.out
            simpa using this
          · have := own_rowF HO3.out
            simpa using this


set_option maxRecDepth 100000 in
set_option maxHeartbeats 8000000 in
theorem rrelease_any (A : Option Addr) (n c : Nat) (l : List Hd) (s : ByteArray) (w : World) (hn : l.length = n) (hA : Rd w 6 A n (hdl l)) (hF : RowF A n c) (nl : n ≤ 1000) (hs : SrtH l) :
    Calls Tryz.prog 5 #[.slice A n c, .string s] w (HlR w (relL l s) (relE l s)) := by
  have H2 := Lib.hid fun W (e : Ext w W) => rfind33_any A n c l s W hn (hA.ext e) (by omega)
  have HN := Lib.hid hn
  unfold HlR
  rcases hh : hasH l s with _ | _
  · have e1 : relE l s = 23 := by unfold relE; rw [hh]; rfl
    have e2 : relL l s = [] := by unfold relL; rw [hh]; rfl
    rw [e1, e2]
    rw [finH_neg hh] at H2
    clear e1 e2 hh hn
    go_enter Tryz.func5, Tryz.ntmps5
    go_wp2_with fail
    refine (H2.out _ (by repeat (first | exact Ext.refl' _ | assumption | apply Ext.ex' | apply Ext.al | apply Ext.drN | apply Ext.dr))).mono ?_
    rintro e w1 ⟨rfl, hb1⟩
    obtain ⟨x2, rfl⟩ := hb1.get
    clear hb1 H2
    go_wp2
    go_ret2
    exact ⟨none, 0, 0, rfl, Lib.hid rfl, Lib.hid Rd.nil, Lib.hid (.inl ⟨rfl, rfl, rfl⟩), by repeat (first | exact Ext.refl' _ | assumption | apply Ext.ex' | apply Ext.al | apply Ext.drN | apply Ext.dr)⟩
  · obtain ⟨k, hfk, hkl, q, hq, hqs⟩ := finH_pos hh
    have e1 : relE l s = 0 := by unfold relE; rw [hh]; rfl
    have e2 : relL l s = l.take k ++ l.drop (k + 1) := by
      unfold relL
      rw [hh, if_pos rfl]
      have h3 := remH_at hs.nodup hkl
      have h4 : l[k] = q := (List.getElem?_eq_some_iff.1 hq).2
      rw [h4, hqs] at h3
      exact h3
    rw [e1, e2]
    rw [hfk] at H2
    obtain ⟨PL, hPL⟩ : ∃ PL, l.take k ++ l.drop (k + 1) = PL := ⟨_, rfl⟩
    rw [hPL]
    have HPL := Lib.hid hPL.symm
    have hk : k < n := by omega
    clear e1 e2 hPL hfk hq hqs hh hs hn
    have hA' := hA.2 (by omega)
    obtain ⟨g, oo, rfl, -, -⟩ := hA'
    rcases hF with ⟨h, _, _⟩ | ⟨g', hg', hnc, hcm⟩
    · cases h
    cases hg'
    have HTK := Lib.hid (hA.takeH HN.out (Nat.le_of_lt hk))
    have HDK := Lib.hid (by have := hA.dropH HN.out (show k + 1 ≤ n from hk); rwa [Nat.zero_add] at this)
    have hkz : ¬ (k : Int) < 0 := by omega
    by_cases hck : c = k + 1
    · subst hck
      have HPL2 : Hid (PL = l.take k) := Lib.hid (by rw [HPL.out, List.drop_eq_nil_of_le (by have := HN.out; omega), List.append_nil])
      clear HPL HDK
      go_enter Tryz.func5, Tryz.ntmps5
      go_wp2_with fail
      refine (H2.out _ (by repeat (first | exact Ext.refl' _ | assumption | apply Ext.ex' | apply Ext.al | apply Ext.drN | apply Ext.dr))).mono ?_
      rintro e w1 ⟨rfl, hb1⟩
      obtain ⟨x2, rfl⟩ := hb1.get
      clear hb1 H2
      go_wp2_with (first | (at_builtin; refine wpList_app _ rfl (.tmp 13) (.tmp 16) rfl elHd w (by repeat (first | exact Ext.refl' _ | assumption | apply Ext.ex' | apply Ext.al | apply Ext.drN | apply Ext.dr)) _ _ _ rfl (own_lit0' w _ (by repeat (first | exact Ext.refl' _ | assumption | apply Ext.ex' | apply Ext.al | apply Ext.drN | apply Ext.dr)) _ _ (by first | rfl | simp [size_ext])) _ k _ (hdl (l.take k)) rfl (HTK.out.ext (by repeat (first | exact Ext.refl' _ | assumption | apply Ext.ex' | apply Ext.al | apply Ext.drN | apply Ext.dr))) (oneCell_hdl _) (by unfold maxLen; omega) (by omega) ?_; intro v13 y13 ho13 _; have HO1 := Lib.hid ho13; clear ho13) | (at_builtin; refine wpList_app _ rfl (.tmp 18) (.tmp 22) rfl elHd w (by repeat (first | exact Ext.refl' _ | assumption | apply Ext.ex' | apply Ext.al | apply Ext.drN | apply Ext.dr)) _ _ _ rfl (by repeat (first | exact HO1.out | apply World.ownsRow.alloc | apply own_ext)) _ 0 _ ([]) rfl (Rd.nil) (by intro u hu; cases hu) (by unfold maxLen; omega) (by omega) ?_; intro v18 y18 ho18 _; have HO2 := Lib.hid ho18; clear ho18))
      go_ret2
      obtain ⟨A7, c7, rfl, _, _⟩ := Own.form HO2.out
      have hpl : PL.length = k := by rw [HPL2.out, List.length_take, HN.out]; omega
      refine ⟨A7, k, c7, (by first | rfl | simp), Lib.hid hpl, Lib.hid ?_, Lib.hid ?_, by repeat (first | exact Ext.refl' _ | assumption | apply Ext.ex' | apply Ext.al | apply Ext.drN | apply Ext.dr)⟩
      · rw [HPL2.out]
        have := Rd.of_own HO2.out
        simpa using this
      · have := own_rowF HO2.out
        simpa using this
    · have hck2 : k + 1 < c := by omega
      go_enter Tryz.func5, Tryz.ntmps5
      go_wp2_with fail
      refine (H2.out _ (by repeat (first | exact Ext.refl' _ | assumption | apply Ext.ex' | apply Ext.al | apply Ext.drN | apply Ext.dr))).mono ?_
      rintro e w1 ⟨rfl, hb1⟩
      obtain ⟨x2, rfl⟩ := hb1.get
      clear hb1 H2
      go_wp2_with (first | (at_builtin; refine wpList_app _ rfl (.tmp 13) (.tmp 16) rfl elHd w (by repeat (first | exact Ext.refl' _ | assumption | apply Ext.ex' | apply Ext.al | apply Ext.drN | apply Ext.dr)) _ _ _ rfl (own_lit0' w _ (by repeat (first | exact Ext.refl' _ | assumption | apply Ext.ex' | apply Ext.al | apply Ext.drN | apply Ext.dr)) _ _ (by first | rfl | simp [size_ext])) _ k _ (hdl (l.take k)) rfl (HTK.out.ext (by repeat (first | exact Ext.refl' _ | assumption | apply Ext.ex' | apply Ext.al | apply Ext.drN | apply Ext.dr))) (oneCell_hdl _) (by unfold maxLen; omega) (by omega) ?_; intro v13 y13 ho13 _; have HO1 := Lib.hid ho13; clear ho13) | (at_builtin; refine wpList_app _ rfl (.tmp 18) (.tmp 22) rfl elHd w (by repeat (first | exact Ext.refl' _ | assumption | apply Ext.ex' | apply Ext.al | apply Ext.drN | apply Ext.dr)) _ _ _ rfl (by repeat (first | exact HO1.out | apply World.ownsRow.alloc | apply own_ext)) _ (n - (k + 1)) _ (hdl (l.drop (k + 1))) rfl (HDK.out.ext (by repeat (first | exact Ext.refl' _ | assumption | apply Ext.ex' | apply Ext.al | apply Ext.drN | apply Ext.dr))) (oneCell_hdl _) (by unfold maxLen; omega) (by omega) ?_; intro v18 y18 ho18 _; have HO2 := Lib.hid ho18; clear ho18))
      go_ret2
      obtain ⟨A7, c7, rfl, _, _⟩ := Own.form HO2.out
      have hpl : PL.length = k + (n - (k + 1)) := by rw [HPL.out, List.length_append, List.length_take, List.length_drop, HN.out]; omega
      refine ⟨A7, k + (n - (k + 1)), c7, (by first | rfl | simp), Lib.hid hpl, Lib.hid ?_, Lib.hid ?_, by repeat (first | exact Ext.refl' _ | assumption | apply Ext.ex' | apply Ext.al | apply Ext.drN | apply Ext.dr)⟩
      · rw [HPL.out, hdl_append]
        have := Rd.of_own HO2.out
        simpa using this
      · have := own_rowF HO2.out
        simpa using this

end Go.Proofs.YtimhehnmmjgeaaaGreatDoor

namespace Go.Proofs.YtimhehnmmjgeaaaGreatDoor
open Go.RowKit


/-- the two lists of holds, of the program and of the reference, in memory -/
structure HlS (w : World) (L : List Hd) (A1 A2 : Option Addr) (m c2 : Nat) : Prop where
  len : L.length = m
  r1 : Rd w 6 A1 m (hdl L)
  r2 : Rd w 6 A2 m (hdl L)
  f2 : RowF A2 m c2
  srt : SrtH L
  sz : ∀ x ∈ L, x.nm.size ≤ maxLen
theorem HlS.ext {w w' : World} {L : List Hd} {A1 A2 : Option Addr} {m c2 : Nat} (h : HlS w L A1 A2 m c2) (e : Ext w w') : HlS w' L A1 A2 m c2 := ⟨h.len, h.r1.ext e, h.r2.ext e, h.f2, h.srt, h.sz⟩
theorem rectsH_len (l : List Hd) (t : ByteArray) : (rectsH l t).length ≤ l.length := by
  unfold rectsH; rw [List.length_map]; exact List.length_filter_le _ _
theorem relL_len (L : List Hd) (s : ByteArray) {m : Nat} (hl : L.length = m) : (relL L s).length ≤ m + 1 := by
  unfold relL
  split
  · have := remH_len L s; omega
  · exact Nat.zero_le _
theorem placeL_len (L : List Hd) (h : Hd) {m : Nat} (hl : L.length = m) : (placeL L h).length ≤ m + 1 := by
  unfold placeL
  split
  · rw [(insH_perm L h).length_eq, List.length_cons]; omega
  · exact Nat.zero_le _
/-- the lists and the errno of one operation: of holds of the same names, and not too many -/
def OkS (L RL : List Hd) (E : Int) (m : Nat) : Prop := E = 0 → SrtH RL ∧ (∀ x ∈ RL, x.nm.size ≤ maxLen) ∧ RL.length ≤ m + 1
theorem okS_rel {L : List Hd} {s : ByteArray} {m : Nat} (h : SrtH L) (hz : ∀ x ∈ L, x.nm.size ≤ maxLen) (hl : L.length = m) : OkS L (relL L s) (relE L s) m := fun e => by
  have h1 : hasH L s = true := by
    unfold relE at e
    split at e
    · assumption
    · cases e
  have h2 : relL L s = remH L s := by unfold relL; rw [h1]; rfl
  rw [h2]
  exact ⟨remH_srt h s, fun x hx => hz x (List.mem_filter.1 hx).1, by have := remH_len L s; omega⟩
theorem okS_pl {L : List Hd} {h : Hd} {m : Nat} (hs : SrtH L) (hz : ∀ x ∈ L, x.nm.size ≤ maxLen) (hh : h.nm.size ≤ maxLen) (hl : L.length = m) : OkS L (placeL L h) (placeE L h) m := fun e => by
  have h2 : placeL L h = insH L h := if_pos e
  have h1 : hasH L h.nm = false := by
    unfold placeE at e
    cases e2 : hasH L h.nm with
    | false => rfl
    | true => rw [e2, if_pos rfl] at e; split at e <;> cases e
  rw [h2]
  refine ⟨insH_srt hs (hasH_no h1), fun x hx => ?_, ?_⟩
  · rcases List.mem_cons.1 ((insH_perm L h).mem_iff.1 hx) with rfl | hx
    · exact hh
    · exact hz x hx
  · have := (insH_perm L h).length_eq
    rw [this, List.length_cons]; omega


set_option maxRecDepth 100000 in
set_option maxHeartbeats 16000000 in
theorem holds_any (A : Option Addr) (n c : Nat) (l : List Hd) (t : ByteArray) (w : World) (hn : l.length = n) (hA : Rd w 6 A n (hdl l)) (nl : n ≤ 9223372036854775807) (hz : ∀ x ∈ l, x.nm.size ≤ maxLen ∧ x.tb.size ≤ maxLen) :
    Calls Tryz.prog 3 #[.slice A n c, .string t] w fun e w' => e = .returned (.bool true) ∧ Ext w w' := by
  have HN := Lib.hid hn
  have HZ := Lib.hid hz
  clear hn hz
  go_enter Tryz.func3, Tryz.ntmps3
  go_wp2
  go_loopw [5, 6, 7] (fun s5 s6 s7 wr => ∃ (k m c1 c2 : Nat) (A1 A2 : Option Addr) (L : List Hd), s7 = .int .i64 k ∧ k ≤ n ∧ k ≤ 60 ∧ m ≤ k ∧ s5 = .slice A1 m c1 ∧ s6 = .slice A2 m c2 ∧ Hid (HlS wr L A1 A2 m c2) ∧ Ext w wr) (fun _ _ s7 _ => n - (intOf s7).toNat)
  case atStart => exact ⟨0, 0, 0, 0, none, none, [], rfl, Nat.zero_le _, Nat.zero_le _, Nat.le_refl _, rfl, rfl, Lib.hid ⟨rfl, Rd.nil, Rd.nil, .inl ⟨rfl, rfl, rfl⟩, List.Pairwise.nil, fun x hx => by cases hx⟩, Ext.refl' _⟩
  case round =>
    obtain ⟨k, m, c1, c2, A1, A2, L, rfl, hk, hk60, hmk, rfl, rfl, HS, hE⟩ := hrel
    obtain ⟨x, rfl⟩ := hE.get
    clear hE
    by_cases hlt : k < n ∧ k < 60
    · obtain ⟨hlt, hlt60⟩ := hlt
      obtain ⟨p, g, oo, hp, rfl, hg, p0, p1, p2, p3, p4, p5⟩ := hA.hd HN.out hlt
      have hpz := HZ.out p (List.mem_of_getElem? hp)
      have hkz : (k : Int) < (n : Int) := by omega
      have hkz60 : (k : Int) < 60 := by omega
      clear hp
      rcases hbb : (p.tb.toList == []) with _ | _
      · have HR1 := Lib.hid fun W (e : Ext (ext w x) W) => place_any A1 m c1 L p W HS.out.len (HS.out.r1.ext e) (by omega) HS.out.srt HS.out.sz hpz.1 hpz.2
        have HR2 := Lib.hid fun W (e : Ext (ext w x) W) => rplace_any A2 m c2 L p W HS.out.len (HS.out.r2.ext e) HS.out.f2 (by omega) hpz.1 hpz.2
        obtain ⟨RL, hRL⟩ : ∃ RL, placeL L p = RL := ⟨_, rfl⟩
        obtain ⟨E, hE2⟩ : ∃ E, placeE L p = E := ⟨_, rfl⟩
        have HOK : Hid (OkS L RL E m) := Lib.hid (by rw [← hRL, ← hE2]; exact okS_pl HS.out.srt HS.out.sz hpz.1 HS.out.len)
        have HRL : Hid (RL.length ≤ m + 1) := Lib.hid (by rw [← hRL]; exact placeL_len L p HS.out.len)
        rw [hRL, hE2] at HR1 HR2
        clear hRL hE2
        unfold HlQ at HR1
        unfold HlR at HR2
        go_wp2_with fail
        refine Calls.mono (HR1.out _ (by repeat (first | exact Ext.refl' _ | assumption | apply Ext.ex' | apply Ext.al | apply Ext.drN | apply Ext.dr))) ?_
        rintro e w1 ⟨B1, n1, d1, rfl, hl1, hr1, hb1⟩
        obtain ⟨x1, rfl⟩ := hb1.get
        clear hb1 HR1
        go_wp2_with fail
        refine Calls.mono (HR2.out _ (by repeat (first | exact Ext.refl' _ | assumption | apply Ext.ex' | apply Ext.al | apply Ext.drN | apply Ext.dr))) ?_
        rintro e w1 ⟨B2, n2, d2, rfl, hl2, hr2, hf2, hb1⟩
        obtain rfl : n1 = n2 := hl1.out.symm.trans hl2.out
        obtain ⟨x2, rfl⟩ := hb1.get
        clear hb1 HR2
        have h1k : n1 ≤ 1048576 := by have := HRL.out; have := hl1.out; omega
        have HSM := Lib.hid fun W h1 h2 => same33_any B1 B2 d1 d2 n1 n1 RL RL W hl1.out hl1.out h1 h2 (by omega) (by omega)
        rw [decide_eq_true (rfl : RL = RL)] at HSM
        have hee : (E != E) = false := by simp
        go_wp2_with fail
        refine (HSM.out _ (hr1.out.ext (by repeat (first | exact Ext.refl' _ | assumption | apply Ext.ex' | apply Ext.al | apply Ext.drN | apply Ext.dr))) (hr2.out.ext (by repeat (first | exact Ext.refl' _ | assumption | apply Ext.ex' | apply Ext.al | apply Ext.drN | apply Ext.dr)))).mono ?_
        rintro e w1 ⟨rfl, hb1⟩
        obtain ⟨x3, rfl⟩ := hb1.get
        clear hb1 HSM
        by_cases hE0 : E = 0
        · subst hE0
          have HOK2 := Lib.hid (HOK.out rfl)
          have hn1 : n1 ≤ m + 1 := by have := HOK2.out.2.2; have := hl1.out; omega
          go_wp2
          go_roundw
          case rel => exact ⟨k + 1, n1, d1, d2, B1, B2, RL, by go_num, by omega, by omega, by omega, rfl, rfl, Lib.hid ⟨hl1.out, hr1.out.ext (by repeat (first | exact Ext.refl' _ | assumption | apply Ext.ex' | apply Ext.al | apply Ext.drN | apply Ext.dr)), hr2.out.ext (by repeat (first | exact Ext.refl' _ | assumption | apply Ext.ex' | apply Ext.al | apply Ext.drN | apply Ext.dr)), hf2.out, HOK2.out.1, HOK2.out.2.1⟩, by repeat (first | exact Ext.refl' _ | assumption | apply Ext.ex' | apply Ext.al | apply Ext.drN | apply Ext.dr)⟩
          case measure => simp [intOf]; omega
        · have hEz : (E == 0) = false := by simpa using hE0
          go_wp2
          go_roundw
          case rel => exact ⟨k + 1, m, c1, c2, A1, A2, L, by go_num, by omega, by omega, by omega, rfl, rfl, Lib.hid (HS.out.ext (by repeat (first | exact Ext.refl' _ | assumption | apply Ext.ex' | apply Ext.al | apply Ext.drN | apply Ext.dr))), by repeat (first | exact Ext.refl' _ | assumption | apply Ext.ex' | apply Ext.al | apply Ext.drN | apply Ext.dr)⟩
          case measure => simp [intOf]; omega
      rcases hbc : (p.nm.toList == []) with _ | _
      · have HR1 := Lib.hid fun W (e : Ext (ext w x) W) => release_any A1 m c1 L p.nm W HS.out.len (HS.out.r1.ext e) (by omega) HS.out.srt HS.out.sz hpz.1
        have HR2 := Lib.hid fun W (e : Ext (ext w x) W) => rrelease_any A2 m c2 L p.nm W HS.out.len (HS.out.r2.ext e) HS.out.f2 (by omega) HS.out.srt
        obtain ⟨RL, hRL⟩ : ∃ RL, relL L p.nm = RL := ⟨_, rfl⟩
        obtain ⟨E, hE2⟩ : ∃ E, relE L p.nm = E := ⟨_, rfl⟩
        have HOK : Hid (OkS L RL E m) := Lib.hid (by rw [← hRL, ← hE2]; exact okS_rel HS.out.srt HS.out.sz HS.out.len)
        have HRL : Hid (RL.length ≤ m + 1) := Lib.hid (by rw [← hRL]; exact relL_len L p.nm HS.out.len)
        rw [hRL, hE2] at HR1 HR2
        clear hRL hE2
        unfold HlQ at HR1
        unfold HlR at HR2
        go_wp2_with fail
        refine Calls.mono (HR1.out _ (by repeat (first | exact Ext.refl' _ | assumption | apply Ext.ex' | apply Ext.al | apply Ext.drN | apply Ext.dr))) ?_
        rintro e w1 ⟨B1, n1, d1, rfl, hl1, hr1, hb1⟩
        obtain ⟨x1, rfl⟩ := hb1.get
        clear hb1 HR1
        go_wp2_with fail
        refine Calls.mono (HR2.out _ (by repeat (first | exact Ext.refl' _ | assumption | apply Ext.ex' | apply Ext.al | apply Ext.drN | apply Ext.dr))) ?_
        rintro e w1 ⟨B2, n2, d2, rfl, hl2, hr2, hf2, hb1⟩
        obtain rfl : n1 = n2 := hl1.out.symm.trans hl2.out
        obtain ⟨x2, rfl⟩ := hb1.get
        clear hb1 HR2
        have h1k : n1 ≤ 1048576 := by have := HRL.out; have := hl1.out; omega
        have HSM := Lib.hid fun W h1 h2 => same33_any B1 B2 d1 d2 n1 n1 RL RL W hl1.out hl1.out h1 h2 (by omega) (by omega)
        rw [decide_eq_true (rfl : RL = RL)] at HSM
        have hee : (E != E) = false := by simp
        go_wp2_with fail
        refine (HSM.out _ (hr1.out.ext (by repeat (first | exact Ext.refl' _ | assumption | apply Ext.ex' | apply Ext.al | apply Ext.drN | apply Ext.dr))) (hr2.out.ext (by repeat (first | exact Ext.refl' _ | assumption | apply Ext.ex' | apply Ext.al | apply Ext.drN | apply Ext.dr)))).mono ?_
        rintro e w1 ⟨rfl, hb1⟩
        obtain ⟨x3, rfl⟩ := hb1.get
        clear hb1 HSM
        by_cases hE0 : E = 0
        · subst hE0
          have HOK2 := Lib.hid (HOK.out rfl)
          have hn1 : n1 ≤ m + 1 := by have := HOK2.out.2.2; have := hl1.out; omega
          go_wp2
          go_roundw
          case rel => exact ⟨k + 1, n1, d1, d2, B1, B2, RL, by go_num, by omega, by omega, by omega, rfl, rfl, Lib.hid ⟨hl1.out, hr1.out.ext (by repeat (first | exact Ext.refl' _ | assumption | apply Ext.ex' | apply Ext.al | apply Ext.drN | apply Ext.dr)), hr2.out.ext (by repeat (first | exact Ext.refl' _ | assumption | apply Ext.ex' | apply Ext.al | apply Ext.drN | apply Ext.dr)), hf2.out, HOK2.out.1, HOK2.out.2.1⟩, by repeat (first | exact Ext.refl' _ | assumption | apply Ext.ex' | apply Ext.al | apply Ext.drN | apply Ext.dr)⟩
          case measure => simp [intOf]; omega
        · have hEz : (E == 0) = false := by simpa using hE0
          go_wp2
          go_roundw
          case rel => exact ⟨k + 1, m, c1, c2, A1, A2, L, by go_num, by omega, by omega, by omega, rfl, rfl, Lib.hid (HS.out.ext (by repeat (first | exact Ext.refl' _ | assumption | apply Ext.ex' | apply Ext.al | apply Ext.drN | apply Ext.dr))), by repeat (first | exact Ext.refl' _ | assumption | apply Ext.ex' | apply Ext.al | apply Ext.drN | apply Ext.dr)⟩
          case measure => simp [intOf]; omega
      · have HR1 := Lib.hid fun W (e : Ext (ext w x) W) => place_any A1 m c1 L p W HS.out.len (HS.out.r1.ext e) (by omega) HS.out.srt HS.out.sz hpz.1 hpz.2
        have HR2 := Lib.hid fun W (e : Ext (ext w x) W) => rplace_any A2 m c2 L p W HS.out.len (HS.out.r2.ext e) HS.out.f2 (by omega) hpz.1 hpz.2
        obtain ⟨RL, hRL⟩ : ∃ RL, placeL L p = RL := ⟨_, rfl⟩
        obtain ⟨E, hE2⟩ : ∃ E, placeE L p = E := ⟨_, rfl⟩
        have HOK : Hid (OkS L RL E m) := Lib.hid (by rw [← hRL, ← hE2]; exact okS_pl HS.out.srt HS.out.sz hpz.1 HS.out.len)
        have HRL : Hid (RL.length ≤ m + 1) := Lib.hid (by rw [← hRL]; exact placeL_len L p HS.out.len)
        rw [hRL, hE2] at HR1 HR2
        clear hRL hE2
        unfold HlQ at HR1
        unfold HlR at HR2
        go_wp2_with fail
        refine Calls.mono (HR1.out _ (by repeat (first | exact Ext.refl' _ | assumption | apply Ext.ex' | apply Ext.al | apply Ext.drN | apply Ext.dr))) ?_
        rintro e w1 ⟨B1, n1, d1, rfl, hl1, hr1, hb1⟩
        obtain ⟨x1, rfl⟩ := hb1.get
        clear hb1 HR1
        go_wp2_with fail
        refine Calls.mono (HR2.out _ (by repeat (first | exact Ext.refl' _ | assumption | apply Ext.ex' | apply Ext.al | apply Ext.drN | apply Ext.dr))) ?_
        rintro e w1 ⟨B2, n2, d2, rfl, hl2, hr2, hf2, hb1⟩
        obtain rfl : n1 = n2 := hl1.out.symm.trans hl2.out
        obtain ⟨x2, rfl⟩ := hb1.get
        clear hb1 HR2
        have h1k : n1 ≤ 1048576 := by have := HRL.out; have := hl1.out; omega
        have HSM := Lib.hid fun W h1 h2 => same33_any B1 B2 d1 d2 n1 n1 RL RL W hl1.out hl1.out h1 h2 (by omega) (by omega)
        rw [decide_eq_true (rfl : RL = RL)] at HSM
        have hee : (E != E) = false := by simp
        go_wp2_with fail
        refine (HSM.out _ (hr1.out.ext (by repeat (first | exact Ext.refl' _ | assumption | apply Ext.ex' | apply Ext.al | apply Ext.drN | apply Ext.dr))) (hr2.out.ext (by repeat (first | exact Ext.refl' _ | assumption | apply Ext.ex' | apply Ext.al | apply Ext.drN | apply Ext.dr)))).mono ?_
        rintro e w1 ⟨rfl, hb1⟩
        obtain ⟨x3, rfl⟩ := hb1.get
        clear hb1 HSM
        by_cases hE0 : E = 0
        · subst hE0
          have HOK2 := Lib.hid (HOK.out rfl)
          have hn1 : n1 ≤ m + 1 := by have := HOK2.out.2.2; have := hl1.out; omega
          go_wp2
          go_roundw
          case rel => exact ⟨k + 1, n1, d1, d2, B1, B2, RL, by go_num, by omega, by omega, by omega, rfl, rfl, Lib.hid ⟨hl1.out, hr1.out.ext (by repeat (first | exact Ext.refl' _ | assumption | apply Ext.ex' | apply Ext.al | apply Ext.drN | apply Ext.dr)), hr2.out.ext (by repeat (first | exact Ext.refl' _ | assumption | apply Ext.ex' | apply Ext.al | apply Ext.drN | apply Ext.dr)), hf2.out, HOK2.out.1, HOK2.out.2.1⟩, by repeat (first | exact Ext.refl' _ | assumption | apply Ext.ex' | apply Ext.al | apply Ext.drN | apply Ext.dr)⟩
          case measure => simp [intOf]; omega
        · have hEz : (E == 0) = false := by simpa using hE0
          go_wp2
          go_roundw
          case rel => exact ⟨k + 1, m, c1, c2, A1, A2, L, by go_num, by omega, by omega, by omega, rfl, rfl, Lib.hid (HS.out.ext (by repeat (first | exact Ext.refl' _ | assumption | apply Ext.ex' | apply Ext.al | apply Ext.drN | apply Ext.dr))), by repeat (first | exact Ext.refl' _ | assumption | apply Ext.ex' | apply Ext.al | apply Ext.drN | apply Ext.dr)⟩
          case measure => simp [intOf]; omega
    · have HR1 := Lib.hid fun W h => trects_any A1 m c1 L t W HS.out.len h (by omega)
      have HR2 := Lib.hid fun W h => rrects_any A2 m c2 L t W HS.out.len h (by omega)
      have HQ := Lib.hid fun W A B c d h1 h2 => rects_any A B c d (rectsH L t) (rectsH L t) W h1 h2 (by have := rectsH_len L t; have := HS.out.len; omega) (by have := rectsH_len L t; have := HS.out.len; omega)
      rw [decide_eq_true (rfl : rectsH L t = rectsH L t)] at HQ
      generalize rectsH L t = RC at HR1 HR2 HQ
      generalize RC.length = rn at HR1 HR2 HQ
      unfold RdP at HR1 HR2
      have hz1 : (decide ((k : Int) < (n : Int)) && decide ((k : Int) < 60)) = false := by
        rw [Bool.eq_false_iff]
        intro h
        simp only [Bool.and_eq_true, decide_eq_true_eq] at h
        exact hlt ⟨by omega, by omega⟩
      have HAW := Lib.hid fun W => awake33_any W
      rcases (show ¬ (k : Int) < (n : Int) ∨ (k : Int) < (n : Int) ∧ ¬ (k : Int) < 60 from by omega) with hk1 | ⟨hk1, hk2⟩
      all_goals go_wp2_with fail
      all_goals refine Calls.mono (HR1.out _ (HS.out.r1.ext (by repeat (first | exact Ext.refl' _ | assumption | apply Ext.ex' | apply Ext.al | apply Ext.drN | apply Ext.dr)))) ?_
      all_goals rintro e w1 ⟨B1, d1, rfl, hb1, hr1⟩
      all_goals obtain ⟨x1, rfl⟩ := hb1.get
      all_goals clear hb1 HR1
      all_goals go_wp2_with fail
      all_goals refine Calls.mono (HR2.out _ (HS.out.r2.ext (by repeat (first | exact Ext.refl' _ | assumption | apply Ext.ex' | apply Ext.al | apply Ext.drN | apply Ext.dr)))) ?_
      all_goals rintro e w1 ⟨B2, d2, rfl, hb1, hr2⟩
      all_goals obtain ⟨x2, rfl⟩ := hb1.get
      all_goals clear hb1 HR2
      all_goals go_wp2_with fail
      all_goals refine Calls.mono (HQ.out _ B1 B2 d1 d2 (hr1.ext (by repeat (first | exact Ext.refl' _ | assumption | apply Ext.ex' | apply Ext.al | apply Ext.drN | apply Ext.dr))) (hr2.ext (by repeat (first | exact Ext.refl' _ | assumption | apply Ext.ex' | apply Ext.al | apply Ext.drN | apply Ext.dr)))) ?_
      all_goals rintro e w1 ⟨rfl, hb1⟩
      all_goals obtain ⟨x3, rfl⟩ := hb1.get
      all_goals clear hb1 HQ
      all_goals go_wp2_with fail
      all_goals refine Calls.mono (HAW.out _) ?_
      all_goals rintro e w1 ⟨rfl, hb1⟩
      all_goals obtain ⟨x4, rfl⟩ := hb1.get
      all_goals clear hb1 HAW
      all_goals go_wp2
      all_goals go_ret
      all_goals exact ⟨rfl, by repeat (first | exact Ext.refl' _ | assumption | apply Ext.ex' | apply Ext.al | apply Ext.drN | apply Ext.dr)⟩

end Go.Proofs.YtimhehnmmjgeaaaGreatDoor

namespace Go.Proofs.YtimhehnmmjgeaaaGreatDoor
open Go.ChangeShapes Go.WideShapes Go.ChangeAt Go.RowKit Go.Joins Go.Deep

theorem opnIntH : Opn Tryz.prog 3 1 (fun a : Int => [.int .i64 a]) (fun _ a => (Lit.int .i64 a).wf = true) := Opn.int Tryz.underlying3
theorem opnPerH : Opn Tryz.prog 25 2 (fun p : Int × Int => [.int .i64 p.1, .int .i64 p.2]) (fun _ _ => True) :=
  (Opn.struct Tryz.underlying25 (Flds.cons opnIntH rfl (by kernel_rfl) (Flds.one opnIntH rfl (by kernel_rfl))) (by kernel_rfl)).as (fun a => a) (fun _ => rfl) (fun _ => rfl) (fun _ _ _ => trivial)
theorem opnRctH : Opn Tryz.prog 27 4 (fun r : Rct => [.int .i64 r.1.1, .int .i64 r.1.2, .int .i64 r.2.1, .int .i64 r.2.2]) (fun _ _ => True) :=
  (Opn.struct Tryz.underlying27 (Flds.cons opnPerH rfl (by kernel_rfl) (Flds.one opnPerH rfl (by kernel_rfl))) (by kernel_rfl)).as (fun a => a) (fun _ => rfl) (fun _ => rfl) (fun _ _ _ => trivial)
theorem opnHd : Opn Tryz.prog 29 6 hdc (fun _ h => h.nm.size ≤ maxLen ∧ h.tb.size ≤ maxLen) :=
  (Opn.struct Tryz.underlying29 (Flds.cons (Opn.str Tryz.underlying9) rfl (by kernel_rfl) (Flds.cons (Opn.str Tryz.underlying9) rfl (by kernel_rfl) (Flds.one opnRctH rfl (by kernel_rfl)))) (by kernel_rfl)).as (fun a => (⟨a.1, a.2.1, a.2.2⟩ : Hd)) (fun _ => rfl) (fun _ => rfl) (fun _ _ h => ⟨h.1, h.2.1⟩)
theorem opnHds : Opn Tryz.prog 22 1 (encS (α := Hd)) (memS 6 hdc (fun _ h => h.nm.size ≤ maxLen ∧ h.tb.size ≤ maxLen)) := Opn.slice Tryz.underlying22 opnHd (by kernel_rfl) (by decide)
end Go.Proofs.YtimhehnmmjgeaaaGreatDoor

namespace Go.Proofs.YtimhehnmmjgeaaaGreatDoor
open Go.ChangeShapes Go.WideShapes Go.ChangeAt Go.RowKit Go.Joins Go.Deep

theorem retentionHolds_readable : ∀ t ∈ Tryz.f3.params.toList, Tryz.prog.readableRec t = true ∧ t < Tryz.prog.types.size := fun t ht => by
    rw [Tryz.params3] at ht
    simp at ht
    rcases ht with rfl | rfl
    all_goals exact ⟨by kernel_rfl, of_decide_eq_true (by kernel_rfl)⟩
theorem retentionHolds_spec : LawSpec Rows.retentionHoldsSpec 2 := by
  refine ⟨rfl, fun H ds h => ?_⟩
  match ds, h with
  | [d0, d1], _ => rfl

set_option maxRecDepth 100000 in
theorem retentionHolds_contract (H : Type) (enc : TypeId × Value → H) (W : World) (base : Nat) (args : Array Value) (ds gs : List (DataW H)) (before : List MemPlace)
    (hval0 : ∀ (j : Nat) t v, Tryz.f3.params[j]? = some t → args[j]? = some v → Value.okWide Tryz.prog W .any base t v)
    (hW : DataW.Whole enc Tryz.prog Tryz.f3.params.toList Rows.retentionHoldsSpec.vars false W args.toList ds gs before) :
    Calls Tryz.prog 3 args W fun e W' => ∃ v, e = .returned v ∧ Rows.retentionHoldsSpec.post enc Tryz.prog Tryz.f3 false true false false W args v W' := by
  have hval : ∀ (j : Nat) t v, Tryz.f3.params[j]? = some t → args[j]? = some v → Value.okWide Tryz.prog W .any base t v := hval0
  have hW' := hW
  obtain ⟨p, q, hA0, hV, rfl, hfz, hnd⟩ := hW
  have hA : DataW.TrodAll enc Tryz.prog W 0 (fun _ => true) true Tryz.f3.params.toList args.toList ds p := hA0
  obtain ⟨rfl, rfl⟩ := trodVars_none hV
  rw [Tryz.params3] at hA hval
  obtain ⟨v0, vs0, d0, ds0, p0, q0, hargs, rfl, rfl, h0, r0⟩ := trodAll_cons hA
  obtain ⟨v1, vs1, d1, ds1, p1, q1, rfl, rfl, rfl, h1, r1⟩ := trodAll_cons r0
  obtain ⟨rfl, rfl, rfl⟩ := trodAll_nil r1
  obtain rfl : args = #[v0, v1] := by cases args; simp_all
  clear hA0 hval0
  obtain ⟨s, rfl, hs1, hs2, hs3, hs4⟩ := opnHds.sl Tryz.underlying22 (hval 0 22 v0 rfl rfl) h0
  obtain ⟨t, rfl, ht⟩ := Opn.st Tryz.underlying9 (hval 1 9 v1 rfl rfl) h1
  refine Calls.mono ?_ (R := fun e W' => e = .returned (.bool true) ∧ Ext W W') fun e W' ⟨he, hE⟩ => ⟨_, he, law_post (tb := 4) Tryz.laidOut retentionHolds_spec retentionHolds_readable Tryz.underlying4 rfl hW' hE⟩
  exact holds_any s.A s.l.length s.c s.l t W rfl hs3 (by have := hs1; have := hs2; unfold maxLen at *; omega) hs4

/-- a world in which the two tables hold what the row lists -/
noncomputable def holdsWorld (os : Os) : World := World.laidAll Tryz.prog os Rows.retentionHoldsRow.laid
set_option maxRecDepth 100000 in
theorem holds_laid (os : Os) (args : Array Value) : laidMet Tryz.prog Rows.retentionHoldsRow.laid ((holdsWorld os).forCall (fun _ _ => 0) ⟨#[], args, []⟩).memory :=
  laidMet_laidAll args (by kernel_rfl) (by kernel_rfl)
set_option maxRecDepth 100000 in
theorem holds_reads (os : Os) {H : Type} (enc : TypeId × Value → H) : ∃ places, DataW.whole enc Tryz.prog ((holdsWorld os).forCall (fun _ _ => 0) ⟨#[], #[.slice none 0 0, .string ⟨#[]⟩], []⟩).memory Tryz.f3.params.toList Rows.retentionHoldsSpec.vars false #[Value.slice none 0 0, .string ⟨#[]⟩].toList 8 = some ([.nil, .lit (.string [])], [], places) :=
  ⟨[], by kernel_rfl⟩

set_option maxRecDepth 100000 in
theorem retentionHolds_lifted (os : Os) (started : os.Started) (H : Type) (enc : TypeId × Value → H) (F : Stop.Interp) :
    ReturnsInHanded {} Tryz.checked os 3 .any ((OpenSpec.ofChange Rows.retentionHoldsSpec).preRow enc Tryz.prog Tryz.f3 Rows.retentionHoldsRow.domain false Rows.retentionHoldsRow.laid) (((OpenSpec.ofChange Rows.retentionHoldsSpec).at F).post enc Tryz.prog Tryz.f3 false true false false) := by
  obtain ⟨places, hx⟩ := holds_reads os enc
  refine returnsInHanded_of_row (C := Tryz.checked) (s := OpenSpec.ofChange Rows.retentionHoldsSpec) Tryz.own started (by kernel_rfl) Tryz.func3
    (witness_row_at (enc := enc) (C := Tryz.checked) false (holdsWorld os) #[.slice none 0 0, .string ⟨#[]⟩] rfl (by kernel_rfl) (by kernel_rfl) (by kernel_rfl)
      (OpenSpec.preRow_of_cond 8 hx (by kernel_rfl) (fun k hk => by cases hk) (by kernel_rfl) (holds_laid os _))) ?_
  intro W base args ds gs before hval hW _ _ _ hL _ _
  exact retentionHolds_contract H enc W base args ds gs before hval hW

theorem retentionHolds_said : Rows.RetentionHoldsSaid :=
  OpenClaim.holds_of_cond 3 Tryz.f3 rfl rfl rfl rfl rfl rfl rfl ⟨rfl, rfl, rfl, rfl, rfl⟩ rfl rfl rfl rfl rfl (by kernel_rfl) Tryz.func3 (by kernel_rfl)
    (of_decide_eq_true (by kernel_rfl)) (by unfold Func.isWrapper; first | (rw [if_pos (by decide +kernel)]; kernel_rfl) | (rw [if_neg (by decide +kernel)]; exact ⟨rfl, rfl⟩))
    (fun os started H enc _ F => by rw [OpenClaim.pre_eq_preRow]; exact retentionHolds_lifted os started H enc F)

theorem retentionHolds_plain (f : FuncId) (fn : Func) (hf : Tryz.pinned.checked.prog.funcNamed "bitemporal/bitemporallaw33.RetentionHolds" = some f) (hfn : Tryz.pinned.checked.prog.funcs[f]? = some fn) :
    false = Tryz.pinned.checked.prog.looks [] ∧ ∀ (j : Nat) t, fn.params[j]? = some t → Tryz.pinned.checked.prog.wantsStandIn t = false := by
  obtain rfl : f = 3 := Option.some.inj ((show Tryz.prog.funcNamed "bitemporal/bitemporallaw33.RetentionHolds" = some 3 by kernel_rfl).symm.trans hf) |>.symm
  obtain rfl : fn = Tryz.f3 := (Option.some.inj (Tryz.func3.symm.trans hfn)).symm
  refine ⟨by kernel_rfl, fun j t ht => ?_⟩
  rw [Tryz.params3] at ht
  have h1 : t = 22 ∨ t = 9 := by simpa using Array.mem_of_getElem? ht
  rcases h1 with rfl | rfl
  · exact (show Tryz.prog.wantsStandIn 22 = false by kernel_rfl)
  · exact (show Tryz.prog.wantsStandIn 9 = false by kernel_rfl)

theorem retentionHolds_holds : Rows.RetentionHoldsCardSaid :=
  Claim7.holds_tied_plain_at .later [] _ _ _ _ retentionHolds_said (fun _ h => by cases h) (by kernel_rfl) (fun _ h => by cases h) retentionHolds_row_tie rfl ⟨rfl, rfl⟩ (by kernel_rfl) rfl retentionHolds_plain (by kernel_rfl)

#print axioms retentionHolds_holds
end Go.Proofs.YtimhehnmmjgeaaaGreatDoor
