/- Arguments opened by their shape: ints, texts, bools, structs of these, slices of whatever opens. -/
import Derived.Test.YtahmkinppighkaaOpen
import Derived.ChangeMaps5
set_option linter.unusedSimpArgs false
set_option linter.unusedVariables false
namespace Go.Proofs.Ytahmkinppighkaa
open Go.ChangeShapes Go.WideShapes Go.ChangeAt Go.RowKit Go.Joins Go.Deep

section
variable {P : Program}

/-- whatever reads as type t is the encoding of a thing whose parts can be read -/
def Opn (P : Program) (t k : Nat) {α : Type} (enc : α → List Value) (mem : World → α → Prop) : Prop :=
  (∀ a, (enc a).length = k) ∧ ∀ {H : Type} {en : TypeId × Value → H} {w : World} {n : Nat} {cs : List Value} {x : DataW H × List MemPlace},
    DataW.trod en P w 0 (fun _ => true) true n t cs = some x → ∃ a, cs = enc a ∧ mem w a

theorem Opn.int {t : TypeId} {k : IntKind} (ht : P.underlying t = some (.int k)) : Opn P t 1 (fun a : Int => [.int k a]) (fun _ a => (Lit.int k a).wf = true) := by
  refine ⟨fun _ => rfl, fun {H en w n cs x} h => ?_⟩
  obtain ⟨a, rfl, _, hw⟩ := DataW.trod_int ht h
  exact ⟨a, rfl, hw⟩
theorem Opn.bool {t : TypeId} (ht : P.underlying t = some .bool) : Opn P t 1 (fun a : Bool => [.bool a]) (fun _ _ => True) := by
  refine ⟨fun _ => rfl, fun {H en w n cs x} h => ?_⟩
  obtain ⟨a, rfl, _⟩ := DataW.trod_bool ht h
  exact ⟨a, rfl, trivial⟩
theorem Opn.str {t : TypeId} (ht : P.underlying t = some .string) : Opn P t 1 (fun a : ByteArray => [.string a]) (fun _ a => a.size ≤ maxLen) := by
  refine ⟨fun _ => rfl, fun {H en w n cs x} h => ?_⟩
  obtain ⟨a, rfl, _, hs⟩ := DataW.trod_string ht h
  exact ⟨a, rfl, hs⟩
/-- the same thing under another name -/
theorem Opn.as {t k : Nat} {α β : Type} {enc : α → List Value} {mem : World → α → Prop} {enc' : β → List Value} {mem' : World → β → Prop} (h : Opn P t k enc mem) (f : α → β) (he : ∀ a, enc a = enc' (f a)) (hl : ∀ b, (enc' b).length = k) (hm : ∀ w a, mem w a → mem' w (f a)) : Opn P t k enc' mem' := by
  refine ⟨hl, fun {H en w n cs x} hx => ?_⟩
  obtain ⟨a, rfl, ha⟩ := h.2 hx
  exact ⟨f a, he a, hm w a ha⟩

/-- fields from an offset on -/
def Flds (P : Program) (fs : List Field) (off k : Nat) {α : Type} (enc : α → List Value) (mem : World → α → Prop) : Prop :=
  (∀ a, (enc a).length = k) ∧ ∀ {H : Type} {en : TypeId × Value → H} {w : World} {n : Nat} {cs : List Value} (ys : List (DataW H × List MemPlace)), cs.length = off + k → ys.length = fs.length →
    (∀ (i : Nat) (f : Field), fs[i]? = some f → DataW.trod en P w 0 (fun _ => true) true n f.type ((cs.drop f.offset).take (P.cellsOf f.type)) = ys[i]?) → ∃ a, cs.drop off = enc a ∧ mem w a

theorem Flds.one {f : Field} {off k : Nat} {α : Type} {enc : α → List Value} {mem : World → α → Prop} (h : Opn P f.type k enc mem) (ho : f.offset = off) (hc : P.cellsOf f.type = k) : Flds P [f] off k enc mem := by
  refine ⟨h.1, fun {H en w n cs} ys hl hy hf => ?_⟩
  have h0 := hf 0 f rfl
  rw [ho, hc, List.take_of_length_le (by simp; omega)] at h0
  cases hy0 : ys[0]? with
  | none => have := List.getElem?_eq_none_iff.1 hy0; simp at hy; omega
  | some y =>
    rw [hy0] at h0
    exact h.2 h0
theorem Flds.cons {f : Field} {fs : List Field} {off k1 k2 : Nat} {α β : Type} {enc1 : α → List Value} {mem1 : World → α → Prop} {enc2 : β → List Value} {mem2 : World → β → Prop} (h : Opn P f.type k1 enc1 mem1) (ho : f.offset = off) (hc : P.cellsOf f.type = k1)
    (hr : Flds P fs (off + k1) k2 enc2 mem2) : Flds P (f :: fs) off (k1 + k2) (fun a : α × β => enc1 a.1 ++ enc2 a.2) (fun w a => mem1 w a.1 ∧ mem2 w a.2) := by
  refine ⟨fun a => by simp [h.1, hr.1], fun {H en w n cs} ys hl hy hf => ?_⟩
  have h0 := hf 0 f rfl
  rw [ho, hc] at h0
  match ys, hy with
  | y :: ys, hy =>
    obtain ⟨a, ea, ma⟩ := h.2 h0
    obtain ⟨b, eb, mb⟩ := hr.2 (H := H) (en := en) (w := w) (n := n) (cs := cs) ys (by omega) (by simpa using hy) (fun i f hi => by simpa using hf (i + 1) f (by simpa using hi))
    refine ⟨(a, b), ?_, ma, mb⟩
    show cs.drop off = enc1 a ++ enc2 b
    rw [← ea, ← eb, ← List.drop_drop, List.take_append_drop]
theorem Opn.struct {t k : Nat} {fs : Array Field} {α : Type} {enc : α → List Value} {mem : World → α → Prop} (ht : P.underlying t = some (.struct fs)) (hF : Flds P fs.toList 0 k enc mem) (hC : P.cellsOf t = k) : Opn P t k enc mem := by
  refine ⟨hF.1, fun {H en w n cs x} h => ?_⟩
  obtain ⟨ys, n', hn', hy, hlen, hyl, hf⟩ := DataW.trod_struct ht h
  obtain ⟨a, ea, ma⟩ := hF.2 (H := H) (en := en) (w := w) (n := n') (cs := cs) ys (by omega) (by simpa using hyl) (fun i f hi => hf i f (by simpa using hi))
  exact ⟨a, by simpa using ea, ma⟩

/-- a slice whose elements are known -/
structure Sl (α : Type) where
  A : Option Addr
  c : Nat
  l : List α
def encS {α : Type} (s : Sl α) : List Value := [.slice s.A s.l.length s.c]
abbrev slg {α : Type} (s : Sl α) : Value := .slice s.A s.l.length s.c
def memS (k : Nat) {α : Type} (enc : α → List Value) (mem : World → α → Prop) (w : World) (s : Sl α) : Prop :=
  s.l.length ≤ s.c ∧ s.c ≤ maxLen ∧ Rd w k s.A s.l.length (s.l.flatMap enc) ∧ ∀ a ∈ s.l, mem w a

theorem fm_len {α : Type} {enc : α → List Value} {k : Nat} (h : ∀ a, (enc a).length = k) : ∀ l : List α, (l.flatMap enc).length = l.length * k
  | [] => by simp
  | a :: l => by simp [h, fm_len h l, Nat.add_mul]; omega
theorem fm_get {α : Type} {enc : α → List Value} {k : Nat} (h : ∀ a, (enc a).length = k) : ∀ (l : List α) (i : Nat) (hi : i < l.length) (j : Nat), j < k → (l.flatMap enc)[i * k + j]? = (enc l[i])[j]?
  | [], i, hi, j, _ => by simp at hi
  | a :: l, 0, hi, j, hj => by
    simp only [List.flatMap_cons, Nat.zero_mul, Nat.zero_add, List.getElem_cons_zero]
    rw [List.getElem?_append_left (by rw [h]; exact hj)]
  | a :: l, i + 1, hi, j, hj => by
    simp only [List.flatMap_cons, List.getElem_cons_succ]
    rw [List.getElem?_append_right (by rw [h, Nat.add_mul]; omega), ← fm_get h l i (by simpa using hi) j hj]
    congr 1
    rw [h, Nat.add_mul]; omega

theorem Opn.slice {t e k : Nat} {α : Type} {enc : α → List Value} {mem : World → α → Prop} (ht : P.underlying t = some (.slice e)) (hI : Opn P e k enc mem) (hC : P.cellsOf e = k) (hk : 0 < k) : Opn P t 1 (encS (α := α)) (memS k enc mem) := by
  refine ⟨fun _ => rfl, fun {H en w n cs x} h => ?_⟩
  rcases open_slice ht h with ⟨hcs, hx⟩ | ⟨a, len, cap, m, n, D, Pl, hcs, hb, hl, hm, hmm, hx, hi⟩
  · exact ⟨⟨none, 0, []⟩, hcs, Nat.le_refl _, Nat.zero_le _, Rd.nil, by simp⟩
  · simp only [if_true] at hmm
    subst hmm
    have hq : ∀ i, i < len → ∃ z : α, mem w z ∧ ∀ j, j < k → w.cell? (a.add (i * k + j)) = (enc z)[j]? := by
      intro i hil
      obtain ⟨cs', hc, ht'⟩ := hi i (by omega)
      obtain ⟨z, rfl, hz⟩ := hI.2 ht'
      obtain ⟨_, _, hat⟩ := World.cells?_some hc
      rw [hC] at hat
      refine ⟨z, hz, fun j hj => ?_⟩
      rw [← Go.Deep.add_add]
      exact hat j hj
    obtain ⟨ls, hls, hql⟩ := list_of len hq
    subst hls
    refine ⟨⟨some a, m, ls⟩, hcs, hl, hm, ⟨fm_len hI.1 ls, fun hpos => ?_⟩, fun z hz => ?_⟩
    · have hlp : 0 < ls.length := by
        rcases Nat.eq_zero_or_pos ls.length with h0 | h0
        · simp only [h0, Nat.zero_mul] at hpos; omega
        · exact h0
      have h00 := (hql 0 hlp).2 0 hk
      rw [Nat.zero_mul, Nat.add_zero, List.getElem?_eq_getElem (by rw [hI.1]; exact hk)] at h00
      have ha0 : a.add 0 = a := by simp [Addr.add]
      rw [ha0] at h00
      obtain ⟨b, o, s⟩ := a
      have hs : s = none := by
        cases s with
        | none => rfl
        | some s =>
          exfalso
          simp only [World.cell?] at h00
          split at h00 <;> simp at h00
      subst hs
      refine ⟨b, o, rfl, cell_lt h00, fun j u hu => ?_⟩
      have hj : j < ls.length * k := by
        have := (List.getElem?_eq_some_iff.1 hu).1
        rwa [fm_len hI.1 ls] at this
      have hdm : j / k < ls.length := Nat.div_lt_of_lt_mul (by rw [Nat.mul_comm]; exact hj)
      have hjm : j / k * k + j % k = j := Nat.div_add_mod' j k
      have h1 := (hql (j / k) hdm).2 (j % k) (Nat.mod_lt _ hk)
      rw [hjm, add_none] at h1
      rw [h1, ← fm_get hI.1 ls (j / k) hdm (j % k) (Nat.mod_lt _ hk), hjm]
      exact hu
    · obtain ⟨i, hi', rfl⟩ := List.getElem_of_mem hz
      exact (hql i hi').1

/-- an argument of a struct's type -/
theorem Opn.agg {t k : Nat} {fs : Array Field} {α : Type} {enc : α → List Value} {mem : World → α → Prop} (hO : Opn P t k enc mem) (ht : P.underlying t = some (.struct fs)) {H : Type} {en : TypeId × Value → H} {w : World} {r : Reach} {b0 : Nat} {v : Value} {d : DataW H} {p : List MemPlace}
    (hv : Value.okWide P w r b0 t v) (h : DataW.Trod en P w 0 (fun _ => true) true t v d p) : ∃ a, v = .agg (enc a).toArray ∧ mem w a := by
  obtain ⟨cs, rfl, hsz⟩ := okWide_struct ht hv
  obtain ⟨fuel, hf⟩ := h
  obtain ⟨a, ea, ma⟩ := hO.2 hf
  refine ⟨a, ?_, ma⟩
  simp only [Value.cells] at ea
  rw [← ea]
/-- .. of a slice's type -/
theorem Opn.sl {t k : Nat} {α : Type} {enc : α → List Value} {mem : World → α → Prop} (hO : Opn P t 1 (encS (α := α)) (memS k enc mem)) {e : Nat} (ht : P.underlying t = some (.slice e)) {H : Type} {en : TypeId × Value → H} {w : World} {r : Reach} {b0 : Nat} {v : Value} {d : DataW H} {p : List MemPlace}
    (hv : Value.okWide P w r b0 t v) (h : DataW.Trod en P w 0 (fun _ => true) true t v d p) : ∃ s : Sl α, v = slg s ∧ memS k enc mem w s := by
  obtain ⟨a, len, cap, rfl⟩ := okWide_slice ht hv
  obtain ⟨fuel, hf⟩ := h
  obtain ⟨s, es, ms⟩ := hO.2 hf
  refine ⟨s, ?_, ms⟩
  simp only [Value.cells, encS] at es
  simpa using es
/-- .. a text -/
theorem Opn.st {t : Nat} (ht : P.underlying t = some .string) {H : Type} {en : TypeId × Value → H} {w : World} {r : Reach} {b0 : Nat} {v : Value} {d : DataW H} {p : List MemPlace}
    (hv : Value.okWide P w r b0 t v) (h : DataW.Trod en P w 0 (fun _ => true) true t v d p) : ∃ s : ByteArray, v = .string s ∧ s.size ≤ maxLen := by
  obtain ⟨s, hs, _, _, hl⟩ := Go.ChangeMaps.open_string ht hv h
  exact ⟨s, hs, hl⟩
end
end Go.Proofs.Ytahmkinppighkaa
