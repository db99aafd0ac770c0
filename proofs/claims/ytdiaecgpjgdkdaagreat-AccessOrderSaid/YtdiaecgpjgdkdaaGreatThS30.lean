/- Lemmas for the rows: Lift Open Gop. -/
import Derived.Test.YtdiaecgpjgdkdaaGreatThS04
import Derived.ProofKit
import Derived.SizedLaws
import Derived.OpenShut
import Derived.Lib.SmallJoins
import Derived.Deep.Slices
import Derived.Deep.Fields
import Derived.ChangeSame
import Derived.ChangeMaps5
set_option linter.unusedSimpArgs false
set_option linter.unusedVariables false
namespace Go.Proofs.YtdiaecgpjgdkdaaGreat
open Go.ChangeShapes Go.WideShapes Go.ChangeAt Go.RowKit Go.Joins Go.Deep

theorem Tryz.own : ownKnob Tryz.prog.godebug = none := by kernel_rfl
theorem Tryz.laidOut : laidOutB Tryz.prog = true := by kernel_rfl

section
variable {H : Type} {enc : TypeId × Value → H} {P : Program}

theorem trodAll_stays (hl : laidOutB P = true) {W W' : World} {sp : Nat → Bool} : ∀ (ts : List TypeId) (vs : List Value) (ds : List (DataW H)) (ps : List MemPlace), (∀ t ∈ ts, P.readableRec t = true ∧ t < P.types.size) →
  DataW.TrodAll enc P W 0 (fun _ => true) true ts vs ds ps → (∀ x ∈ ps, W.sameAt W' x) → (∀ x ∈ ps, sp x.block = true) → DataW.TrodAll enc P W' 0 sp true ts vs ds ps
 | [], vs, ds, ps, _, h, _, _ => by
  cases vs <;> cases ds <;> simp [DataW.TrodAll] at h ⊢
  exact h
 | t :: ts, vs, ds, ps, hr, h, hs, hsp => by
  obtain ⟨v, vs', d, ds', p, q, rfl, rfl, rfl, h1, h2⟩ := trodAll_cons h
  exact trodAll_cons_mk (WideElems.Trod_stays hl (hr t (by simp)).1 (hr t (by simp)).2 h1 (fun x hx => hs x (by simp [hx])) (fun x hx => hsp x (by simp [hx])))
   (trodAll_stays hl ts vs' ds' q (fun t ht => hr t (by simp [ht])) h2 (fun x hx => hs x (by simp [hx])) (fun x hx => hsp x (by simp [hx])))

def LawSpec (s : ChangeSpec) (n : Nat) : Prop := s.vars = [] ∧ ∀ (H : Type) (ds : List (DataW H)), ds.length = n → s.fn H ds = { results := [.lit (.bool true)], args := ds }

theorem trodAll_len : ∀ {ts : List TypeId} {vs : List Value} {ds : List (DataW H)} {ps : List MemPlace} {W : World} {b : Nat} {sp : Nat → Bool} {hd : Bool}, DataW.TrodAll enc P W b sp hd ts vs ds ps → ds.length = ts.length
 | [], vs, ds, ps, _, _, _, _, h => by cases vs <;> cases ds <;> simp [DataW.TrodAll] at h ⊢
 | t :: ts, vs, ds, ps, _, _, _, _, h => by
  obtain ⟨v, vs', d, ds', p, q, rfl, rfl, rfl, h1, h2⟩ := trodAll_cons h
  simp [trodAll_len h2]

theorem law_post {fn : Func} {s : ChangeSpec} {tb : TypeId} (hl : laidOutB P = true) (hs : LawSpec s fn.params.size) (hp : ∀ t ∈ fn.params.toList, P.readableRec t = true ∧ t < P.types.size) (hb : P.underlying tb = some .bool) (hrt : fn.resultTypes = #[tb])
  {W W' : World} {args : Array Value} {ds gs : List (DataW H)} {before : List MemPlace} (hW : DataW.Whole enc P fn.params.toList s.vars false W args.toList ds gs before) (hE : Ext W W') :
  s.post enc P fn false true false false W args (.bool true) W' := by
 have hW' := hW
 have hlt : ∀ p ∈ before, p.block < W.heap.size := fun p hp => hW.lt p hp
 obtain ⟨p, q, hA, hV, rfl, hfz, hnd⟩ := hW
 rw [hs.1] at hV
 obtain ⟨rfl, rfl⟩ := trodVars_none hV
 have hlen : ds.length = fn.params.size := by have := trodAll_len hA; simpa using this
 have hfn := hs.2 H ds hlen
 refine ⟨ds, [], p ++ [], [], p, [], hW', ?_, ?_, ?_, World.keptBut_mono (fun x hx => ⟨hx, Or.inr (Or.inl (by simpa using hx))⟩) (Below.frame hE (· ∈ p ++ [])), fun h => by cases h⟩
 ·
  rw [List.append_nil, hfn, hrt]
  exact trodAll_mk1 (shut_bool hb true)
 ·
  rw [List.append_nil, hfn]
  exact trodAll_stays hl _ _ _ _ hp hA (fun x hx => Below.same hE (hlt x (by simp [hx]))) (fun x hx => by simpa using hlt x (by simp [hx]))
 ·
  rw [List.append_nil, hfn, hs.1]
  rfl

end

end Go.Proofs.YtdiaecgpjgdkdaaGreat

namespace Go.Proofs.YtdiaecgpjgdkdaaGreat
open Go.ChangeShapes Go.WideShapes Go.ChangeAt Go.RowKit Go.Joins Go.Deep

section
variable {P : Program}

theorem list_of {α : Type} {Q : Nat → α → Prop} : ∀ n : Nat, (∀ i, i < n → ∃ p, Q i p) → ∃ l : List α, l.length = n ∧ ∀ i (h : i < l.length), Q i l[i]
 | 0, _ => ⟨[], rfl, fun i h => by simp at h⟩
 | n + 1, h => by
  obtain ⟨l, hl, hq⟩ := list_of n (fun i hi => h i (by omega))
  obtain ⟨p, hp⟩ := h n (by omega)
  refine ⟨l ++ [p], by simp [hl], fun i hi => ?_⟩
  by_cases hin : i < l.length
  ·
   rw [List.getElem_append_left hin]; exact hq i hin
  ·
   have : i = n := by simp at hi; omega
   subst this
   rw [List.getElem_append_right (by omega)]
   simpa [hl] using hp

end

end Go.Proofs.YtdiaecgpjgdkdaaGreat

namespace Go.Proofs.YtdiaecgpjgdkdaaGreat
open Go.ChangeShapes Go.WideShapes Go.ChangeAt Go.RowKit Go.Joins Go.Deep

section
variable {P : Program}

def Opn (P : Program) (t k : Nat) {α : Type} (enc : α → List Value) (mem : World → α → Prop) : Prop :=
 (∀ a, (enc a).length = k) ∧ ∀ {H : Type} {en : TypeId × Value → H} {w : World} {n : Nat} {cs : List Value} {x : DataW H × List MemPlace},
  DataW.trod en P w 0 (fun _ => true) true n t cs = some x → ∃ a, cs = enc a ∧ mem w a

theorem Opn.int {t : TypeId} {k : IntKind} (ht : P.underlying t = some (.int k)) : Opn P t 1 (fun a : Int => [.int k a]) (fun _ a => (Lit.int k a).wf = true) := by
 refine ⟨fun _ => rfl, fun {H en w n cs x} h => ?_⟩
 obtain ⟨a, rfl, _, hw⟩ := DataW.trod_int ht h
 exact ⟨a, rfl, hw⟩
theorem Opn.bool {t : TypeId} (ht : P.underlying t = some .bool) : Opn P t 1 (fun a : Bool => [.bool a]) (fun _ _ => True) := by
 refine ⟨fun _ => rfl, fun {H en w n cs x} h => ?_⟩
 obtain ⟨a, rfl, _⟩ := DataW.trod_bool ht h
 exact ⟨a, rfl, trivial⟩
theorem Opn.str {t : TypeId} (ht : P.underlying t = some .string) : Opn P t 1 (fun a : ByteArray => [.string a]) (fun _ a => a.size ≤ maxLen) := by
 refine ⟨fun _ => rfl, fun {H en w n cs x} h => ?_⟩
 obtain ⟨a, rfl, _, hs⟩ := DataW.trod_string ht h
 exact ⟨a, rfl, hs⟩
theorem Opn.as {t k : Nat} {α β : Type} {enc : α → List Value} {mem : World → α → Prop} {enc' : β → List Value} {mem' : World → β → Prop} (h : Opn P t k enc mem) (f : α → β) (he : ∀ a, enc a = enc' (f a)) (hl : ∀ b, (enc' b).length = k) (hm : ∀ w a, mem w a → mem' w (f a)) : Opn P t k enc' mem' := by
 refine ⟨hl, fun {H en w n cs x} hx => ?_⟩
 obtain ⟨a, rfl, ha⟩ := h.2 hx
 exact ⟨f a, he a, hm w a ha⟩

def Flds (P : Program) (fs : List Field) (off k : Nat) {α : Type} (enc : α → List Value) (mem : World → α → Prop) : Prop :=
 (∀ a, (enc a).length = k) ∧ ∀ {H : Type} {en : TypeId × Value → H} {w : World} {n : Nat} {cs : List Value} (ys : List (DataW H × List MemPlace)), cs.length = off + k → ys.length = fs.length →
  (∀ (i : Nat) (f : Field), fs[i]? = some f → DataW.trod en P w 0 (fun _ => true) true n f.type ((cs.drop f.offset).take (P.cellsOf f.type)) = ys[i]?) → ∃ a, cs.drop off = enc a ∧ mem w a

theorem Flds.one {f : Field} {off k : Nat} {α : Type} {enc : α → List Value} {mem : World → α → Prop} (h : Opn P f.type k enc mem) (ho : f.offset = off) (hc : P.cellsOf f.type = k) : Flds P [f] off k enc mem := by
 refine ⟨h.1, fun {H en w n cs} ys hl hy hf => ?_⟩
 have h0 := hf 0 f rfl
 rw [ho, hc, List.take_of_length_le (by simp; omega)] at h0
 cases hy0 : ys[0]? with
 | none => have := List.getElem?_eq_none_iff.1 hy0; simp at hy; omega
 | some y =>
  rw [hy0] at h0
  exact h.2 h0
theorem Flds.cons {f : Field} {fs : List Field} {off k1 k2 : Nat} {α β : Type} {enc1 : α → List Value} {mem1 : World → α → Prop} {enc2 : β → List Value} {mem2 : World → β → Prop} (h : Opn P f.type k1 enc1 mem1) (ho : f.offset = off) (hc : P.cellsOf f.type = k1)
  (hr : Flds P fs (off + k1) k2 enc2 mem2) : Flds P (f :: fs) off (k1 + k2) (fun a : α × β => enc1 a.1 ++ enc2 a.2) (fun w a => mem1 w a.1 ∧ mem2 w a.2) := by
 refine ⟨fun a => by simp [h.1, hr.1], fun {H en w n cs} ys hl hy hf => ?_⟩
 have h0 := hf 0 f rfl
 rw [ho, hc] at h0
 match ys, hy with
 | y :: ys, hy =>
  obtain ⟨a, ea, ma⟩ := h.2 h0
  obtain ⟨b, eb, mb⟩ := hr.2 (H := H) (en := en) (w := w) (n := n) (cs := cs) ys (by omega) (by simpa using hy) (fun i f hi => by simpa using hf (i + 1) f (by simpa using hi))
  refine ⟨(a, b), ?_, ma, mb⟩
  show cs.drop off = enc1 a ++ enc2 b
  rw [← ea, ← eb, ← List.drop_drop, List.take_append_drop]
theorem Opn.struct {t k : Nat} {fs : Array Field} {α : Type} {enc : α → List Value} {mem : World → α → Prop} (ht : P.underlying t = some (.struct fs)) (hF : Flds P fs.toList 0 k enc mem) (hC : P.cellsOf t = k) : Opn P t k enc mem := by
 refine ⟨hF.1, fun {H en w n cs x} h => ?_⟩
 obtain ⟨ys, n', hn', hy, hlen, hyl, hf⟩ := DataW.trod_struct ht h
 obtain ⟨a, ea, ma⟩ := hF.2 (H := H) (en := en) (w := w) (n := n') (cs := cs) ys (by omega) (by simpa using hyl) (fun i f hi => hf i f (by simpa using hi))
 exact ⟨a, by simpa using ea, ma⟩

structure Sl (α : Type) where
 A : Option Addr
 c : Nat
 l : List α
def encS {α : Type} (s : Sl α) : List Value := [.slice s.A s.l.length s.c]
def memS (k : Nat) {α : Type} (enc : α → List Value) (mem : World → α → Prop) (w : World) (s : Sl α) : Prop :=
 s.l.length ≤ s.c ∧ s.c ≤ maxLen ∧ Rd w k s.A s.l.length (s.l.flatMap enc) ∧ ∀ a ∈ s.l, mem w a

theorem fm_len {α : Type} {enc : α → List Value} {k : Nat} (h : ∀ a, (enc a).length = k) : ∀ l : List α, (l.flatMap enc).length = l.length * k
 | [] => by simp
 | a :: l => by simp [h, fm_len h l, Nat.add_mul]; omega
theorem fm_get {α : Type} {enc : α → List Value} {k : Nat} (h : ∀ a, (enc a).length = k) : ∀ (l : List α) (i : Nat) (hi : i < l.length) (j : Nat), j < k → (l.flatMap enc)[i * k + j]? = (enc l[i])[j]?
 | [], i, hi, j, _ => by simp at hi
 | a :: l, 0, hi, j, hj => by
  simp only [List.flatMap_cons, Nat.zero_mul, Nat.zero_add, List.getElem_cons_zero]
  rw [List.getElem?_append_left (by rw [h]; exact hj)]
 | a :: l, i + 1, hi, j, hj => by
  simp only [List.flatMap_cons, List.getElem_cons_succ]
  rw [List.getElem?_append_right (by rw [h, Nat.add_mul]; omega), ← fm_get h l i (by simpa using hi) j hj]
  congr 1
  rw [h, Nat.add_mul]; omega

end
end Go.Proofs.YtdiaecgpjgdkdaaGreat
