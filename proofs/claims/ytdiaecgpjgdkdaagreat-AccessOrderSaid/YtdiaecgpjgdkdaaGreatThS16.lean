/- Lemmas for the rows: Cmz BtP. -/
import Derived.Test.YtdiaecgpjgdkdaaGreatThS00
import Derived.Test.YtdiaecgpjgdkdaaGreatThS11
import Derived.Sort.Walk0
set_option linter.unusedSimpArgs false
set_option linter.unusedVariables false
namespace Go.Proofs.YtdiaecgpjgdkdaaGreat
open Go.RowKit

theorem lt_irr (t : List UInt8) : ¬ t < t := List.lt_irrefl t
theorem tri (s t : List UInt8) : s < t ∨ s = t ∨ t < s := by
 rcases Classical.em (s < t) with h | h
 ·
  exact .inl h
 ·
  rcases Classical.em (t < s) with h2 | h2
  ·
   exact .inr (.inr h2)
  ·
   exact .inr (.inl (List.le_antisymm (List.not_lt.1 h2) (List.not_lt.1 h)))
theorem bl_lt (a b : ByteArray) : Op.bytesLess a.toList b.toList = decide (a.data.toList < b.data.toList) := by
 rw [ByteArray.toList_eq, ByteArray.toList_eq, bytesLess_eq]
theorem cmpI_zero {a b : Int} : cmpI a b = 0 ↔ a = b := ⟨fun h => by rcases Classical.em (a = b) with e | e; exact e; exact absurd h (cmpI_ne e), cmpI_eq⟩
theorem cb_zero {x y : List UInt8} : Lib.compareBytes x y = 0 ↔ x = y := by
 rw [cb_spec, bytesLess_eq]
 constructor
 ·
  intro h
  split at h
  ·
   cases h
  ·
   split at h
   ·
    assumption
   ·
    cases h
 ·
  rintro rfl; rw [if_neg (by simp [lt_irr]), if_pos rfl]
theorem cmpV_zero {a b : Va} : cmpV a b = 0 ↔ a = b := by
 unfold cmpV
 simp only [orF]
 constructor
 ·
  intro h
  split at h
  ·
   rename_i h1
   split at h
   ·
    rename_i h2
    split at h
    ·
     rename_i h3
     obtain ⟨ak, ai, at'⟩ := a; obtain ⟨bk, bi, bt⟩ := b
     rw [cmpI_zero] at h1 h2
     rw [cb_zero] at h3
     simp only at h1 h2 h3
     have : at' = bt := ByteArray.ext (Array.toList_inj.1 h3)
     rw [h1, h2, this]
    ·
     rename_i h3; exact absurd h h3
   ·
    rename_i h2; exact absurd h h2
  ·
   rename_i h1; exact absurd h h1
 ·
  rintro rfl
  rw [if_pos (cmpI_zero.2 rfl), if_pos (cmpI_zero.2 rfl), if_pos (cb_zero.2 rfl)]
theorem cmpR_zero : ∀ {a b : List Va}, cmpR a b = 0 ↔ a = b
 | [], [] => by simp [cmpR]
 | [], _ :: _ => by simp [cmpR]
 | _ :: _, [] => by simp [cmpR]
 | x :: a, y :: b => by
  by_cases h : cmpV x y = 0
  ·
   rw [cmpR_eq h, cmpR_zero, cmpV_zero.1 h]; simp
  ·
   rw [cmpR_ne h]
   constructor
   ·
    intro h2; exact absurd h2 h
   ·
    intro h2; cases h2; exact absurd (cmpV_zero.2 rfl) h
end Go.Proofs.YtdiaecgpjgdkdaaGreat

namespace Go.Proofs.YtdiaecgpjgdkdaaGreat
open Go.RowKit

def ltV (a b : Va) : Prop := a.k < b.k ∨ a.k = b.k ∧ (a.i < b.i ∨ a.i = b.i ∧ a.t.data.toList < b.t.data.toList)
theorem ltV_trans {a b c : Va} (h : ltV a b) (k : ltV b c) : ltV a c := by
 unfold ltV at *
 rcases h with h | ⟨h1, h | ⟨h2, h⟩⟩ <;> rcases k with k | ⟨k1, k | ⟨k2, k⟩⟩
 ·
  left; omega
 ·
  left; omega
 ·
  left; omega
 ·
  left; omega
 ·
  right; exact ⟨by omega, .inl (by omega)⟩
 ·
  right; exact ⟨by omega, .inl (by omega)⟩
 ·
  left; omega
 ·
  right; exact ⟨by omega, .inl (by omega)⟩
 ·
  right; exact ⟨by omega, .inr ⟨by omega, List.lt_trans h k⟩⟩
theorem ltV_irr (a : Va) : ¬ ltV a a := by
 rintro (h | ⟨_, h | ⟨_, h⟩⟩)
 ·
  omega
 ·
  omega
 ·
  exact lt_irr _ h
theorem ltV_tri (a b : Va) : ltV a b ∨ a = b ∨ ltV b a := by
 unfold ltV
 rcases Int.lt_trichotomy a.k b.k with h | h | h
 ·
  exact .inl (.inl h)
 ·
  rcases Int.lt_trichotomy a.i b.i with h2 | h2 | h2
  ·
   exact .inl (.inr ⟨h, .inl h2⟩)
  ·
   rcases tri a.t.data.toList b.t.data.toList with h3 | h3 | h3
   ·
    exact .inl (.inr ⟨h, .inr ⟨h2, h3⟩⟩)
   ·
    refine .inr (.inl ?_)
    have h4 : a.t = b.t := ByteArray.ext (Array.toList_inj.1 h3)
    cases a; cases b; simp_all
   ·
    exact .inr (.inr (.inr ⟨h.symm, .inr ⟨h2.symm, h3⟩⟩))
  ·
   exact .inr (.inr (.inr ⟨h.symm, .inl h2⟩))
 ·
  exact .inr (.inr (.inl h))
theorem cmpV_lt {a b : Va} : cmpV a b < 0 ↔ ltV a b := by
 have hb : Op.bytesLess a.t.toList b.t.toList = decide (a.t.data.toList < b.t.data.toList) := bl_lt _ _
 unfold ltV
 rcases cmpV_ways a b with ⟨h1, h0⟩ | ⟨h1, h0, hd⟩ | ⟨h1, h2, h0⟩ | ⟨h1, h2, h0, hd⟩ | ⟨h1, h2, h3, h0⟩ | ⟨h1, h2, h3, h0, hd⟩ | ⟨h1, h2, h3, h0, hd⟩
 ·
  simp [h0, h1]
 ·
  simp only [h0]
  constructor
  ·
   intro h; omega
  ·
   rintro (h | ⟨h, _⟩) <;> omega
 ·
  simp [h0, h1, h2]
 ·
  simp only [h0]
  constructor
  ·
   intro h; omega
  ·
   rintro (h | ⟨h, h | ⟨h', _⟩⟩) <;> omega
 ·
  rw [hb] at h3
  simp only [h0]
  exact ⟨fun _ => .inr ⟨h1, .inr ⟨h2, of_decide_eq_true h3⟩⟩, fun _ => by decide⟩
 ·
  rw [hb] at h3
  have h4 := of_decide_eq_false h3
  simp only [h0]
  constructor
  ·
   intro h; omega
  ·
   rintro (h | ⟨h, h | ⟨h', h⟩⟩)
   ·
    omega
   ·
    omega
   ·
    exact absurd h h4
 ·
  subst hd
  rw [h0]
  exact ⟨fun h => absurd h (by decide), fun h => absurd h (ltV_irr a)⟩
def ltR : List Va → List Va → Prop
 | [], [] => False
 | [], _ :: _ => True
 | _ :: _, [] => False
 | x :: a, y :: b => ltV x y ∨ x = y ∧ ltR a b
theorem ltR_trans : ∀ {a b c : List Va}, ltR a b → ltR b c → ltR a c
 | _, [], [], _, k => by cases k
 | [], [], _ :: _, h, _ => by cases h
 | _ :: _, [], _ :: _, h, _ => by cases h
 | [], _ :: _, [], _, k => by cases k
 | _ :: _, _ :: _, [], _, k => by cases k
 | [], _ :: _, _ :: _, _, _ => trivial
 | x :: a, y :: b, z :: c, h, k => by
  unfold ltR at *
  rcases h with h | ⟨rfl, h⟩ <;> rcases k with k | ⟨rfl, k⟩
  ·
   exact .inl (ltV_trans h k)
  ·
   exact .inl h
  ·
   exact .inl k
  ·
   exact .inr ⟨rfl, ltR_trans h k⟩
theorem ltR_irr : ∀ (a : List Va), ¬ ltR a a
 | [], h => h
 | x :: a, h => by
  unfold ltR at h
  rcases h with h | ⟨_, h⟩
  ·
   exact ltV_irr x h
  ·
   exact ltR_irr a h
theorem ltR_tri : ∀ (a b : List Va), ltR a b ∨ a = b ∨ ltR b a
 | [], [] => .inr (.inl rfl)
 | [], _ :: _ => .inl trivial
 | _ :: _, [] => .inr (.inr trivial)
 | x :: a, y :: b => by
  rcases ltV_tri x y with h | rfl | h
  ·
   exact .inl (.inl h)
  ·
   rcases ltR_tri a b with h | rfl | h
   ·
    exact .inl (.inr ⟨rfl, h⟩)
   ·
    exact .inr (.inl rfl)
   ·
    exact .inr (.inr (.inr ⟨rfl, h⟩))
  ·
   exact .inr (.inr (.inl h))
theorem cmpR_lt : ∀ {a b : List Va}, cmpR a b < 0 ↔ ltR a b
 | [], [] => by rw [cmpR_nil_nil]; simp [ltR]
 | [], y :: b => by rw [cmpR_nil]; simp [ltR]
 | x :: a, [] => by rw [cmpR_lo]; simp [ltR]
 | x :: a, y :: b => by
  unfold ltR
  by_cases h : cmpV x y = 0
  ·
   rw [cmpR_eq h, cmpR_lt]
   have := cmpV_zero.1 h
   subst this
   exact ⟨fun h => .inr ⟨rfl, h⟩, fun h => h.elim (fun h => absurd h (ltV_irr x)) (·.2)⟩
  ·
   rw [cmpR_ne h, cmpV_lt]
   exact ⟨.inl, fun k => k.elim id fun e => absurd (cmpV_zero.2 e.1) h⟩
abbrev Kp := List Va × Int
def ltP (a b : Kp) : Prop := ltR a.1 b.1 ∨ a.1 = b.1 ∧ a.2 < b.2
theorem ltP_trans {a b c : Kp} (h : ltP a b) (k : ltP b c) : ltP a c := by
 unfold ltP at *
 rcases h with h | ⟨h1, h⟩ <;> rcases k with k | ⟨k1, k⟩
 ·
  exact .inl (ltR_trans h k)
 ·
  exact .inl (k1 ▸ h)
 ·
  exact .inl (h1 ▸ k)
 ·
  exact .inr ⟨h1.trans k1, by omega⟩
theorem ltP_irr (a : Kp) : ¬ ltP a a := by
 rintro (h | ⟨_, h⟩)
 ·
  exact ltR_irr _ h
 ·
  omega
theorem ltP_tri (a b : Kp) : ltP a b ∨ a = b ∨ ltP b a := by
 unfold ltP
 rcases ltR_tri a.1 b.1 with h | h | h
 ·
  exact .inl (.inl h)
 ·
  rcases Int.lt_trichotomy a.2 b.2 with h2 | h2 | h2
  ·
   exact .inl (.inr ⟨h, h2⟩)
  ·
   exact .inr (.inl (Prod.ext h h2))
  ·
   exact .inr (.inr (.inr ⟨h.symm, h2⟩))
 ·
  exact .inr (.inr (.inl h))
theorem ltP_asymm {a b : Kp} (h : ltP a b) : ¬ ltP b a := fun k => ltP_irr a (ltP_trans h k)
def cmpP (a b : Kp) : Int := if cmpR a.1 b.1 = 0 then (if a.2 < b.2 then -1 else if b.2 < a.2 then 1 else 0) else cmpR a.1 b.1
theorem cmpP_lt {a b : Kp} : cmpP a b < 0 ↔ ltP a b := by
 unfold cmpP ltP
 by_cases h : cmpR a.1 b.1 = 0
 ·
  rw [if_pos h]
  have e := cmpR_zero.1 h
  have hn : ¬ ltR a.1 b.1 := by rw [e]; exact ltR_irr _
  by_cases h1 : a.2 < b.2
  ·
   simp [h1, e]
  ·
   by_cases h2 : b.2 < a.2 <;> simp [h1, h2, hn]
 ·
  rw [if_neg h, cmpR_lt]
  exact ⟨.inl, fun k => k.elim id fun k => absurd (cmpR_zero.2 k.1) h⟩
theorem cmpP_zero {a b : Kp} : cmpP a b = 0 ↔ a = b := by
 unfold cmpP
 by_cases h : cmpR a.1 b.1 = 0
 ·
  rw [if_pos h]
  have e := cmpR_zero.1 h
  constructor
  ·
   intro k
   refine Prod.ext e ?_
   split at k
   ·
    omega
   ·
    split at k
    ·
     omega
    ·
     omega
  ·
   rintro rfl; simp
 ·
  rw [if_neg h]
  exact ⟨fun k => absurd k h, fun k => absurd (by rw [k]; exact cmpR_zero.2 rfl) h⟩
structure MP where
 A : Option Addr
 n : Nat
 c : Nat
 key : List Va
 id : Int
def MP.kp (p : MP) : Kp := (p.key, p.id)
inductive MT where
 | nd (r : Nat) (vp vk : Value) (ps : List MP) (ks : List MT)
def MT.r : MT → Nat | .nd r _ _ _ _ => r
def MT.vp : MT → Value | .nd _ v _ _ _ => v
def MT.vk : MT → Value | .nd _ _ v _ _ => v
def MT.ps : MT → List MP | .nd _ _ _ ps _ => ps
def MT.ks : MT → List MT | .nd _ _ _ _ ks => ks
def inter : List MP → List (List MP) → List MP
 | ps, [] => ps
 | [], k :: _ => k
 | p :: ps, k :: ks => k ++ p :: inter ps ks
def pre : List MP → List (List MP) → List MP
 | p :: ps, k :: ks => k ++ p :: pre ps ks
 | _, _ => []
def post : List MP → List (List MP) → List MP
 | p :: ps, k :: ks => p :: (k ++ post ps ks)
 | ps, _ => ps
theorem inter_split : ∀ {p1 : List MP} {k1 : List (List MP)}, p1.length = k1.length → ∀ (p2 : List MP) (k : List MP) (k2 : List (List MP)), inter (p1 ++ p2) (k1 ++ k :: k2) = pre p1 k1 ++ (k ++ post p2 k2)
 | [], [], _, p2, k, k2 => by
  show inter p2 (k :: k2) = k ++ post p2 k2
  cases p2 with
  | nil => simp [inter, post]
  | cons p p2 =>
   rw [inter]
   congr 1
   have key : ∀ (k2 : List (List MP)) (p : MP) (p2 : List MP), p :: inter p2 k2 = post (p :: p2) k2 := by
    intro k2
    induction k2 with
    | nil => intro p p2; simp [inter, post]
    | cons k k2 ih =>
     intro p p2
     cases p2 with
     | nil => simp [inter, post]
     | cons q p2 => rw [inter, post, ih]
   exact key k2 p p2
 | [], _ :: _, h, _, _, _ => by simp at h
 | _ :: _, [], h, _, _, _ => by simp at h
 | p :: p1, k0 :: k1, h, p2, k, k2 => by
  show k0 ++ p :: inter (p1 ++ p2) (k1 ++ k :: k2) = (k0 ++ p :: pre p1 k1) ++ _
  rw [inter_split (by simpa using h)]
  simp
theorem post_cons (p : MP) (p2 : List MP) (k : List MP) (k2 : List (List MP)) : post (p :: p2) (k :: k2) = p :: (k ++ post p2 k2) := rfl
def flat : Nat → MT → List MP
 | 0, t => t.ps
 | d + 1, t => inter t.ps (t.ks.map (flat d))
def ob (v : Value) : List Nat := match v.ownBlock with | some g => [g] | none => []
def MT.own (t : MT) : List Nat := t.r :: (ob t.vp ++ ob t.vk)
def foot : Nat → MT → List Nat
 | 0, t => t.own
 | d + 1, t => t.own ++ t.ks.flatMap (foot d)
def Wf (m : Nat) : Nat → Nat → Nat → MT → Prop
 | 0, lo, hi, t => t.ks = [] ∧ lo ≤ t.ps.length ∧ t.ps.length ≤ hi
 | d + 1, lo, hi, t => t.ks.length = t.ps.length + 1 ∧ lo ≤ t.ps.length ∧ t.ps.length ≤ hi ∧ ∀ k ∈ t.ks, Wf m d (m / 2) m k
def SrtB (l : List MP) : Prop := l.Pairwise fun a b => ltP a.kp b.kp
def Ins (p : MP) (l l' : List MP) : Prop := ∃ a b, l = a ++ b ∧ l' = a ++ p :: b ∧ (∀ x ∈ a, ltP x.kp p.kp) ∧ ∀ x ∈ b, ltP p.kp x.kp
theorem Ins.around {p : MP} {l l' : List MP} (h : Ins p l l') {x y : List MP} (hx : ∀ q ∈ x, ltP q.kp p.kp) (hy : ∀ q ∈ y, ltP p.kp q.kp) : Ins p (x ++ (l ++ y)) (x ++ (l' ++ y)) := by
 obtain ⟨a, b, rfl, rfl, h1, h2⟩ := h
 refine ⟨x ++ a, b ++ y, by simp, by simp, fun q hq => ?_, fun q hq => ?_⟩
 ·
  rcases List.mem_append.1 hq with hq | hq
  ·
   exact hx q hq
  ·
   exact h1 q hq
 ·
  rcases List.mem_append.1 hq with hq | hq
  ·
   exact h2 q hq
  ·
   exact hy q hq
theorem Ins.sorted {p : MP} {l l' : List MP} (h : Ins p l l') (hs : SrtB l) : SrtB l' := by
 obtain ⟨a, b, rfl, rfl, h1, h2⟩ := h
 unfold SrtB at *
 rw [List.pairwise_append] at hs ⊢
 refine ⟨hs.1, List.pairwise_cons.2 ⟨h2, hs.2.1⟩, fun x hx y hy => ?_⟩
 rcases List.mem_cons.1 hy with rfl | hy
 ·
  exact h1 x hx
 ·
  exact hs.2.2 x hx y hy
theorem Ins.length {p : MP} {l l' : List MP} (h : Ins p l l') : l'.length = l.length + 1 := by
 obtain ⟨a, b, rfl, rfl, _⟩ := h; simp; omega
theorem around {ps : List MP} {ks : List (List MP)} {i : Nat} {p : Kp} (hl : ks.length = ps.length + 1) (hs : SrtB (inter ps ks)) (hi : i ≤ ps.length) (h1 : ∀ q ∈ ps.take i, ltP q.kp p) (h2 : ∀ q ∈ ps.drop i, ¬ ltP q.kp p) :
  inter ps ks = pre (ps.take i) (ks.take i) ++ (ks[i]'(by omega) ++ post (ps.drop i) (ks.drop (i + 1))) ∧ (∀ q ∈ pre (ps.take i) (ks.take i), ltP q.kp p) ∧ (∀ q ∈ post (ps.drop i) (ks.drop (i + 1)), ¬ ltP q.kp p) := by
 have e : inter ps ks = pre (ps.take i) (ks.take i) ++ (ks[i]'(by omega) ++ post (ps.drop i) (ks.drop (i + 1))) := by
  rw [← inter_split (by simp; omega), List.take_append_drop, ← List.drop_eq_getElem_cons, List.take_append_drop]
 refine ⟨e, ?_, ?_⟩
 ·
  rw [e] at hs
  have hs := (List.pairwise_append.1 hs).1
  have key : ∀ {P : List MP} {K : List (List MP)}, SrtB (pre P K) → (∀ q ∈ P, ltP q.kp p) → ∀ q ∈ pre P K, ltP q.kp p := by
   intro P
   induction P with
   | nil => intro K _ _ q hq; cases K <;> simp [pre] at hq
   | cons a P ih =>
    intro K hs hP q hq
    cases K with
    | nil => simp [pre] at hq
    | cons k K =>
     unfold SrtB at hs
     rw [pre, List.pairwise_append] at hs
     rw [pre] at hq
     rcases List.mem_append.1 hq with hq | hq
     ·
      exact ltP_trans (hs.2.2 q hq a (by simp)) (hP a (by simp))
     ·
      rcases List.mem_cons.1 hq with rfl | hq
      ·
       exact hP q (by simp)
      ·
       exact ih (List.pairwise_cons.1 hs.2.1).2 (fun r hr => hP r (by simp [hr])) q hq
  exact key hs h1
 ·
  rw [e] at hs
  have hs := (List.pairwise_append.1 (List.pairwise_append.1 hs).2.1).2.1
  have key : ∀ {P : List MP} {K : List (List MP)}, SrtB (post P K) → (∀ q ∈ P, ¬ ltP q.kp p) → ∀ q ∈ post P K, ¬ ltP q.kp p := by
   intro P
   induction P with
   | nil => intro K _ _ q hq; cases K <;> simp [post] at hq
   | cons a P ih =>
    intro K hs hP q hq
    cases K with
    | nil =>
     rw [show post (a :: P) [] = a :: P by simp [post]] at hq
     exact hP q hq
    | cons k K =>
     unfold SrtB at hs
     rw [post_cons] at hs hq
     have hs' := List.pairwise_cons.1 hs
     rcases List.mem_cons.1 hq with rfl | hq'
     ·
      exact hP q (by simp)
     ·
      rcases List.mem_append.1 hq' with hq2 | hq2
      ·
       exact fun e => hP a (by simp) (ltP_trans (hs'.1 q hq') e)
      ·
       exact ih (List.pairwise_append.1 hs'.2).2.1 (fun r hr => hP r (by simp [hr])) q hq2
  exact key hs h2
end Go.Proofs.YtdiaecgpjgdkdaaGreat
