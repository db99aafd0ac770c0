/- Lemmas for the rows: SpQ RgP TrP. -/
import Derived.Test.YtdiaecgpjgdkdaaGreatThS00
import Derived.Lib.SlicesCompact
set_option linter.unusedSimpArgs false
set_option linter.unusedVariables false
namespace Go.Proofs.YtdiaecgpjgdkdaaGreat

theorem compactUpTo_asc (d : Array Int) (hs : ∀ i j, i < j → j < d.size → d[i]! ≤ d[j]!) : ∀ m, m ≤ d.size → (Lib.compactUpTo d m).Pairwise (· < ·) ∧ ∀ z, z ∈ Lib.compactUpTo d m ↔ ∃ j, j < m ∧ d[j]! = z
 | 0, _ => by simp [Lib.compactUpTo]
 | m + 1, h => by
  obtain ⟨h1, h2⟩ := compactUpTo_asc d hs m (by omega)
  rw [Lib.compactUpTo_succ]
  by_cases hk : Lib.keeps d m = true
  ·
   rw [if_pos hk]
   have hlt : ∀ z ∈ Lib.compactUpTo d m, z < d[m]! := by
    intro z hz
    obtain ⟨j, hj, rfl⟩ := (h2 z).1 hz
    have hm : m ≠ 0 := by omega
    have hne : d[m]! ≠ d[m - 1]! := by
     intro he; simp [Lib.keeps, hm, he] at hk
    have e1 := hs (m - 1) m (by omega) (by omega)
    rcases Nat.lt_or_ge j (m - 1) with h3 | h3
    ·
     have e2 := hs j (m - 1) h3 (by omega); omega
    ·
     obtain rfl : j = m - 1 := by omega
     omega
   refine ⟨List.pairwise_append.2 ⟨h1, List.pairwise_singleton _ _, fun a ha b hb => ?_⟩, fun z => ?_⟩
   ·
    simp at hb; subst hb; exact hlt a ha
   ·
    rw [List.mem_append, h2]
    constructor
    ·
     rintro (⟨j, hj, e⟩ | e)
     ·
      exact ⟨j, by omega, e⟩
     ·
      simp at e; exact ⟨m, by omega, e.symm⟩
    ·
     rintro ⟨j, hj, e⟩
     rcases Nat.lt_or_ge j m with h3 | h3
     ·
      exact .inl ⟨j, h3, e⟩
     ·
      obtain rfl : j = m := by omega
      exact .inr (by simp [e])
  ·
   rw [if_neg hk, List.append_nil]
   refine ⟨h1, fun z => ?_⟩
   rw [h2]
   have hm : m ≠ 0 ∧ d[m]! = d[m - 1]! := by
    simp only [Lib.keeps] at hk
    constructor
    ·
     rintro rfl; simp at hk
    ·
     simp at hk; first | exact hk.2 | exact hk.2.symm
   constructor
   ·
    rintro ⟨j, hj, e⟩; exact ⟨j, by omega, e⟩
   ·
    rintro ⟨j, hj, e⟩
    rcases Nat.lt_or_ge j m with h3 | h3
    ·
     exact ⟨j, h3, e⟩
    ·
     obtain rfl : j = m := by omega
     exact ⟨j - 1, by omega, by rw [← hm.2]; exact e⟩
end Go.Proofs.YtdiaecgpjgdkdaaGreat

namespace Go.Proofs.YtdiaecgpjgdkdaaGreat

abbrev Rct := (Int × Int) × (Int × Int)
def rvB (r : Rct) : Bool := pvB r.1 && pvB r.2
end Go.Proofs.YtdiaecgpjgdkdaaGreat

namespace Go.Proofs.YtdiaecgpjgdkdaaGreat

abbrev Bxs := Rct × Int
def jn (a b : Rct) : Rct := ((min a.1.1 b.1.1, max a.1.2 b.1.2), (min a.2.1 b.2.1, max a.2.2 b.2.2))
def ovlB (a b : Rct) : Bool := rvB a && rvB b && decide (a.1.1 < b.1.2) && decide (b.1.1 < a.1.2) && decide (a.2.1 < b.2.2) && decide (b.2.1 < a.2.2)
theorem rvX_iff {r : Rct} : rvB r = true ↔ 0 ≤ r.1.1 ∧ r.1.1 < r.1.2 ∧ r.1.2 ≤ 1099511627776 ∧ 0 ≤ r.2.1 ∧ r.2.1 < r.2.2 ∧ r.2.2 ≤ 1099511627776 := by
 unfold rvB; rw [Bool.and_eq_true, pvB_iff, pvB_iff]; constructor
 ·
  rintro ⟨⟨a, b, c⟩, d, e, f⟩; exact ⟨a, b, c, d, e, f⟩
 ·
  rintro ⟨a, b, c, d, e, f⟩; exact ⟨⟨a, b, c⟩, d, e, f⟩
theorem flatMap_congrX {α β : Type} {l : List α} {f g : α → List β} (h : ∀ x ∈ l, f x = g x) : l.flatMap f = l.flatMap g := by
 rw [List.flatMap_def, List.flatMap_def, List.map_congr_left h]
theorem ovlB_iff {a b : Rct} : ovlB a b = true ↔ rvB a = true ∧ rvB b = true ∧ a.1.1 < b.1.2 ∧ b.1.1 < a.1.2 ∧ a.2.1 < b.2.2 ∧ b.2.1 < a.2.2 := by
 simp [ovlB, and_assoc]

inductive Tr where
 | lf (r : Rct) (bs : List Bxs)
 | nd (r : Rct) (ks : List Tr)
def Tr.r : Tr → Rct | .lf r _ => r | .nd r _ => r
def Tr.bs : Tr → List Bxs | .lf _ b => b | .nd _ _ => []
def Tr.ks : Tr → List Tr | .lf _ _ => [] | .nd _ k => k

def nch (w n : Nat) : Nat := (n + w - 1) / w
theorem lt_nch {w n j : Nat} (hw : 1 ≤ w) : j < nch w n ↔ j * w < n := by
 unfold nch
 have h : j < (n + w - 1) / w ↔ (j + 1) * w ≤ n + w - 1 := Nat.le_div_iff_mul_le (k0 := by omega)
 rw [h, Nat.add_mul]
 omega
theorem nch_lt {w n : Nat} (hw : 2 ≤ w) (hn : 2 ≤ n) : nch w n < n := by
 rcases Nat.lt_or_ge (nch w n) n with h | h
 ·
  exact h
 ·
  have h1 := (lt_nch (w := w) (n := n) (j := n - 1) (by omega)).1 (by omega)
  have h2 : (n - 1) * 2 ≤ (n - 1) * w := Nat.mul_le_mul_left _ hw
  omega
theorem nch_pos {w n : Nat} (hw : 1 ≤ w) (hn : 1 ≤ n) : 0 < nch w n := (lt_nch hw).2 (by omega)
def chunks {α : Type} (w : Nat) (l : List α) : List (List α) := (List.range (nch w l.length)).map fun j => (l.drop (j * w)).take w
theorem chunks_length {α : Type} (w : Nat) (l : List α) : (chunks w l).length = nch w l.length := by simp [chunks]
theorem range_flatten {α : Type} {w : Nat} (l : List α) : ∀ n, ((List.range n).map fun j => (l.drop (j * w)).take w).flatten = l.take (n * w)
 | 0 => by simp
 | n + 1 => by
  rw [List.range_succ, List.map_append, List.flatten_append, range_flatten l n, Nat.add_mul, Nat.one_mul, List.take_add]
  simp
theorem chunks_flatten {α : Type} {w : Nat} (hw : 1 ≤ w) (l : List α) : (chunks w l).flatten = l := by
 unfold chunks
 rw [range_flatten, List.take_of_length_le]
 rcases Nat.lt_or_ge (nch w l.length * w) l.length with h | h
 ·
  have := (lt_nch (n := l.length) hw).2 h; omega
 ·
  exact h
theorem chunks_ne {α : Type} {w : Nat} (hw : 1 ≤ w) (l : List α) : ∀ c ∈ chunks w l, c ≠ [] := by
 intro c hc
 simp only [chunks, List.mem_map, List.mem_range] at hc
 obtain ⟨j, hj, rfl⟩ := hc
 have := (lt_nch hw).1 hj
 intro h
 have := congrArg List.length h
 simp at this
 omega
theorem chunks_mem {α : Type} {w : Nat} (hw : 1 ≤ w) {l : List α} {x : α} : (∃ c ∈ chunks w l, x ∈ c) ↔ x ∈ l := by
 conv => rhs; rw [← chunks_flatten hw l]
 rw [List.mem_flatten]

def mkL (c : List Bxs) : Tr := match c with
 | [] => .lf ((0, 0), (0, 0)) []
 | b :: l => .lf ((b :: l).foldl (fun r x => jn r x.1) b.1) (b :: l)
def mkN (c : List Tr) : Tr := match c with
 | [] => .nd ((0, 0), (0, 0)) []
 | b :: l => .nd ((b :: l).foldl (fun r x => jn r x.r) b.r) (b :: l)
def leavesF (w : Nat) (l : List Bxs) : List Tr := (chunks w l).map mkL
def aboveF (w : Nat) (l : List Tr) : List Tr := (chunks w l).map mkN
def topF (w : Nat) : Nat → List Tr → Nat → List Tr × Nat
 | 0, l, d => (l, d)
 | f + 1, l, d => if 1 < l.length then topF w f (aboveF w l) (d + 1) else (l, d)
def buildF (w : Nat) (l : List Bxs) : List Tr × Nat := topF w l.length (leavesF w l) 1

theorem leavesF_length (w : Nat) (l : List Bxs) : (leavesF w l).length = nch w l.length := by simp [leavesF, chunks_length]
theorem aboveF_length (w : Nat) (l : List Tr) : (aboveF w l).length = nch w l.length := by simp [aboveF, chunks_length]
theorem topF_eq (w : Nat) (hw : 2 ≤ w) : ∀ (f g : Nat) (l : List Tr) (d : Nat), l.length ≤ f → l.length ≤ g → topF w f l d = topF w g l d
 | 0, 0, _, _, _, _ => rfl
 | 0, g + 1, l, d, h, _ => by rw [topF, topF, if_neg (by omega)]
 | f + 1, 0, l, d, _, h => by rw [topF, topF, if_neg (by omega)]
 | f + 1, g + 1, l, d, h1, h2 => by
  rw [topF, topF]
  split
  ·
   rename_i hl
   have := nch_lt hw (n := l.length) hl
   exact topF_eq w hw f g _ _ (by rw [aboveF_length]; omega) (by rw [aboveF_length]; omega)
  ·
   rfl
theorem topF_step {w : Nat} (hw : 2 ≤ w) {l : List Tr} {d : Nat} (h : 1 < l.length) : topF w l.length l d = topF w (aboveF w l).length (aboveF w l) (d + 1) := by
 have := nch_lt hw (n := l.length) h
 rw [topF_eq w hw l.length (l.length + 1) l d (by omega) (by omega), topF, if_pos h]
 exact topF_eq w hw _ _ _ _ (by rw [aboveF_length]; omega) (by omega)
theorem topF_end {w : Nat} {l : List Tr} {d : Nat} (h : ¬ 1 < l.length) : topF w l.length l d = (l, d) := by
 cases hl : l.length with
 | zero => rfl
 | succ n => rw [topF, if_neg (by omega)]

def IsHull (r : Rct) (P : Rct → Prop) : Prop :=
 (∀ b, P b → r.1.1 ≤ b.1.1 ∧ b.1.2 ≤ r.1.2 ∧ r.2.1 ≤ b.2.1 ∧ b.2.2 ≤ r.2.2) ∧ (∃ b, P b ∧ b.1.1 = r.1.1) ∧ (∃ b, P b ∧ b.1.2 = r.1.2) ∧ (∃ b, P b ∧ b.2.1 = r.2.1) ∧ ∃ b, P b ∧ b.2.2 = r.2.2
theorem IsHull.one (r : Rct) {P : Rct → Prop} (h : ∀ b, P b ↔ b = r) : IsHull r P := by
 have hr := (h r).2 rfl
 exact ⟨fun b hb => by rw [(h b).1 hb]; omega, ⟨r, hr, rfl⟩, ⟨r, hr, rfl⟩, ⟨r, hr, rfl⟩, r, hr, rfl⟩
theorem IsHull.join {r s : Rct} {P Q R : Rct → Prop} (h : IsHull r P) (k : IsHull s Q) (hR : ∀ b, R b ↔ P b ∨ Q b) : IsHull (jn r s) R := by
 obtain ⟨h0, ⟨a1, a2, a3⟩, ⟨b1, b2, b3⟩, ⟨c1, c2, c3⟩, d1, d2, d3⟩ := h
 obtain ⟨k0, ⟨e1, e2, e3⟩, ⟨f1, f2, f3⟩, ⟨g1, g2, g3⟩, i1, i2, i3⟩ := k
 unfold jn
 refine ⟨fun b hb => ?_, ?_, ?_, ?_, ?_⟩
 ·
  rcases (hR b).1 hb with hb | hb
  ·
   have := h0 b hb; simp only; omega
  ·
   have := k0 b hb; simp only; omega
 ·
  rcases Int.le_total r.1.1 s.1.1 with x | x
  ·
   exact ⟨a1, (hR _).2 (.inl a2), by simp only; omega⟩
  ·
   exact ⟨e1, (hR _).2 (.inr e2), by simp only; omega⟩
 ·
  rcases Int.le_total r.1.2 s.1.2 with x | x
  ·
   exact ⟨f1, (hR _).2 (.inr f2), by simp only; omega⟩
  ·
   exact ⟨b1, (hR _).2 (.inl b2), by simp only; omega⟩
 ·
  rcases Int.le_total r.2.1 s.2.1 with x | x
  ·
   exact ⟨c1, (hR _).2 (.inl c2), by simp only; omega⟩
  ·
   exact ⟨g1, (hR _).2 (.inr g2), by simp only; omega⟩
 ·
  rcases Int.le_total r.2.2 s.2.2 with x | x
  ·
   exact ⟨i1, (hR _).2 (.inr i2), by simp only; omega⟩
  ·
   exact ⟨d1, (hR _).2 (.inl d2), by simp only; omega⟩
theorem hull_fold {α : Type} (f : α → Rct) (P : α → Rct → Prop) : ∀ (l : List α) (r : Rct) (Q : Rct → Prop), IsHull r Q → (∀ x ∈ l, IsHull (f x) (P x)) → IsHull (l.foldl (fun r x => jn r (f x)) r) (fun b => Q b ∨ ∃ x ∈ l, P x b)
 | [], r, Q, h, _ => by
  refine ⟨fun b hb => h.1 b (by simpa using hb), ?_⟩
  simpa using h.2
 | x :: l, r, Q, h, hl => by
  rw [List.foldl_cons]
  have h1 := hull_fold f P l (jn r (f x)) (fun b => Q b ∨ P x b) (h.join (hl x (by simp)) fun _ => Iff.rfl) fun y hy => hl y (by simp [hy])
  have e : (fun b => (Q b ∨ P x b) ∨ ∃ y ∈ l, P y b) = fun b => Q b ∨ ∃ y ∈ x :: l, P y b := by
   funext b; simp [or_assoc]
  rwa [e] at h1

mutual
def Tr.all : Tr → List Bxs
 | .lf _ bs => bs
 | .nd _ ks => allS ks
def allS : List Tr → List Bxs
 | [] => []
 | k :: ks => k.all ++ allS ks
end
mutual
def exam (q : Rct) : Tr → List Tr
 | .lf r bs => [.lf r bs]
 | .nd r ks => .nd r ks :: examS q ks
def examS (q : Rct) : List Tr → List Tr
 | [] => []
 | k :: ks => (if ovlB k.r q then exam q k else []) ++ examS q ks
end
def own (q : Rct) (t : Tr) : List Int := (t.bs.filter fun b => ovlB b.1 q).map (·.2)
def findT (q : Rct) (t : Tr) : List Int := (exam q t).flatMap (own q)
theorem allS_eq : ∀ l : List Tr, allS l = l.flatMap Tr.all
 | [] => rfl
 | k :: l => by rw [allS, allS_eq l]; rfl

inductive Good : Nat → Tr → Prop
 | lf (r : Rct) (bs : List Bxs) (h : IsHull r fun b => ∃ x ∈ bs, x.1 = b) (hv : ∀ x ∈ bs, rvB x.1 = true) : Good 1 (.lf r bs)
 | nd (d : Nat) (r : Rct) (ks : List Tr) (h : IsHull r fun b => ∃ x ∈ allS ks, x.1 = b) (hk : ∀ k ∈ ks, Good d k) : Good (d + 1) (.nd r ks)
theorem Good.hull {d : Nat} {t : Tr} (h : Good d t) : IsHull t.r fun b => ∃ x ∈ t.all, x.1 = b := by
 cases h with
 | lf r bs h hv => rw [Tr.all]; exact h
 | nd d r ks h hk => rw [Tr.all]; exact h
theorem Good.val {d : Nat} {t : Tr} (h : Good d t) : ∀ x ∈ t.all, rvB x.1 = true := by
 induction h with
 | lf r bs h hv => rw [Tr.all]; exact hv
 | nd d r ks h hk ih =>
  rw [Tr.all, allS_eq]
  intro x hx
  obtain ⟨k, hk', hx'⟩ := List.mem_flatMap.1 hx
  exact ih k hk' x hx'
theorem IsHull.rv {r : Rct} {P : Rct → Prop} (h : IsHull r P) (hv : ∀ b, P b → rvB b = true) : rvB r = true := by
 obtain ⟨h0, ⟨a1, a2, a3⟩, ⟨b1, b2, b3⟩, ⟨c1, c2, c3⟩, d1, d2, d3⟩ := h
 have x1 := h0 _ a2; have x2 := h0 _ b2; have x3 := h0 _ c2; have x4 := h0 _ d2
 have y1 := rvX_iff.1 (hv _ a2); have y2 := rvX_iff.1 (hv _ b2); have y3 := rvX_iff.1 (hv _ c2); have y4 := rvX_iff.1 (hv _ d2)
 rw [rvX_iff]; omega
theorem Good.rv {d : Nat} {t : Tr} (h : Good d t) : rvB t.r = true := h.hull.rv (by rintro b ⟨x, hx, rfl⟩; exact h.val x hx)
theorem Good.ovl {d : Nat} {t : Tr} (h : Good d t) {q : Rct} {x : Bxs} (hx : x ∈ t.all) (ho : ovlB x.1 q = true) : ovlB t.r q = true := by
 have := h.hull.1 x.1 ⟨x, hx, rfl⟩
 rw [ovlB_iff] at ho ⊢
 exact ⟨h.rv, ho.2.1, by omega⟩
theorem filter_nil {α : Type} {p : α → Bool} {l : List α} (h : ∀ x ∈ l, p x = false) : l.filter p = [] := by
 rw [List.filter_eq_nil_iff]; intro x hx; rw [h x hx]; simp
theorem Good.find {d : Nat} {t : Tr} (h : Good d t) (q : Rct) : findT q t = (t.all.filter fun b => ovlB b.1 q).map (·.2) := by
 induction h with
 | lf r bs h hv => simp [findT, exam, own, Tr.all, Tr.bs]
 | nd d r ks h hk ih =>
  have e : ∀ l : List Tr, (∀ k ∈ l, Good d k) → (∀ k ∈ l, findT q k = (k.all.filter fun b => ovlB b.1 q).map (·.2)) → (examS q l).flatMap (own q) = ((allS l).filter fun b => ovlB b.1 q).map (·.2) := by
   intro l
   induction l with
   | nil => intro _ _; simp [examS, allS]
   | cons k l ihl =>
    intro hg hl
    rw [examS, allS, List.flatMap_append, List.filter_append, List.map_append, ihl (fun k hk => hg k (by simp [hk])) (fun k hk => hl k (by simp [hk]))]
    congr 1
    cases ho : ovlB k.r q
    ·
     rw [filter_nil]
     ·
      simp
     ·
      intro x hx
      cases hx' : ovlB x.1 q
      ·
       rfl
      ·
       rw [(hg k (by simp)).ovl hx hx'] at ho; cases ho
    ·
     exact hl k (by simp)
  show (exam q (.nd r ks)).flatMap (own q) = _
  rw [exam, List.flatMap_cons, e ks hk ih]
  simp [own, Tr.bs, Tr.all]

theorem good_L {bs : List Bxs} (h : bs ≠ []) (hv : ∀ x ∈ bs, rvB x.1 = true) : Good 1 (mkL bs) ∧ (mkL bs).all = bs := by
 cases bs with
 | nil => exact absurd rfl h
 | cons b l =>
  refine ⟨Good.lf _ _ ?_ hv, by rw [mkL, Tr.all]⟩
  have := hull_fold (fun x : Bxs => x.1) (fun x b => x.1 = b) (b :: l) b.1 (fun a => a = b.1) (IsHull.one _ fun _ => Iff.rfl) (fun x _ => IsHull.one _ fun _ => eq_comm)
  refine ⟨fun a ha => this.1 a (.inr ha), ?_⟩
  have e : ∀ a : Rct, (a = b.1 ∨ ∃ x ∈ b :: l, x.1 = a) → ∃ x ∈ b :: l, x.1 = a := by
   rintro a (rfl | h)
   ·
    exact ⟨b, by simp, rfl⟩
   ·
    exact h
  obtain ⟨_, ⟨a1, a2, a3⟩, ⟨b1, b2, b3⟩, ⟨c1, c2, c3⟩, d1, d2, d3⟩ := this
  exact ⟨⟨a1, e _ a2, a3⟩, ⟨b1, e _ b2, b3⟩, ⟨c1, e _ c2, c3⟩, d1, e _ d2, d3⟩
theorem good_N {d : Nat} {ks : List Tr} (h : ks ≠ []) (hk : ∀ k ∈ ks, Good d k) : Good (d + 1) (mkN ks) ∧ (mkN ks).all = allS ks := by
 cases ks with
 | nil => exact absurd rfl h
 | cons b l =>
  refine ⟨Good.nd d _ _ ?_ hk, by rw [mkN, Tr.all]⟩
  have := hull_fold Tr.r (fun x b => ∃ y ∈ x.all, y.1 = b) (b :: l) b.r (fun a => ∃ y ∈ b.all, y.1 = a) (hk b (by simp)).hull (fun x hx => (hk x hx).hull)
  have e : ∀ a : Rct, ((∃ y ∈ b.all, y.1 = a) ∨ ∃ x ∈ b :: l, ∃ y ∈ x.all, y.1 = a) ↔ ∃ y ∈ allS (b :: l), y.1 = a := by
   intro a
   rw [allS_eq]
   simp only [List.mem_flatMap]
   constructor
   ·
    rintro (⟨y, h1, h2⟩ | ⟨x, hx, y, h1, h2⟩)
    ·
     exact ⟨y, ⟨b, by simp, h1⟩, h2⟩
    ·
     exact ⟨y, ⟨x, hx, h1⟩, h2⟩
   ·
    rintro ⟨y, ⟨x, hx, h1⟩, h2⟩
    exact .inr ⟨x, hx, y, h1, h2⟩
  rwa [show (fun a => (∃ y ∈ b.all, y.1 = a) ∨ ∃ x ∈ b :: l, ∃ y ∈ x.all, y.1 = a) = fun a => ∃ y ∈ allS (b :: l), y.1 = a from funext fun a => propext (e a)] at this

theorem allS_flat (L : List (List Tr)) : allS L.flatten = L.flatMap allS := by
 induction L with
 | nil => rfl
 | cons a L ih => rw [List.flatten_cons, List.flatMap_cons, ← ih, allS_eq, allS_eq, allS_eq, List.flatMap_append]
theorem allS_leaves {w : Nat} (hw : 1 ≤ w) {l : List Bxs} (hv : ∀ x ∈ l, rvB x.1 = true) : allS (leavesF w l) = l ∧ ∀ t ∈ leavesF w l, Good 1 t := by
 have hm : ∀ c ∈ chunks w l, Good 1 (mkL c) ∧ (mkL c).all = c := fun c hc => good_L (chunks_ne hw l c hc) fun x hx => hv x ((chunks_mem hw).1 ⟨c, hc, hx⟩)
 constructor
 ·
  rw [allS_eq, leavesF, List.flatMap_map]
  conv => rhs; rw [← chunks_flatten hw l]
  rw [← List.flatMap_id']
  exact flatMap_congrX fun c hc => (hm c hc).2
 ·
  intro t ht
  obtain ⟨c, hc, rfl⟩ := List.mem_map.1 ht
  exact (hm c hc).1
theorem allS_above {w d : Nat} (hw : 1 ≤ w) {l : List Tr} (hv : ∀ x ∈ l, Good d x) : allS (aboveF w l) = allS l ∧ ∀ t ∈ aboveF w l, Good (d + 1) t := by
 have hm : ∀ c ∈ chunks w l, Good (d + 1) (mkN c) ∧ (mkN c).all = allS c := fun c hc => good_N (chunks_ne hw l c hc) fun x hx => hv x ((chunks_mem hw).1 ⟨c, hc, hx⟩)
 constructor
 ·
  rw [allS_eq, aboveF, List.flatMap_map]
  conv => rhs; rw [← chunks_flatten hw l, allS_flat]
  exact flatMap_congrX fun c hc => (hm c hc).2
 ·
  intro t ht
  obtain ⟨c, hc, rfl⟩ := List.mem_map.1 ht
  exact (hm c hc).1
theorem topF_good {w : Nat} (hw : 2 ≤ w) : ∀ (f : Nat) (l : List Tr) (d : Nat), l.length ≤ f → 1 ≤ l.length → (∀ t ∈ l, Good d t) → ∃ t d', topF w f l d = ([t], d') ∧ Good d' t ∧ t.all = allS l
 | 0, l, d, h, h1, _ => by omega
 | f + 1, l, d, h, h1, hg => by
  rw [topF]
  split
  ·
   rename_i hl
   have h2 := nch_lt hw (n := l.length) hl
   have h3 := nch_pos (w := w) (n := l.length) (by omega) h1
   obtain ⟨e, hg'⟩ := allS_above (w := w) (d := d) (by omega) hg
   rw [← e]
   exact topF_good hw f _ _ (by rw [aboveF_length]; omega) (by rw [aboveF_length]; omega) hg'
  ·
   match l, h1 with
   | [t], _ => exact ⟨t, d, rfl, hg t (by simp), by simp [allS]⟩
   | _ :: _ :: _, _ => simp at *
theorem buildF_good {w : Nat} (hw : 2 ≤ w) {l : List Bxs} (hl : l ≠ []) (hv : ∀ x ∈ l, rvB x.1 = true) : ∃ t d, buildF w l = ([t], d) ∧ Good d t ∧ t.all = l := by
 have h1 : 1 ≤ l.length := List.length_pos_iff.2 hl
 obtain ⟨e, hg⟩ := allS_leaves (w := w) (by omega) hv
 have h2 : nch w l.length ≤ l.length := by
  rcases Nat.lt_or_ge 1 l.length with h | h
  ·
   exact Nat.le_of_lt (nch_lt hw h)
  ·
   rcases Nat.lt_or_ge l.length (nch w l.length) with h' | h'
   ·
    have := (lt_nch (w := w) (n := l.length) (j := 1) (by omega)).1 (by omega); omega
   ·
    exact h'
 obtain ⟨t, d, a, b, c⟩ := topF_good hw l.length (leavesF w l) 1 (by rw [leavesF_length]; exact h2) (by rw [leavesF_length]; exact nch_pos (by omega) h1) hg
 exact ⟨t, d, a, b, c.trans e⟩

theorem find_none {q : Rct} (h : rvB q = false) (l : List Bxs) : (l.filter fun b => ovlB b.1 q) = [] :=
 filter_nil fun x _ => by simp [ovlB, h]
def ltX (a b : Bxs) : Prop := a.1.1.1 < b.1.1.1 ∨ a.1.1.1 = b.1.1.1 ∧ (a.1.1.2 < b.1.1.2 ∨ a.1.1.2 = b.1.1.2 ∧ (a.1.2.1 < b.1.2.1 ∨ a.1.2.1 = b.1.2.1 ∧ (a.1.2.2 < b.1.2.2 ∨ a.1.2.2 = b.1.2.2 ∧ a.2 < b.2)))
instance (a b : Bxs) : Decidable (ltX a b) := by unfold ltX; infer_instance
def ltB (a b : Bxs) : Bool := decide (ltX a b)
theorem ltX_tri (a b : Bxs) : ltX a b ∨ a = b ∨ ltX b a := by
 obtain ⟨⟨⟨a1, a2⟩, a3, a4⟩, a5⟩ := a
 obtain ⟨⟨⟨b1, b2⟩, b3, b4⟩, b5⟩ := b
 simp only [ltX, Prod.mk.injEq]
 omega
theorem ltX_irrefl (a : Bxs) : ¬ ltX a a := by unfold ltX; omega
theorem ltX_trans {a b c : Bxs} (h : ltX a b) (k : ltX b c) : ltX a c := by unfold ltX at *; omega
def ordS (out : List Bxs) (x : Bxs) : List Bxs := (out.filter fun y => ltB y x) ++ x :: out.filter fun y => !ltB y x
def ordF (l : List Bxs) : List Bxs := l.foldl ordS []
theorem filter_perm {α : Type} (p : α → Bool) (l : List α) : (l.filter p ++ l.filter fun y => !p y).Perm l := List.filter_append_perm p l
theorem ordS_perm (out : List Bxs) (x : Bxs) : (ordS out x).Perm (x :: out) := by
 unfold ordS
 exact List.perm_middle.trans ((filter_perm _ _).cons _)
theorem fold_perm : ∀ (l out : List Bxs), (l.foldl ordS out).Perm (out ++ l)
 | [], out => by simp
 | x :: l, out => by
  rw [List.foldl_cons]
  refine (fold_perm l _).trans ?_
  refine ((ordS_perm out x).append_right l).trans ?_
  exact List.perm_middle.symm
theorem ordF_perm (l : List Bxs) : (ordF l).Perm l := by simpa [ordF] using fold_perm l []
theorem ordS_sorted {out : List Bxs} {x : Bxs} (h : out.Pairwise ltX) (hx : x ∉ out) : (ordS out x).Pairwise ltX := by
 unfold ordS
 rw [List.pairwise_append]
 refine ⟨h.filter _, ?_, ?_⟩
 ·
  rw [List.pairwise_cons]
  refine ⟨fun y hy => ?_, h.filter _⟩
  obtain ⟨hy1, hy2⟩ := List.mem_filter.1 hy
  simp [ltB] at hy2
  rcases ltX_tri x y with h | h | h
  ·
   exact h
  ·
   exact absurd (h ▸ hy1) hx
  ·
   exact absurd h hy2
 ·
  intro a ha b hb
  obtain ⟨ha1, ha2⟩ := List.mem_filter.1 ha
  simp [ltB] at ha2
  rcases List.mem_cons.1 hb with rfl | hb
  ·
   exact ha2
  ·
   obtain ⟨hb1, hb2⟩ := List.mem_filter.1 hb
   simp [ltB] at hb2
   rcases ltX_tri x b with h | h | h
   ·
    exact ltX_trans ha2 h
   ·
    exact absurd (h ▸ hb1) hx
   ·
    exact absurd h hb2
theorem fold_sorted : ∀ (l out : List Bxs), out.Pairwise ltX → (out ++ l).Nodup → (l.foldl ordS out).Pairwise ltX
 | [], out, h, _ => h
 | x :: l, out, h, hn => by
  rw [List.foldl_cons]
  have hx : x ∉ out := by
   rw [List.nodup_append] at hn
   intro hx
   exact hn.2.2 x hx x (by simp) rfl
  refine fold_sorted l _ (ordS_sorted h hx) ?_
  refine (((ordS_perm out x).append_right l).nodup_iff).2 ?_
  exact (List.perm_middle.nodup_iff).1 hn
theorem ordF_sorted {l : List Bxs} (h : l.Nodup) : (ordF l).Pairwise ltX := fold_sorted l [] List.Pairwise.nil (by simpa using h)
theorem sorted_unique : ∀ {a b : List Bxs}, a.Pairwise ltX → b.Pairwise ltX → a.Perm b → a = b
 | [], b, _, _, h => (List.nil_perm.1 h).symm
 | x :: a, [], _, _, h => absurd h.length_eq (by simp)
 | x :: a, y :: b, ha, hb, h => by
  rw [List.pairwise_cons] at ha hb
  have e : x = y := by
   have h1 : x ∈ y :: b := h.mem_iff.1 (by simp)
   have h2 : y ∈ x :: a := h.mem_iff.2 (by simp)
   rcases List.mem_cons.1 h1 with h1 | h1
   ·
    exact h1
   ·
    rcases List.mem_cons.1 h2 with h2 | h2
    ·
     exact h2.symm
    ·
     exact absurd (ltX_trans (ha.1 y h2) (hb.1 x h1)) (ltX_irrefl _)
  subst e
  rw [sorted_unique ha.2 hb.2 (List.perm_cons _ |>.1 h)]

def chkF (seen : List Int) : List Bxs → Int
 | [] => 0
 | x :: l => if rvB x.1 then (if x.2 ∈ seen then 10 else chkF (seen ++ [x.2]) l) else 8
theorem chk_ok : ∀ {l : List Bxs} {seen : List Int}, chkF seen l = 0 → (∀ x ∈ l, rvB x.1 = true) ∧ (∀ x ∈ l, x.2 ∉ seen) ∧ (l.map (·.2)).Nodup
 | [], _, _ => by simp
 | x :: l, seen, h => by
  rw [chkF] at h
  split at h
  ·
   rename_i hv
   split at h
   ·
    cases h
   ·
    rename_i hs
    obtain ⟨h1, h2, h3⟩ := chk_ok h
    refine ⟨fun y hy => ?_, fun y hy => ?_, ?_⟩
    ·
     rcases List.mem_cons.1 hy with rfl | hy
     ·
      exact hv
     ·
      exact h1 y hy
    ·
     rcases List.mem_cons.1 hy with rfl | hy
     ·
      exact hs
     ·
      have := h2 y hy; simp at this; exact this.1
    ·
     rw [List.map_cons, List.nodup_cons]
     refine ⟨fun hm => ?_, h3⟩
     obtain ⟨y, hy, he⟩ := List.mem_map.1 hm
     have := h2 y hy
     simp [he] at this
  ·
   cases h
theorem chk_all : ∀ {l : List Bxs} {seen : List Int}, (∀ x ∈ l, rvB x.1 = true) → (∀ x ∈ l, x.2 ∉ seen) → (l.map (·.2)).Nodup → chkF seen l = 0
 | [], _, _, _, _ => rfl
 | x :: l, seen, h1, h2, h3 => by
  rw [List.map_cons, List.nodup_cons] at h3
  rw [chkF, if_pos (h1 x (by simp)), if_neg (h2 x (by simp))]
  refine chk_all (fun y hy => h1 y (by simp [hy])) (fun y hy => ?_) h3.2
  have := h2 y (by simp [hy])
  simp only [List.mem_append, List.mem_singleton, not_or]
  exact ⟨this, fun he => h3.1 (List.mem_map.2 ⟨y, hy, he⟩)⟩
theorem nodup_of_ids {l : List Bxs} (h : (l.map (·.2)).Nodup) : l.Nodup := by
 induction l with
 | nil => exact List.nodup_nil
 | cons x l ih =>
  rw [List.map_cons, List.nodup_cons] at h
  rw [List.nodup_cons]
  exact ⟨fun hx => h.1 (List.mem_map.2 ⟨x, hx, rfl⟩), ih h.2⟩

def putF (l : List Int) (n : Int) : List Int := (l.filter fun x => decide (x < n)) ++ n :: l.filter fun x => decide (n < x)
theorem mem_putF {l : List Int} {n z : Int} : z ∈ putF l n ↔ z = n ∨ z ∈ l := by
 simp only [putF, List.mem_append, List.mem_filter, List.mem_cons, decide_eq_true_eq]
 constructor
 ·
  rintro (⟨h, _⟩ | rfl | ⟨h, _⟩)
  ·
   exact .inr h
  ·
   exact .inl rfl
  ·
   exact .inr h
 ·
  rintro (rfl | h)
  ·
   exact .inr (.inl rfl)
  ·
   rcases Int.lt_trichotomy z n with k | k | k
   ·
    exact .inl ⟨h, k⟩
   ·
    exact .inr (.inl k)
   ·
    exact .inr (.inr ⟨h, k⟩)
theorem putF_sorted {l : List Int} {n : Int} (h : l.Pairwise (· < ·)) : (putF l n).Pairwise (· < ·) := by
 unfold putF
 rw [List.pairwise_append]
 refine ⟨h.filter _, ?_, ?_⟩
 ·
  rw [List.pairwise_cons]
  exact ⟨fun y hy => by simpa using (List.mem_filter.1 hy).2, h.filter _⟩
 ·
  intro a ha b hb
  have ha := (List.mem_filter.1 ha).2
  simp at ha
  rcases List.mem_cons.1 hb with rfl | hb
  ·
   exact ha
  ·
   have hb := (List.mem_filter.1 hb).2
   simp at hb; omega
def putsF (l : List Int) : List Int := l.foldl putF []
theorem puts_fold : ∀ (l acc : List Int), acc.Pairwise (· < ·) → (l.foldl putF acc).Pairwise (· < ·) ∧ ∀ z, z ∈ l.foldl putF acc ↔ z ∈ acc ∨ z ∈ l
 | [], acc, h => ⟨h, by simp⟩
 | x :: l, acc, h => by
  rw [List.foldl_cons]
  obtain ⟨h1, h2⟩ := puts_fold l (putF acc x) (putF_sorted h)
  refine ⟨h1, fun z => ?_⟩
  rw [h2, mem_putF, List.mem_cons]
  constructor
  ·
   rintro ((h | h) | h)
   ·
    exact .inr (.inl h)
   ·
    exact .inl h
   ·
    exact .inr (.inr h)
  ·
   rintro (h | h | h)
   ·
    exact .inl (.inr h)
   ·
    exact .inl (.inl h)
   ·
    exact .inr h
theorem putsF_sorted (l : List Int) : (putsF l).Pairwise (· < ·) := (puts_fold l [] List.Pairwise.nil).1
theorem mem_putsF {l : List Int} {z : Int} : z ∈ putsF l ↔ z ∈ l := by simpa [putsF] using (puts_fold l [] List.Pairwise.nil).2 z
theorem sort_puts {a b : List Int} (hp : a.Perm b) (hs : a.Pairwise (· ≤ ·)) (hn : b.Nodup) : a = putsF b := by
 refine asc_unique ?_ (putsF_sorted b) fun z => by rw [mem_putsF, hp.mem_iff]
 have hn' := (hp.nodup_iff).2 hn
 exact (List.pairwise_and_iff.2 ⟨hs, hn'⟩).imp fun {a b} h => by have := h.1; have := h.2; omega

end Go.Proofs.YtdiaecgpjgdkdaaGreat
