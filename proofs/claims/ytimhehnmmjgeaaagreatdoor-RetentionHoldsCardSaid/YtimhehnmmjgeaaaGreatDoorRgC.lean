/- The contract of the reference combination of regions. -/
import Derived.Test.YtimhehnmmjgeaaaGreatDoorRgB
set_option linter.unusedSimpArgs false
set_option linter.unusedVariables false
namespace Go.Proofs.YtimhehnmmjgeaaaGreatDoor
open Go.RowKit


theorem cmbF_length (f : Int → Bool) : ∀ (r out : List (Int × Int)), (cmbF f out r).length ≤ out.length + r.length
  | [], out => by simp [cmbF]
  | p :: r, out => by
    rw [cmbF]
    have h := cmbF_length f r (if f p.1 then joinF out p else out)
    have hj := joinF_length out p
    split at h <;> rename_i hf <;> simp [hf] <;> omega
theorem combF_length (k : Bool → Bool → Bool) (a b : List (Int × Int)) : (combF k a b).length ≤ 2 * (a.length + b.length + 1) := by
  have h := cmbF_length (fun t => k (inL a t) (inL b t)) (pairsF (ptsF ((0, 1099511627776) :: (a ++ b)))) []
  have h1 := pairsF_length (ptsF ((0, 1099511627776) :: (a ++ b)))
  have h2 := ptsF_length ((0, 1099511627776) :: (a ++ b))
  unfold combF
  simp only [List.length_cons, List.length_append, List.length_nil] at *
  omega
theorem sK_length (k : Bool → Bool → Bool) (a b : List Rct) (t : Int) : (sK k a b t).length ≤ 2 * (a.length + b.length + 1) := by
  have h := combF_length k (sliR a t) (sliR b t)
  have h1 := sliR_length a t
  have h2 := sliR_length b t
  unfold sK
  omega
def tag (x y : Int) (v : Int × Int) : Rct := (v, (x, y))
theorem emit_one (s : List (Int × Int)) (x y : Int) : (oneG s x y).flatMap emitF = s.map (tag x y) := by
  unfold oneG
  split
  · rename_i h; subst h; rfl
  · simp only [List.flatMap_cons, List.flatMap_nil, List.append_nil]; rfl
theorem regG_at (S : Int → List (Int × Int)) {ps : List Int} {i : Nat} (h : i + 1 < ps.length) : regG S (ps.drop i) = grpG S ps[i] (S ps[i]) (ps.drop (i + 1)) := by
  rw [List.drop_eq_getElem_cons (show i < ps.length by omega), List.drop_eq_getElem_cons h]; rfl
theorem grpG_go (S : Int → List (Int × Int)) {ps : List Int} {k : Nat} {x : Int} {s : List (Int × Int)} (h : k + 1 < ps.length) (he : S ps[k] = s) : grpG S x s (ps.drop k) = grpG S x s (ps.drop (k + 1)) := by
  rw [List.drop_eq_getElem_cons (show k < ps.length by omega), List.drop_eq_getElem_cons h, grpG, if_pos he]
theorem grpG_stop (S : Int → List (Int × Int)) {ps : List Int} {k : Nat} {x : Int} {s : List (Int × Int)} (h : k < ps.length) (he : ¬ k + 1 < ps.length ∨ S ps[k] ≠ s) : grpG S x s (ps.drop k) = oneG s x ps[k] ++ regG S (ps.drop k) := by
  by_cases h1 : k + 1 < ps.length
  · rw [List.drop_eq_getElem_cons h, List.drop_eq_getElem_cons h1, grpG, if_neg (he.resolve_left (by omega))]; rfl
  · rw [List.drop_eq_getElem_cons h, List.drop_eq_nil_of_le (by omega)]; simp [grpG, regG]
theorem regG_end (S : Int → List (Int × Int)) {ps : List Int} {i : Nat} (h : ¬ i + 1 < ps.length) : regG S (ps.drop i) = [] := by
  rcases Nat.lt_or_ge i ps.length with h1 | h1
  · rw [List.drop_eq_getElem_cons h1, List.drop_eq_nil_of_le (by omega)]; rfl
  · rw [List.drop_eq_nil_of_le h1]; rfl
/-- rows of two types lie apart -/
theorem own_apart {w : World} {b b' e e' s s' n n' : Nat} {v v' : Value} {xs xs' : List Value} (h : w.ownsRow b e s v n xs) (h' : w.ownsRow b' e' s' v' n' xs') (hne : e ≠ e') : v.ownBlock = none ∨ v.ownBlock ≠ v'.ownBlock := by
  rcases h.2 with ⟨rfl, _⟩ | ⟨g, cap, cur, rfl, _, hg, _⟩
  · exact .inl rfl
  · right
    rcases h'.2 with ⟨rfl, _⟩ | ⟨g', cap', cur', rfl, _, hg', _⟩
    · simp [Value.ownBlock]
    · intro he
      simp only [Value.ownBlock, Option.some.injEq] at he
      subst he
      rw [hg] at hg'
      simp at hg'
      exact hne hg'.2
theorem Own.pairAt {W : World} {x : Add} {e c : Nat} {A : Option Addr} {l : List (Int × Int)} (h : Own W x e 2 (.slice A l.length c) l.length (pc l)) {k : Nat} (hk : k < l.length) :
    ∃ g, A = some ⟨g, 0, none⟩ ∧ W.heap.size ≤ g ∧ g < W.heap.size + x.n ∧ (extR W x).cell? ⟨g, k * 2, none⟩ = some (.int .i64 l[k].1) ∧ (extR W x).cell? ⟨g, k * 2 + 1, none⟩ = some (.int .i64 l[k].2) := by
  obtain ⟨g, hA, h1, h2, hc, _⟩ := Own.at h (by omega)
  obtain ⟨p1, p2⟩ := pc_get l k hk
  exact ⟨g, hA, h1, h2, hc _ _ p1, hc _ _ p2⟩
theorem Own.shift {w W : World} {x : Add} {e size n : Nat} {v : Value} {xs : List Value} (h : w.ownsRow W.heap.size e size v n xs) {y : Add} (hx : ext w y = ext W x) : Own W x e size v n xs := by
  unfold Own; rw [← hx]; exact own_ext h y


end Go.Proofs.YtimhehnmmjgeaaaGreatDoor
