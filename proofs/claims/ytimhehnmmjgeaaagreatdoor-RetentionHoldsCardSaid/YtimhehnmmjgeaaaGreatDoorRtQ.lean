/- Plain laws of pruning: parts, order, what is left at a point. -/
import Derived.Test.YtimhehnmmjgeaaaGreatDoorRtP
import Derived.Test.YtimhehnmmjgeaaaGreatDoorStP
import Derived.Test.YtimhehnmmjgeaaaGreatDoorVal
set_option linter.unusedSimpArgs false
set_option linter.unusedVariables false
namespace Go.Proofs.YtimhehnmmjgeaaaGreatDoor

/-- a version's content -/
structure PV where
  id : Int
  sch : Int
  row : List Va
  r : Rct
  by_ : Int
  un : Int
deriving DecidableEq
def partF (h : Int) (l : List Rct) (r : Rct) : List Rct := if rvB r then regF interK [r] (keepF h l) else []
def PV.cut (p : PV) (r : Rct) : PV := { p with r := r }
def partsF (h : Int) (l : List Rct) (p : PV) : List PV := (partF h l p.r).map p.cut
def pruneL (h : Int) (l : List Rct) (vs : List PV) : List PV := vs.flatMap (partsF h l)
/-- the order of a history -/
def ltV (a b : PV) : Bool := decide (a.id < b.id ∨ a.id = b.id ∧ (a.r.2.1 < b.r.2.1 ∨ a.r.2.1 = b.r.2.1 ∧ a.r.1.1 < b.r.1.1))
def pruneF (h : Int) (l : List Rct) (vs : List PV) : List PV := isort ltV (pruneL h l vs)
theorem swo_ltV : Swo ltV where
  asym := fun x y h => by
    unfold ltV at *; simp only [decide_eq_true_eq, decide_eq_false_iff_not] at *; omega
  neg := fun x y z h => by
    unfold ltV at *; simp only [decide_eq_true_eq] at *; omega

theorem reg_single {r : Rct} (h : rvB r = true) : regF ofK [r] [] = [r] := by
  obtain ⟨g1, g2⟩ := regG_ok (caps_sK (k := ofK) rfl [r] [])
  obtain ⟨hp, hq⟩ := rvB_iff.1 h
  have hk : GOk (([r.1], r.2) : Grp) := ⟨by simp, (pvB_iff.1 hq).1, (pvB_iff.1 hq).2.1, (pvB_iff.1 hq).2.2⟩
  have hg : GCan [(([r.1], r.2) : Grp)] := gcan_cons.2 ⟨hk, by simp, gcan_nil⟩
  have hcan : Can [r.1] := can_cons.2 ⟨hp, by simp, can_nil⟩
  have he : regG (sK ofK [r] []) (ptsF (sysR ([r] ++ []))) = [(([r.1], r.2) : Grp)] := by
    refine gcan_unique g1 hg fun t => ?_
    rw [g2]
    have hs := sliR_emit (g := ([r.1], r.2)) hk (by simpa using hp) t
    have e : emitF (([r.1], r.2) : Grp) = [r] := rfl
    rw [e] at hs
    unfold sK
    rw [hs, gAt, gAt]
    show combF ofK (if r.2.1 ≤ t ∧ t < r.2.2 then [r.1] else []) [] = _
    split
    · exact can_ofF hcan
    · exact can_ofF can_nil
  unfold regF
  rw [he]
  rfl
/-- what is complete is kept whole -/
theorem partF_whole {h : Int} {l : List Rct} {r : Rct} (hv : rvB r = true) (hc : (regF subK [r] (keepF h l)).length = 0) : partF h l r = [r] := by
  unfold partF
  rw [if_pos hv]
  refine Eq.trans ?_ (reg_single hv)
  have hc := List.eq_nil_of_length_eq_zero hc
  refine regF_eq rfl rfl fun v t => ?_
  have hh := inR_reg (k := subK) rfl [r] (keepF h l) v t
  rw [hc, inR_nil] at hh
  unfold subK at hh
  unfold interK ofK
  rw [inR_nil]
  cases h1 : inR [r] v t <;> cases h2 : inR (keepF h l) v t <;> simp_all
theorem partF_in (h : Int) (l : List Rct) (r : Rct) (v t : Int) : inR (partF h l r) v t = (inR [r] v t && keepB h l v t) := by
  unfold partF
  split
  · exact retained_in h l r v t
  · rename_i hv
    rw [inR_nil, inR_bad (by simpa using hv)]; rfl
theorem partF_sound (h : Int) (l : List Rct) (r : Rct) : ∀ x ∈ partF h l r, rvB x = true := fun x hx => by
  unfold partF at hx
  split at hx
  · exact reg_sound rfl _ _ x hx
  · simp at hx
theorem partF_apart (h : Int) (l : List Rct) (r : Rct) : (partF h l r).Pairwise fun r s => rovB r s = false := by
  unfold partF
  split
  · exact reg_apart rfl _ _
  · exact List.Pairwise.nil
theorem partF_len {h : Int} {l : List Rct} {r : Rct} (hl : l.length ≤ 12) : (partF h l r).length ≤ 783 := by
  unfold partF
  split
  · exact Nat.le_trans (regF_le (n := 14) (by rw [keepF_length]; simp; omega)) (by decide)
  · simp
/-- rectangles that lie apart: a point lies in one of them or in none -/
theorem apart_count {v t : Int} : ∀ {l : List Rct}, (l.Pairwise fun r s => rovB r s = false) → (l.filter fun r => inR [r] v t).length = if inR l v t then 1 else 0
  | [], _ => rfl
  | r :: l, h => by
    obtain ⟨h1, h2⟩ := List.pairwise_cons.1 h
    have ih := apart_count (v := v) (t := t) h2
    rw [List.filter_cons]
    have e : inR (r :: l) v t = (inR [r] v t || inR l v t) := by simp [inR]
    rw [e]
    cases hr : inR [r] v t with
    | false => rw [if_neg (by simp), ih]; rfl
    | true =>
      rw [if_pos rfl, List.length_cons]
      have hn : l.filter (fun r => inR [r] v t) = [] := by
        rw [List.filter_eq_nil_iff]
        intro s hs hin
        have h3 := h1 s hs
        obtain ⟨a1, a2, a3, a4, a5⟩ := inR_one.1 hr
        obtain ⟨b1, b2, b3, b4, b5⟩ := inR_one.1 hin
        have := rovB_iff.2 ⟨a1, b1, by omega, by omega, by omega, by omega⟩
        rw [h3] at this
        cases this
      rw [hn]; rfl

/-- what two versions agree in, whatever their periods are -/
def key5 (p : PV) : Int × Int × List Va × Int × Int := (p.id, p.sch, p.row, p.by_, p.un)
def atF (v t : Int) (l : List PV) : List PV := l.filter fun p => inR [p.r] v t
theorem key5_cut (p : PV) (r : Rct) : key5 (p.cut r) = key5 p := rfl
theorem parts_at (h : Int) (l : List Rct) (p : PV) (v t : Int) : (atF v t (partsF h l p)).map key5 = if inR [p.r] v t && keepB h l v t then [key5 p] else [] := by
  have hc := apart_count (v := v) (t := t) (partF_apart h l p.r)
  rw [partF_in] at hc
  have e : (atF v t (partsF h l p)).map key5 = ((partF h l p.r).filter fun r => inR [r] v t).map fun _ => key5 p := by
    unfold atF partsF
    rw [List.filter_map, List.map_map]
    rfl
  rw [e, List.map_const']
  rw [hc]
  split <;> rfl
theorem prune_at (h : Int) (l : List Rct) (vs : List PV) (v t : Int) : ((atF v t (pruneL h l vs)).map key5) = if keepB h l v t then (atF v t vs).map key5 else [] := by
  induction vs with
  | nil => simp [pruneL, atF]
  | cons p vs ih =>
    have e : pruneL h l (p :: vs) = partsF h l p ++ pruneL h l vs := rfl
    have e2 : ∀ a b, atF v t (a ++ b) = atF v t a ++ atF v t b := fun a b => List.filter_append _ _
    rw [e, e2, List.map_append, ih, parts_at]
    have e3 : atF v t (p :: vs) = (if inR [p.r] v t then [p] else []) ++ atF v t vs := by
      unfold atF; rw [List.filter_cons]; split <;> rfl
    rw [e3, List.map_append]
    cases h1 : inR [p.r] v t <;> cases h2 : keepB h l v t <;> simp
theorem pruneF_at (h : Int) (l : List Rct) (vs : List PV) (v t : Int) : ((atF v t (pruneF h l vs)).map key5).Perm (if keepB h l v t then (atF v t vs).map key5 else []) := by
  rw [← prune_at]
  exact ((isort_perm (lt := ltV) (pruneL h l vs)).filter _).map _
theorem keepB_mono {h k : Int} (hk : h ≤ k) {l : List Rct} {v t : Int} (hh : keepB k l v t = true) : keepB h l v t = true := by
  unfold keepB at *
  simp only [Bool.or_eq_true, decide_eq_true_eq] at *
  rcases hh with hh | hh
  · exact .inl (by omega)
  · exact .inr hh
theorem twice_at {h k : Int} (hk : h ≤ k) (l : List Rct) (vs : List PV) (v t : Int) : ((atF v t (pruneF k l (pruneF h l vs))).map key5).Perm ((atF v t (pruneF k l vs)).map key5) := by
  refine (pruneF_at k l _ v t).trans (List.Perm.trans ?_ (pruneF_at k l vs v t).symm)
  cases hb : keepB k l v t with
  | false => exact List.Perm.refl _
  | true =>
    have := pruneF_at h l vs v t
    rw [keepB_mono hk hb] at this
    simpa using this

/-- how many of a list agree with a version -/
def cntF (l : List PV) (p : PV) : Nat := (l.filter fun q => decide (key5 q = key5 p)).length
def alikeF (a b : List PV) : Bool := decide (a.length = b.length) && a.all fun p => decide (cntF a p = cntF b p)
theorem cntF_map (l : List PV) (p : PV) : cntF l p = ((l.map key5).filter fun k => decide (k = key5 p)).length := by
  unfold cntF; rw [List.filter_map, List.length_map]; rfl
theorem alike_perm {a b : List PV} (h : (a.map key5).Perm (b.map key5)) : alikeF a b = true := by
  unfold alikeF
  rw [Bool.and_eq_true]
  refine ⟨decide_eq_true (by simpa using h.length_eq), List.all_eq_true.2 fun p _ => decide_eq_true ?_⟩
  rw [cntF_map, cntF_map]
  exact (h.filter _).length_eq
theorem pruneL_length {h : Int} {l : List Rct} (hl : l.length ≤ 12) : ∀ vs : List PV, (pruneL h l vs).length ≤ vs.length * 783
  | [] => by simp [pruneL]
  | p :: vs => by
    have e : pruneL h l (p :: vs) = partsF h l p ++ pruneL h l vs := rfl
    have h1 := partF_len (h := h) (r := p.r) hl
    have h2 := pruneL_length (h := h) hl vs
    rw [e, List.length_append]
    have : (partsF h l p).length ≤ 783 := by simpa [partsF] using h1
    simp [Nat.add_mul]; omega
theorem pruneF_length {h : Int} {l : List Rct} (hl : l.length ≤ 12) (vs : List PV) : (pruneF h l vs).length ≤ vs.length * 783 := by
  unfold pruneF; rw [isort_length]; exact pruneL_length hl vs
/-- what the reference's insertion gives -/
def insV (l : List PV) (x : PV) : List PV := (l.reverse.dropWhile fun y => ltV x y).reverse ++ x :: (l.reverse.takeWhile fun y => ltV x y).reverse
end Go.Proofs.YtimhehnmmjgeaaaGreatDoor
