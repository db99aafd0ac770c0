/- The plain laws of regions: groups of equal slices, the reference's combination, the program's. -/
import Derived.Test.YtimhehnmmjgeaaaGreatDoorSpQ
set_option linter.unusedSimpArgs false
set_option linter.unusedVariables false
namespace Go.Proofs.YtimhehnmmjgeaaaGreatDoor

/-- a slice and the system period in which it holds -/
abbrev Grp := List (Int × Int) × (Int × Int)
abbrev Rct := (Int × Int) × (Int × Int)
def emitF (g : Grp) : List Rct := g.1.map fun v => (v, g.2)

def GOk (g : Grp) : Prop := g.1 ≠ [] ∧ 0 ≤ g.2.1 ∧ g.2.1 < g.2.2 ∧ g.2.2 ≤ 1099511627776
def GLt (g h : Grp) : Prop := g.2.2 < h.2.1 ∨ g.2.2 = h.2.1 ∧ g.1 ≠ h.1
def GCan (G : List Grp) : Prop := (∀ g ∈ G, GOk g) ∧ G.Pairwise GLt
def gAt : List Grp → Int → List (Int × Int)
  | [], _ => []
  | g :: G, t => if g.2.1 ≤ t ∧ t < g.2.2 then g.1 else gAt G t
theorem gcan_cons {g : Grp} {G : List Grp} : GCan (g :: G) ↔ GOk g ∧ (∀ h ∈ G, GLt g h) ∧ GCan G := by
  unfold GCan
  simp only [List.mem_cons, forall_eq_or_imp, List.pairwise_cons]
  constructor
  · rintro ⟨⟨a, b⟩, c, d⟩; exact ⟨a, c, b, d⟩
  · rintro ⟨a, c, b, d⟩; exact ⟨⟨a, b⟩, c, d⟩
theorem gcan_nil : GCan [] := ⟨by simp, List.Pairwise.nil⟩
theorem gAt_mem {t : Int} : ∀ {G : List Grp}, gAt G t ≠ [] → ∃ g ∈ G, g.2.1 ≤ t ∧ t < g.2.2 ∧ gAt G t = g.1
  | [], h => by simp [gAt] at h
  | g :: G, h => by
    rw [gAt] at h ⊢
    split
    · exact ⟨g, by simp, by omega, by omega, rfl⟩
    · rename_i hn
      rw [if_neg hn] at h
      obtain ⟨k, hk, h1⟩ := gAt_mem h
      exact ⟨k, by simp [hk], h1⟩
theorem gAt_before {t : Int} : ∀ {G : List Grp}, (∀ g ∈ G, t < g.2.1) → gAt G t = []
  | [], _ => rfl
  | g :: G, h => by
    have := h g (by simp)
    rw [gAt, if_neg (by omega)]
    exact gAt_before fun k hk => h k (by simp [hk])
theorem gAt_head {g : Grp} {G : List Grp} (h : GCan (g :: G)) : gAt (g :: G) g.2.1 = g.1 := by
  have := (gcan_cons.1 h).1
  unfold GOk at this
  rw [gAt, if_pos (by omega)]
theorem gAt_min {g : Grp} {G : List Grp} {t : Int} (h : GCan (g :: G)) (ht : gAt (g :: G) t ≠ []) : g.2.1 ≤ t := by
  obtain ⟨k, hk, h1, _⟩ := gAt_mem ht
  obtain ⟨a, b, _⟩ := gcan_cons.1 h
  unfold GOk at a
  rcases List.mem_cons.1 hk with rfl | hk
  · exact h1
  · have := b k hk; unfold GLt at this; omega
theorem gAt_tail {g : Grp} {G : List Grp} {t : Int} (h : GCan (g :: G)) (ht : t < g.2.2) : gAt G t = [] :=
  gAt_before fun k hk => by have := (gcan_cons.1 h).2.1 k hk; unfold GLt at this; omega
theorem gAt_end {g : Grp} {G : List Grp} (h : GCan (g :: G)) : gAt (g :: G) g.2.2 ≠ g.1 := by
  obtain ⟨a, b, _⟩ := gcan_cons.1 h
  rw [gAt, if_neg (by omega)]
  intro he
  have ha := a.1
  obtain ⟨k, hk, h1, h2, h3⟩ := gAt_mem (G := G) (t := g.2.2) (by rw [he]; exact ha)
  rcases b k hk with h4 | ⟨_, h4⟩
  · omega
  · exact h4 (he.symm.trans h3)
theorem gcan_unique : ∀ {G G' : List Grp}, GCan G → GCan G' → (∀ t, gAt G t = gAt G' t) → G = G'
  | [], [], _, _, _ => rfl
  | [], g :: G, _, h', he => by have := he g.2.1; rw [gAt_head h'] at this; exact absurd this.symm (gcan_cons.1 h').1.1
  | g :: G, [], h, _, he => by have := he g.2.1; rw [gAt_head h] at this; exact absurd this (gcan_cons.1 h).1.1
  | g :: G, k :: K, h, h', he => by
    have o1 := (gcan_cons.1 h).1
    have o2 := (gcan_cons.1 h').1
    have h1 : g.2.1 = k.2.1 := by
      have a := gAt_min h' (by rw [← he, gAt_head h]; exact o1.1)
      have b := gAt_min h (by rw [he, gAt_head h']; exact o2.1)
      omega
    have h2 : g.1 = k.1 := by rw [← gAt_head h, ← gAt_head h', h1, he]
    unfold GOk at o1 o2
    have h3 : g.2.2 = k.2.2 := by
      rcases Int.lt_trichotomy g.2.2 k.2.2 with hlt | heq | hgt
      · have := gAt_end h
        rw [he, gAt, if_pos (by omega)] at this
        exact absurd h2.symm this
      · exact heq
      · have := gAt_end h'
        rw [← he, gAt, if_pos (by omega)] at this
        exact absurd h2 this
    have hgk : g = k := Prod.ext h2 (Prod.ext h1 h3)
    subst hgk
    rw [gcan_unique (gcan_cons.1 h).2.2 (gcan_cons.1 h').2.2 fun t => ?_]
    by_cases hle : t < g.2.2
    · rw [gAt_tail h hle, gAt_tail h' hle]
    · have := he t
      rwa [gAt, gAt, if_neg (by omega), if_neg (by omega)] at this

/-! the reference's grouping -/
def oneG (s : List (Int × Int)) (x y : Int) : List Grp := if s = [] then [] else [(s, (x, y))]
def grpG (S : Int → List (Int × Int)) : Int → List (Int × Int) → List Int → List Grp
  | _, _, [] => []
  | x, s, [y] => oneG s x y
  | x, s, y :: z :: r => if S y = s then grpG S x s (z :: r) else oneG s x y ++ grpG S y (S y) (z :: r)
def regG (S : Int → List (Int × Int)) : List Int → List Grp
  | x :: y :: r => grpG S x (S x) (y :: r)
  | _ => []

theorem oneG_mem {s : List (Int × Int)} {x y : Int} {g : Grp} (h : g ∈ oneG s x y) : s ≠ [] ∧ g = (s, (x, y)) := by
  unfold oneG at h
  split at h
  · simp at h
  · rename_i hs; simp at h; exact ⟨hs, h⟩

theorem gAt_append {t : Int} : ∀ {G K : List Grp}, gAt G t = [] → (∀ g ∈ G, ¬ (g.2.1 ≤ t ∧ t < g.2.2)) → gAt (G ++ K) t = gAt K t
  | [], K, _, _ => rfl
  | g :: G, K, h, hn => by
    have h1 := hn g (by simp)
    rw [List.cons_append, gAt, if_neg h1]
    rw [gAt, if_neg h1] at h
    exact gAt_append h fun k hk => hn k (by simp [hk])

theorem grpG_ok (S : Int → List (Int × Int)) : ∀ (r : List Int) (x y : Int) (s : List (Int × Int)), 0 ≤ x → x < y → (y :: r).Pairwise (· < ·) → (∀ z ∈ y :: r, z ≤ 1099511627776) → (∀ t, x ≤ t → t < y → S t = s) →
    (∀ u v t, y ≤ u → (∀ b ∈ y :: r, ¬ (u < b ∧ b < v)) → v ≤ (y :: r).getLast (by simp) → u ≤ t → t < v → S t = S u) →
    GCan (grpG S x s (y :: r)) ∧ (∀ g ∈ grpG S x s (y :: r), x ≤ g.2.1 ∧ (g.2.1 = x → g.1 = s)) ∧ ∀ t, gAt (grpG S x s (y :: r)) t = if x ≤ t ∧ t < (y :: r).getLast (by simp) then S t else []
  | [], x, y, s, h0, hxy, _, hF, hs, _ => by
    rw [grpG]
    have hy := hF y (by simp)
    by_cases hn : s = []
    · subst hn
      rw [oneG, if_pos rfl]
      refine ⟨gcan_nil, by simp, fun t => ?_⟩
      rw [gAt]
      split
      · rw [hs t (by omega) (by simp at *; omega)]
      · rfl
    · rw [oneG, if_neg hn]
      refine ⟨gcan_cons.2 ⟨⟨hn, h0, hxy, hy⟩, by simp, gcan_nil⟩, by simp, fun t => ?_⟩
      show (if x ≤ t ∧ t < y then s else []) = if x ≤ t ∧ t < y then S t else []
      by_cases h : x ≤ t ∧ t < y
      · rw [if_pos h, if_pos h, hs t h.1 h.2]
      · rw [if_neg h, if_neg h]
  | z :: r, x, y, s, h0, hxy, hp, hF, hs, hc => by
    obtain ⟨hp1, hp2⟩ := List.pairwise_cons.1 hp
    have hyz : y < z := hp1 z (by simp)
    have hlast : (y :: z :: r).getLast (by simp) = (z :: r).getLast (by simp) := List.getLast_cons (by simp)
    have hzl : z ≤ (z :: r).getLast (by simp) := by
      have := List.getLast_mem (l := z :: r) (by simp)
      rcases List.mem_cons.1 this with h | h
      · omega
      · have := (List.pairwise_cons.1 hp2).1 _ h; omega
    have hyS : ∀ t, y ≤ t → t < z → S t = S y := fun t h1 h2 => hc y z t (Int.le_refl _) (fun b hb => by
      rcases List.mem_cons.1 hb with rfl | hb
      · omega
      · rcases List.mem_cons.1 hb with rfl | hb
        · omega
        · have := (List.pairwise_cons.1 hp2).1 _ hb; omega) (by rw [hlast]; exact hzl) h1 h2
    have hc' : ∀ u v t, z ≤ u → (∀ b ∈ z :: r, ¬ (u < b ∧ b < v)) → v ≤ (z :: r).getLast (by simp) → u ≤ t → t < v → S t = S u := fun u v t h1 h2 h3 h4 h5 => hc u v t (by omega) (fun b hb => by
      rcases List.mem_cons.1 hb with rfl | hb
      · omega
      · exact h2 b hb) (by rw [hlast]; exact h3) h4 h5
    have hF' : ∀ w ∈ z :: r, w ≤ 1099511627776 := fun w hw => hF w (by simp only [List.mem_cons] at *; exact .inr hw)
    rw [grpG, hlast]
    by_cases he : S y = s
    · rw [if_pos he]
      exact grpG_ok S r x z s h0 (by omega) hp2 hF' (fun t h1 h2 => by
        by_cases h : t < y
        · exact hs t h1 h
        · rw [hyS t (by omega) h2, he]) hc'
    · rw [if_neg he]
      obtain ⟨i1, i2, i3⟩ := grpG_ok S r y z (S y) (by omega) hyz hp2 hF' hyS hc'
      have hyF := hF y (by simp)
      refine ⟨?_, fun g hg => ?_, fun t => ?_⟩
      · by_cases hn : s = []
        · rw [oneG, if_pos hn]; exact i1
        · rw [oneG, if_neg hn]
          refine gcan_cons.2 ⟨⟨hn, h0, hxy, hyF⟩, fun k hk => ?_, i1⟩
          obtain ⟨j1, j2⟩ := i2 k hk
          unfold GLt
          simp only
          by_cases hky : k.2.1 = y
          · right; exact ⟨hky.symm, fun hh => he ((j2 hky).symm.trans hh.symm)⟩
          · left; omega
      · rcases List.mem_append.1 hg with h | h
        · obtain ⟨_, rfl⟩ := oneG_mem h
          exact ⟨Int.le_refl _, fun _ => rfl⟩
        · have := i2 g h
          exact ⟨by omega, fun hh => by omega⟩
      · by_cases h : x ≤ t ∧ t < y
        · have e1 : gAt (oneG s x y ++ grpG S y (S y) (z :: r)) t = s := by
            by_cases hn : s = []
            · rw [oneG, if_pos hn, List.nil_append, i3, if_neg (by omega), hn]
            · rw [oneG, if_neg hn, List.singleton_append, gAt, if_pos h]
          rw [e1, if_pos (by omega), hs t h.1 h.2]
        · have hno : ∀ g ∈ oneG s x y, ¬ (g.2.1 ≤ t ∧ t < g.2.2) := fun g hg => by
            obtain ⟨_, rfl⟩ := oneG_mem hg; exact h
          have hnil : gAt (oneG s x y) t = [] := by
            unfold oneG
            split
            · rfl
            · rw [gAt, if_neg (by exact h)]; rfl
          rw [gAt_append hnil hno, i3]
          by_cases h2 : y ≤ t ∧ t < (z :: r).getLast (by simp)
          · rw [if_pos h2, if_pos (by omega)]
          · rw [if_neg h2, if_neg (by omega)]

/-- what a list of instants must tell of S -/
def Caps (S : Int → List (Int × Int)) (ps : List Int) : Prop :=
  ps.Pairwise (· < ·) ∧ (∀ z ∈ ps, 0 ≤ z ∧ z ≤ 1099511627776) ∧ (∀ u v t, (∀ b ∈ ps, ¬ (u < b ∧ b < v)) → u ≤ t → t < v → S t = S u) ∧ (∀ t, (∀ b ∈ ps, t < b) → S t = []) ∧ (∀ t, (∀ b ∈ ps, b ≤ t) → S t = [])
theorem regG_ok {S : Int → List (Int × Int)} {ps : List Int} (h : Caps S ps) : GCan (regG S ps) ∧ ∀ t, gAt (regG S ps) t = S t := by
  obtain ⟨h1, h2, h3, h4, h5⟩ := h
  match ps, h1, h2, h3, h4, h5 with
  | [], _, _, _, h4, _ => exact ⟨gcan_nil, fun t => (h4 t (by simp)).symm⟩
  | [x], _, _, _, h4, h5 =>
    refine ⟨gcan_nil, fun t => ?_⟩
    rcases Int.lt_or_le t x with h | h
    · exact (h4 t (by simpa using h)).symm
    · exact (h5 t (by simpa using h)).symm
  | x :: y :: r, h1, h2, h3, h4, h5 =>
    obtain ⟨p1, p2⟩ := List.pairwise_cons.1 h1
    have hlast : (x :: y :: r).getLast (by simp) = (y :: r).getLast (by simp) := List.getLast_cons (by simp)
    obtain ⟨a, b, c⟩ := grpG_ok S r x y (S x) (h2 x (by simp)).1 (p1 y (by simp)) p2 (fun z hz => (h2 z (by simp only [List.mem_cons] at *; exact .inr hz)).2)
      (fun t hx hy => h3 x y t (fun b hb => by
        rcases List.mem_cons.1 hb with rfl | hb
        · omega
        · rcases List.mem_cons.1 hb with rfl | hb
          · omega
          · have := (List.pairwise_cons.1 p2).1 _ hb; omega) hx hy)
      (fun u v t hu hb _ ht1 ht2 => h3 u v t (fun b hb' => by
        rcases List.mem_cons.1 hb' with rfl | hb'
        · have := p1 y (by simp); omega
        · exact hb b hb') ht1 ht2)
    refine ⟨a, fun t => ?_⟩
    show gAt (grpG S x (S x) (y :: r)) t = S t
    rw [c]
    split
    · rfl
    · rename_i hn
      rcases Int.lt_or_le t x with h | h
      · refine (h4 t fun b hb => ?_).symm
        rcases List.mem_cons.1 hb with rfl | hb
        · exact h
        · have := p1 b hb; omega
      · refine (h5 t fun b hb => ?_).symm
        have hl : (y :: r).getLast (by simp) ≤ t := by omega
        rcases List.mem_cons.1 hb with rfl | hb
        · have := p1 ((y :: r).getLast (by simp)) (List.getLast_mem _); omega
        · have : b ≤ (y :: r).getLast (by simp) := by
            obtain ⟨i, hi, rfl⟩ := List.getElem_of_mem hb
            rw [List.getLast_eq_getElem]
            rcases Nat.lt_or_ge i ((y :: r).length - 1) with h6 | h6
            · have := List.pairwise_iff_getElem.1 p2 i ((y :: r).length - 1) hi (by simp) h6; omega
            · have : i = (y :: r).length - 1 := by omega
              subst this; exact Int.le_refl _
          omega
theorem regG_eq {S S' : Int → List (Int × Int)} {ps ps' : List Int} (h : Caps S ps) (h' : Caps S' ps') (he : ∀ t, S t = S' t) : regG S ps = regG S' ps' :=
  gcan_unique (regG_ok h).1 (regG_ok h').1 fun t => by rw [(regG_ok h).2, (regG_ok h').2, he]

/-! rectangles -/
def rvB (r : Rct) : Bool := pvB r.1 && pvB r.2
def sliR (l : List Rct) (t : Int) : List (Int × Int) := (l.filter fun r => rvB r && (decide (r.2.1 ≤ t) && decide (t < r.2.2))).map (·.1)
def secR (l : List Rct) (v : Int) : List (Int × Int) := (l.filter fun r => rvB r && (decide (r.1.1 ≤ v) && decide (v < r.1.2))).map (·.2)
def sysR (l : List Rct) : List (Int × Int) := (l.filter rvB).map (·.2)
def inR (l : List Rct) (v t : Int) : Bool := l.any fun r => rvB r && (inP r.1 v && inP r.2 t)
def sK (k : Bool → Bool → Bool) (a b : List Rct) (t : Int) : List (Int × Int) := combF k (sliR a t) (sliR b t)
def regF (k : Bool → Bool → Bool) (a b : List Rct) : List Rct := (regG (sK k a b) (ptsF (sysR (a ++ b)))).flatMap emitF

theorem rvB_iff {r : Rct} : rvB r = true ↔ pvB r.1 = true ∧ pvB r.2 = true := by unfold rvB; rw [Bool.and_eq_true]
theorem mem_sliR {l : List Rct} {t : Int} {p : Int × Int} : p ∈ sliR l t ↔ ∃ r ∈ l, rvB r = true ∧ r.2.1 ≤ t ∧ t < r.2.2 ∧ r.1 = p := by
  unfold sliR
  simp only [List.mem_map, List.mem_filter, Bool.and_eq_true, decide_eq_true_eq]
  constructor
  · rintro ⟨r, ⟨h1, h2, h3, h4⟩, h5⟩; exact ⟨r, h1, h2, h3, h4, h5⟩
  · rintro ⟨r, h1, h2, h3, h4, h5⟩; exact ⟨r, ⟨h1, h2, h3, h4⟩, h5⟩
theorem mem_secR {l : List Rct} {v : Int} {p : Int × Int} : p ∈ secR l v ↔ ∃ r ∈ l, rvB r = true ∧ r.1.1 ≤ v ∧ v < r.1.2 ∧ r.2 = p := by
  unfold secR
  simp only [List.mem_map, List.mem_filter, Bool.and_eq_true, decide_eq_true_eq]
  constructor
  · rintro ⟨r, ⟨h1, h2, h3, h4⟩, h5⟩; exact ⟨r, h1, h2, h3, h4, h5⟩
  · rintro ⟨r, h1, h2, h3, h4, h5⟩; exact ⟨r, ⟨h1, h2, h3, h4⟩, h5⟩
theorem inR_iff {l : List Rct} {v t : Int} : inR l v t = true ↔ ∃ r ∈ l, rvB r = true ∧ r.1.1 ≤ v ∧ v < r.1.2 ∧ r.2.1 ≤ t ∧ t < r.2.2 := by
  unfold inR
  simp only [List.any_eq_true, Bool.and_eq_true, inP_iff]
  constructor
  · rintro ⟨r, h1, h2, h3, h4⟩; exact ⟨r, h1, h2, by omega⟩
  · rintro ⟨r, h1, h2, h3⟩
    obtain ⟨a, b⟩ := rvB_iff.1 h2
    have := pvB_iff.1 a; have := pvB_iff.1 b
    exact ⟨r, h1, h2, by omega, by omega⟩
theorem sli_in (l : List Rct) (v t : Int) : inL (sliR l t) v = inR l v t := by
  refine bool_eq ?_
  rw [inL_iff, inR_iff]
  constructor
  · rintro ⟨p, hp, hi⟩
    obtain ⟨r, h1, h2, h3, h4, rfl⟩ := mem_sliR.1 hp
    have := inP_iff.1 hi
    exact ⟨r, h1, h2, by omega⟩
  · rintro ⟨r, h1, h2, h3⟩
    have := pvB_iff.1 (rvB_iff.1 h2).1
    exact ⟨r.1, mem_sliR.2 ⟨r, h1, h2, by omega, by omega, rfl⟩, inP_iff.2 (by omega)⟩
theorem sec_in (l : List Rct) (v t : Int) : inL (secR l v) t = inR l v t := by
  refine bool_eq ?_
  rw [inL_iff, inR_iff]
  constructor
  · rintro ⟨p, hp, hi⟩
    obtain ⟨r, h1, h2, h3, h4, rfl⟩ := mem_secR.1 hp
    have := inP_iff.1 hi
    exact ⟨r, h1, h2, by omega⟩
  · rintro ⟨r, h1, h2, h3⟩
    have := pvB_iff.1 (rvB_iff.1 h2).2
    exact ⟨r.2, mem_secR.2 ⟨r, h1, h2, by omega, by omega, rfl⟩, inP_iff.2 (by omega)⟩
theorem mem_sysR {l : List Rct} {p : Int × Int} : p ∈ sysR l ↔ ∃ r ∈ l, rvB r = true ∧ r.2 = p := by
  unfold sysR; simp only [List.mem_map, List.mem_filter, and_assoc]

/-- a slice does not turn between two bounds -/
theorem sliR_const {l : List Rct} {ps : List Int} (hps : ∀ p ∈ sysR l, p.1 ∈ ps ∧ p.2 ∈ ps) {u v t : Int} (hb : ∀ b ∈ ps, ¬ (u < b ∧ b < v)) (h1 : u ≤ t) (h2 : t < v) : sliR l t = sliR l u := by
  unfold sliR
  congr 1
  apply List.filter_congr
  intro r hr
  by_cases hv : rvB r = true
  · obtain ⟨m1, m2⟩ := hps r.2 (mem_sysR.2 ⟨r, hr, hv, rfl⟩)
    have b1 := hb _ m1
    have b2 := hb _ m2
    rw [hv, Bool.true_and, Bool.true_and]
    refine bool_eq ?_
    simp only [Bool.and_eq_true, decide_eq_true_eq]
    omega
  · rw [Bool.not_eq_true] at hv
    rw [hv]; rfl
theorem sliR_nil {l : List Rct} {t : Int} (h : ∀ p ∈ sysR l, ¬ (p.1 ≤ t ∧ t < p.2)) : sliR l t = [] := by
  unfold sliR
  rw [List.map_eq_nil_iff, List.filter_eq_nil_iff]
  intro r hr hh
  simp only [Bool.and_eq_true, decide_eq_true_eq] at hh
  exact h r.2 (mem_sysR.2 ⟨r, hr, hh.1, rfl⟩) hh.2
theorem combF_nil {k : Bool → Bool → Bool} (hk : k false false = false) : combF k [] [] = [] :=
  can_unique (combF_can _ _ _) can_nil fun t => by rw [combF_in, inL_nil, hk, Bool.and_false]
theorem sysR_append (a b : List Rct) : sysR (a ++ b) = sysR a ++ sysR b := by simp [sysR]
theorem caps_sK {k : Bool → Bool → Bool} (hk : k false false = false) (a b : List Rct) : Caps (sK k a b) (ptsF (sysR (a ++ b))) := by
  have hm : ∀ p ∈ sysR (a ++ b), pvB p = true := fun p hp => by
    obtain ⟨r, _, hv, rfl⟩ := mem_sysR.1 hp; exact (rvB_iff.1 hv).2
  have hps : ∀ p ∈ sysR (a ++ b), p.1 ∈ ptsF (sysR (a ++ b)) ∧ p.2 ∈ ptsF (sysR (a ++ b)) := fun p hp =>
    ⟨mem_ptsF.2 ⟨p, hp, hm p hp, .inl rfl⟩, mem_ptsF.2 ⟨p, hp, hm p hp, .inr rfl⟩⟩
  have ha : ∀ p ∈ sysR a, p ∈ sysR (a ++ b) := fun p hp => by rw [sysR_append]; simp [hp]
  have hb : ∀ p ∈ sysR b, p ∈ sysR (a ++ b) := fun p hp => by rw [sysR_append]; simp [hp]
  refine ⟨sorted_ptsF _, fun z hz => ?_, fun u v t h h1 h2 => ?_, fun t h => ?_, fun t h => ?_⟩
  · obtain ⟨p, hp, hv, h⟩ := mem_ptsF.1 hz
    have := pvB_iff.1 hv
    rcases h with rfl | rfl <;> omega
  · unfold sK
    rw [sliR_const (fun p hp => hps p (ha p hp)) h h1 h2, sliR_const (fun p hp => hps p (hb p hp)) h h1 h2]
  · unfold sK
    rw [sliR_nil fun p hp hh => by have := h _ (hps p (ha p hp)).1; omega, sliR_nil fun p hp hh => by have := h _ (hps p (hb p hp)).1; omega]
    exact combF_nil hk
  · unfold sK
    rw [sliR_nil fun p hp hh => by have := h _ (hps p (ha p hp)).2; omega, sliR_nil fun p hp hh => by have := h _ (hps p (hb p hp)).2; omega]
    exact combF_nil hk

/-! the slices of a combination -/
theorem sliR_append (a b : List Rct) (t : Int) : sliR (a ++ b) t = sliR a t ++ sliR b t := by simp [sliR]
theorem sliR_emit {g : Grp} (hg : GOk g) (hv : ∀ p ∈ g.1, pvB p = true) (t : Int) : sliR (emitF g) t = if g.2.1 ≤ t ∧ t < g.2.2 then g.1 else [] := by
  have hp : pvB g.2 = true := pvB_iff.2 (by unfold GOk at hg; omega)
  unfold sliR emitF
  rw [List.filter_map, List.map_map]
  have e : (g.1.filter ((fun r : Rct => rvB r && (decide (r.2.1 ≤ t) && decide (t < r.2.2))) ∘ fun v => (v, g.2))) = if g.2.1 ≤ t ∧ t < g.2.2 then g.1 else [] := by
    split
    · rename_i h
      rw [List.filter_eq_self]
      intro p hpm
      simp [rvB, hp, hv p hpm, h]
    · rename_i h
      rw [List.filter_eq_nil_iff]
      intro p hpm hh
      simp [rvB] at hh
      omega
  rw [e]
  split
  · simp [Function.comp_def]
  · rfl
theorem sliR_groups : ∀ {G : List Grp}, GCan G → (∀ g ∈ G, ∀ p ∈ g.1, pvB p = true) → ∀ t, sliR (G.flatMap emitF) t = gAt G t
  | [], _, _, t => rfl
  | g :: G, h, hv, t => by
    obtain ⟨h1, h2, h3⟩ := gcan_cons.1 h
    rw [List.flatMap_cons, sliR_append, sliR_emit h1 (hv g (by simp)), sliR_groups h3 (fun k hk => hv k (by simp [hk])), gAt]
    split
    · rename_i hh; rw [gAt_tail h hh.2, List.append_nil]
    · rfl
theorem reg_valid {k : Bool → Bool → Bool} (hk : k false false = false) (a b : List Rct) : ∀ g ∈ regG (sK k a b) (ptsF (sysR (a ++ b))), Can g.1 := fun g hg => by
  obtain ⟨h1, h2⟩ := regG_ok (caps_sK hk a b)
  have : ∀ {G : List Grp}, GCan G → g ∈ G → gAt G g.2.1 = g.1 := by
    intro G
    induction G with
    | nil => intro _ h; simp at h
    | cons x G ih =>
      intro hc hm
      rcases List.mem_cons.1 hm with rfl | hm
      · exact gAt_head hc
      · have hx := (gcan_cons.1 hc).2.1 g hm
        rw [gAt, if_neg (by unfold GLt at hx; omega)]
        exact ih (gcan_cons.1 hc).2.2 hm
  rw [← this h1 hg, h2]
  exact combF_can _ _ _
theorem sliR_reg {k : Bool → Bool → Bool} (hk : k false false = false) (a b : List Rct) (t : Int) : sliR (regF k a b) t = sK k a b t := by
  obtain ⟨h1, h2⟩ := regG_ok (caps_sK hk a b)
  unfold regF
  rw [sliR_groups h1 (fun g hg => (reg_valid hk a b g hg).1), h2]
theorem inR_rng {l : List Rct} {v t : Int} (h : inR l v t = true) : 0 ≤ v ∧ v < 1099511627776 ∧ 0 ≤ t ∧ t < 1099511627776 := by
  obtain ⟨r, _, h2, h3⟩ := inR_iff.1 h
  have := pvB_iff.1 (rvB_iff.1 h2).1; have := pvB_iff.1 (rvB_iff.1 h2).2
  omega
theorem inR_reg {k : Bool → Bool → Bool} (hk : k false false = false) (a b : List Rct) (v t : Int) : inR (regF k a b) v t = k (inR a v t) (inR b v t) := by
  rw [← sli_in, sliR_reg hk, sK, combF_in, sli_in, sli_in]
  by_cases h : 0 ≤ v ∧ v < 1099511627776
  · rw [decide_eq_true h, Bool.true_and]
  · rw [decide_eq_false h, Bool.false_and]
    have ha : inR a v t = false := by rw [Bool.eq_false_iff]; intro hh; have := inR_rng hh; omega
    have hb : inR b v t = false := by rw [Bool.eq_false_iff]; intro hh; have := inR_rng hh; omega
    rw [ha, hb, hk]
/-- combinations with the same points are one list -/
theorem regF_eq {k k' : Bool → Bool → Bool} (hk : k false false = false) (hk' : k' false false = false) {a b a' b' : List Rct} (h : ∀ v t, k (inR a v t) (inR b v t) = k' (inR a' v t) (inR b' v t)) : regF k a b = regF k' a' b' := by
  unfold regF
  rw [regG_eq (caps_sK hk a b) (caps_sK hk' a' b') fun t => ?_]
  exact combF_eq fun v _ _ => by rw [sli_in, sli_in, sli_in, sli_in]; exact h v t

/-! the program's combination -/
/-- the state: what is out, the slice at its end, the end of its system period -/
def prgF (S : Int → List (Int × Int)) : List Grp → List (Int × Int) → Int → List (Int × Int) → List Grp
  | out, _, _, [] => out
  | out, last, to, p :: r =>
    if S p.1 = [] then prgF S out last to r
    else if to = p.1 ∧ S p.1 = last then prgF S (out.dropLast ++ [(last, ((out.getLast?.map (·.2.1)).getD 0, p.2))]) (S p.1) p.2 r
    else prgF S (out ++ [(S p.1, p)]) (S p.1) p.2 r
theorem prgF_filter (S : Int → List (Int × Int)) (f : Int → Bool) (hf : ∀ t, f t = false → S t = []) : ∀ (r : List (Int × Int)) (out : List Grp) (last : List (Int × Int)) (to : Int), prgF S out last to (r.filter fun p => f p.1) = prgF S out last to r
  | [], _, _, _ => rfl
  | p :: r, out, last, to => by
    rw [List.filter_cons]
    cases h : f p.1 with
    | true =>
      simp only [if_true]
      rw [prgF, prgF]
      split
      · exact prgF_filter S f hf r _ _ _
      · split
        · exact prgF_filter S f hf r _ _ _
        · exact prgF_filter S f hf r _ _ _
    | false =>
      simp only [Bool.false_eq_true, if_false]
      rw [prgF_filter S f hf r, prgF, if_pos (hf _ h)]
theorem prgF_eq (S : Int → List (Int × Int)) : ∀ (r : List Int) (y x : Int) (s : List (Int × Int)) (done : List Grp) (last : List (Int × Int)) (to : Int), (y :: r).Pairwise (· < ·) →
    (s ≠ [] → prgF S (done ++ [(s, (x, y))]) s y (pairsF (y :: r)) = done ++ grpG S x s (y :: r)) ∧ (s = [] → to < y → prgF S done last to (pairsF (y :: r)) = done ++ grpG S x s (y :: r))
  | [], y, x, s, done, last, to, _ => by
    constructor
    · intro hs; rw [pairsF, prgF, grpG, oneG, if_neg hs]; simp
    · intro hs _; rw [pairsF, prgF, grpG, oneG, if_pos hs]; simp; simp
  | z :: r, y, x, s, done, last, to, hp => by
    obtain ⟨hp1, hp2⟩ := List.pairwise_cons.1 hp
    have hyz : y < z := hp1 z (by simp)
    constructor
    · intro hs
      rw [pairsF, prgF, grpG]
      by_cases he : S y = s
      · rw [if_neg (by rw [he]; exact hs), if_pos ⟨rfl, he⟩, if_pos he, he]
        have := (prgF_eq S r z x s done last to hp2).1 hs
        rw [← this]
        simp
      · rw [if_neg he, oneG, if_neg hs]
        by_cases hn : S y = []
        · rw [if_pos hn, hn]
          have := (prgF_eq S r z y [] (done ++ [(s, (x, y))]) s y hp2).2 rfl hyz
          rw [this]; simp
        · rw [if_neg hn, if_neg (by intro hh; exact he hh.2)]
          have := (prgF_eq S r z y (S y) (done ++ [(s, (x, y))]) s y hp2).1 hn
          rw [this]; simp
    · intro hs hto
      subst hs
      rw [pairsF, prgF, grpG]
      by_cases he : S y = []
      · rw [if_pos he, if_pos he]
        exact (prgF_eq S r z x [] done last to hp2).2 rfl (by omega)
      · rw [if_neg he, if_neg (by intro hh; omega), if_neg he, oneG, if_pos rfl]
        have := (prgF_eq S r z y (S y) done last to hp2).1 he
        rw [this]; simp
theorem prgF_reg (S : Int → List (Int × Int)) {ps : List Int} (hp : ps.Pairwise (· < ·)) (h0 : ∀ z ∈ ps, 0 ≤ z) : prgF S [] [] (-1) (pairsF ps) = regG S ps := by
  match ps, hp, h0 with
  | [], _, _ => rfl
  | [x], _, _ => rfl
  | x :: y :: r, hp, h0 =>
    obtain ⟨hp1, hp2⟩ := List.pairwise_cons.1 hp
    have hx := h0 x (by simp)
    rw [pairsF, prgF, regG]
    by_cases he : S x = []
    · rw [if_pos he, he]
      have := (prgF_eq S r y x [] [] [] (-1) hp2).2 rfl (by have := hp1 y (by simp); omega)
      rw [this]; rfl
    · rw [if_neg he, if_neg (by intro hh; omega)]
      exact (prgF_eq S r y x (S x) [] [] (-1) hp2).1 he
/-- what the program's visits make -/
theorem prg_all {k : Bool → Bool → Bool} (hk : k false false = false) (a b : List Rct) : prgF (sK k a b) [] [] (-1) (slcF (sysR (a ++ b))) = regG (sK k a b) (ptsF (sysR (a ++ b))) := by
  unfold slcF
  rw [prgF_filter (sK k a b) (inL (sysR (a ++ b)))]
  · exact prgF_reg _ (sorted_ptsF _) fun z hz => ((caps_sK hk a b).2.1 z hz).1
  · intro t ht
    have hn : ∀ p ∈ sysR (a ++ b), ¬ (p.1 ≤ t ∧ t < p.2) := fun p hp hh => by
      obtain ⟨r, _, hv, rfl⟩ := mem_sysR.1 hp
      have hv' := pvB_iff.1 (rvB_iff.1 hv).2
      have : inL (sysR (a ++ b)) t = true := inL_iff.2 ⟨_, hp, inP_iff.2 (by omega)⟩
      rw [this] at ht; cases ht
    unfold sK
    rw [sliR_nil fun p hp => hn p (by rw [sysR_append]; simp [hp]), sliR_nil fun p hp => hn p (by rw [sysR_append]; simp [hp])]
    exact combF_nil hk
end Go.Proofs.YtimhehnmmjgeaaaGreatDoor
