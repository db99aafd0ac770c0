/- TopIndexes: the plain law. -/
import Derived.Test.YtahmkinppighkaaItG
set_option linter.unusedSimpArgs false
set_option linter.unusedVariables false
namespace Go.Proofs.Ytahmkinppighkaa
open Go.RowKit


def itm (b : Bxs) : It := (b.1.1, b.2)
/-- the identities that the tree of the valid times gives -/
theorem compact_asc (l : List Int) : (Lib.compact (l.mergeSort fun x y => decide (x ≤ y))).Pairwise (· < ·) ∧ ∀ z, z ∈ Lib.compact (l.mergeSort fun x y => decide (x ≤ y)) ↔ z ∈ l := by
  have hp := List.mergeSort_perm l (fun x y => decide (x ≤ y))
  have hs : (l.mergeSort fun x y => decide (x ≤ y)).Pairwise (fun x y => decide (x ≤ y) = true) := List.pairwise_mergeSort (by intro a b c; simp; omega) (by intro a b; simp; omega) _
  generalize l.mergeSort (fun x y => decide (x ≤ y)) = zs at hp hs
  have h := compactUpTo_asc zs.toArray (fun i j hij hj => by
    have hj' : j < zs.length := by simpa using hj
    have := List.pairwise_iff_getElem.1 hs i j (by omega) hj' hij
    rw [getElem!_pos zs.toArray i (by simp; omega), getElem!_pos zs.toArray j hj]
    simpa using this) zs.length (by simp)
  refine ⟨h.1, fun z => (h.2 z).trans ?_⟩
  rw [← hp.mem_iff, List.mem_iff_getElem]
  constructor
  · rintro ⟨j, hj, he⟩
    exact ⟨j, hj, by rw [getElem!_pos zs.toArray j (by simpa using hj)] at he; simpa using he⟩
  · rintro ⟨j, hj, he⟩
    exact ⟨j, hj, by rw [getElem!_pos zs.toArray j (by simpa using hj)]; simpa using he⟩
def hitB (s : Int × Int) (i : Int) (b : Bxs) : Bool := decide (b.2 = i) && povB b.1.2 s
/-- the wanted ones of one identity -/
def wnt (L : List Bxs) (s : Int × Int) (i : Int) : List Int := (L.filter (hitB s i)).map fun _ => i
theorem wnt_none {L : List Bxs} {s : Int × Int} {i : Int} (h : ∀ b ∈ L, b.2 ≠ i) : wnt L s i = [] := by
  unfold wnt
  rw [List.filter_eq_nil_iff.2 fun b hb => by simp [hitB, h b hb]]
  rfl
theorem wnt_eq (s : Int × Int) (i : Int) : ∀ {L : List Bxs}, (L.map (·.2)).Nodup → wnt L s i = if L.any (hitB s i) then [i] else []
  | [], _ => rfl
  | b :: L, hn => by
    rw [List.map_cons, List.nodup_cons] at hn
    by_cases hb : b.2 = i
    · have h0 : wnt L s i = [] := wnt_none fun c hc he => hn.1 (by rw [hb, ← he]; exact List.mem_map_of_mem hc)
      have h1 : L.any (hitB s i) = false := by
        rw [List.any_eq_false]
        intro c hc he
        simp [hitB] at he
        exact hn.1 (by rw [hb, ← he.1]; exact List.mem_map_of_mem hc)
      unfold wnt at h0 ⊢
      rw [List.filter_cons, List.any_cons, h1, Bool.or_false]
      split
      · rw [List.map_cons, h0]
      · exact h0
    · have h2 : hitB s i b = false := by simp [hitB, hb]
      have := wnt_eq s i hn.2
      unfold wnt at this ⊢
      rw [List.filter_cons, h2, List.any_cons, h2, Bool.false_or]
      exact this
theorem flat_asc {l : List Int} {f : Int → Bool} (h : l.Pairwise (· < ·)) : (l.flatMap fun i => if f i then [i] else []) = l.filter f := by
  clear h
  induction l with
  | nil => rfl
  | cons x l ih => rw [List.flatMap_cons, ih, List.filter_cons]; split <;> rfl
def idsF (p : Int × Int) (t : AT) : List Int := if pvB p then ovIds p t else []
theorem ovl_rov (a b : Rct) : ovlB a b = rovB a b := by
  unfold ovlB rovB povB rvB
  cases pvB a.1 <;> cases pvB a.2 <;> cases pvB b.1 <;> cases pvB b.2 <;> simp
  all_goals try (rw [Bool.eq_iff_iff]; simp; omega)
theorem same_box {L : List Bxs} (hn : (L.map (·.2)).Nodup) {b c : Bxs} (hb : b ∈ L) (hc : c ∈ L) (h : b.2 = c.2) : b = c := by
  induction L with
  | nil => cases hb
  | cons x l ih =>
    rw [List.map_cons, List.nodup_cons] at hn
    rcases List.mem_cons.1 hb with h1 | h1 <;> rcases List.mem_cons.1 hc with h2 | h2
    · rw [h1, h2]
    · exact absurd (List.mem_map_of_mem (f := (·.2)) h2) (by rw [← h, h1]; exact hn.1)
    · exact absurd (List.mem_map_of_mem (f := (·.2)) h1) (by rw [h, h2]; exact hn.1)
    · exact ih hn.2 h1 h2
theorem mem_got {wd : Int} {L : List Bxs} {r : Rct} (hE : errF wd L = 0) {i : Int} : i ∈ rsF (loE wd L) r ↔ ∃ b ∈ L, b.2 = i ∧ ovlB b.1 r = true := by
  unfold rsF loE
  rw [if_pos hE, mem_putsF, List.mem_map]
  constructor
  · rintro ⟨b, hb, rfl⟩
    rw [List.mem_filter] at hb
    exact ⟨b, (ordF_perm L).mem_iff.1 hb.1, rfl, hb.2⟩
  · rintro ⟨b, hb, rfl, h⟩
    exact ⟨b, List.mem_filter.2 ⟨(ordF_perm L).mem_iff.2 hb, h⟩, rfl⟩
/-- TopIndexes -/
theorem indexes_plain {wd : Int} {L : List Bxs} {r : Rct} {t : AT} (hE : errF wd L = 0) (hv : ∀ b ∈ L, rvB b.1 = true) (hn : (L.map (·.2)).Nodup) (ok : t.Ok) (st : SrI t.flat) (pm : t.flat.Perm (L.map itm)) :
    (idsF r.1 t).flatMap (wnt L r.2) = rsF (loE wd L) r := by
  have h1 : (idsF r.1 t).Pairwise (· < ·) ∧ ∀ z, z ∈ idsF r.1 t ↔ pvB r.1 = true ∧ ∃ b ∈ L, b.2 = z ∧ ovP r.1 (itm b) = true := by
    unfold idsF
    split
    · rename_i hp
      obtain ⟨h, h'⟩ := compact_asc (t.ov r.1)
      refine ⟨h, fun z => (h' z).trans ?_⟩
      rw [AT.ov_flat r.1 ok st, List.mem_map]
      constructor
      · rintro ⟨x, hx, rfl⟩
        rw [List.mem_filter] at hx
        obtain ⟨b, hb, rfl⟩ := List.mem_map.1 (pm.mem_iff.1 hx.1)
        exact ⟨hp, b, hb, rfl, hx.2⟩
      · rintro ⟨_, b, hb, rfl, h⟩
        exact ⟨itm b, List.mem_filter.2 ⟨pm.mem_iff.2 (List.mem_map_of_mem hb), h⟩, rfl⟩
    · rename_i hp
      exact ⟨List.Pairwise.nil, fun z => by simp [hp]⟩
  have h2 : (idsF r.1 t).flatMap (wnt L r.2) = (idsF r.1 t).filter fun i => L.any (hitB r.2 i) := by
    rw [← flat_asc h1.1]
    congr 1
    funext i
    exact wnt_eq r.2 i hn
  rw [h2]
  refine asc_unique (h1.1.filter _) (putsF_sorted _) fun z => ?_
  rw [mem_got hE, List.mem_filter, h1.2 z, List.any_eq_true]
  constructor
  · rintro ⟨⟨hp, b, hb, rfl, h⟩, c, hc, h'⟩
    simp only [hitB, Bool.and_eq_true, decide_eq_true_eq] at h'
    obtain rfl := same_box hn hb hc h'.1.symm
    refine ⟨b, hb, rfl, ?_⟩
    have := hv b hb
    have h3 := h'.2
    simp only [ovP, itm, Bool.and_eq_true] at h
    have h := And.intro (of_decide_eq_true h.1) (of_decide_eq_true h.2)
    simp [povB] at h3
    simp [ovlB, rvB] at this ⊢
    simp [this, hp, h3]
    omega
  · rintro ⟨b, hb, rfl, h⟩
    simp [ovlB, rvB] at h
    refine ⟨⟨by simp [h], b, hb, rfl, by simp only [ovP, itm, Bool.and_eq_true]; exact ⟨decide_eq_true (by omega), decide_eq_true (by omega)⟩⟩, b, hb, ?_⟩
    simp [hitB, povB, h]
theorem got_rov {wd : Int} {L : List Bxs} {r : Rct} (hE : errF wd L = 0) (hn : (L.map (·.2)).Nodup) {i : Int} (h : i ∈ rsF (loE wd L) r) {b : Bxs} (hb : b ∈ L) (hi : b.2 = i) : rovB b.1 r = true := by
  obtain ⟨c, hc, he, ho⟩ := (mem_got hE).1 h
  obtain rfl := same_box hn hb hc (hi.trans he.symm)
  rw [← ovl_rov]; exact ho

end Go.Proofs.Ytahmkinppighkaa
