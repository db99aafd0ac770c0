/- What merge and the borrowings leave, as trees. -/
import Derived.Test.YtdmbgimehepfaaaBtU
set_option linter.unusedSimpArgs false
set_option linter.unusedVariables false
namespace Go.Proofs.Ytdmbgimehepfaaa
open Go.RowKit

/-- a kid's form, but for the number of its pairs -/
def KidW (m : Nat) : Nat → MT → Prop
  | 0, k => k.ks = []
  | d + 1, k => k.ks.length = k.ps.length + 1 ∧ ∀ x ∈ k.ks, Wf m d (m / 2) m x
theorem wf_iff {m d lo hi : Nat} {k : MT} : Wf m d lo hi k ↔ KidW m d k ∧ lo ≤ k.ps.length ∧ k.ps.length ≤ hi := by
  cases d with
  | zero => exact Iff.rfl
  | succ d => exact ⟨fun h => ⟨⟨h.1, h.2.2.2⟩, h.2.1, h.2.2.1⟩, fun h => ⟨h.1.1, h.2.1, h.2.2, h.1.2⟩⟩
theorem KidW.len {m d : Nat} {k : MT} (h : KidW m d k) : d = 0 ∨ k.ks.length = k.ps.length + 1 := by
  cases d with
  | zero => exact .inl rfl
  | succ d => exact .inr h.1
theorem KidW.le {m d : Nat} {k : MT} (h : KidW m d k) : k.ks.length ≤ k.ps.length + 1 := by
  cases d with
  | zero => rw [show k.ks = [] from h]; simp
  | succ d => exact Nat.le_of_eq h.1
theorem KidW.join {m d : Nat} {x a b : MT} {q : MP} (ha : KidW m d a) (hb : KidW m d b) (hp : x.ps = a.ps ++ q :: b.ps) (hk : x.ks = a.ks ++ b.ks) : KidW m d x := by
  cases d with
  | zero => show x.ks = []; rw [hk, show a.ks = [] from ha, show b.ks = [] from hb]; rfl
  | succ d =>
    refine ⟨by rw [hp, hk]; simp [ha.1, hb.1]; omega, fun y hy => ?_⟩
    rw [hk] at hy
    rcases List.mem_append.1 hy with hy | hy
    · exact ha.2 y hy
    · exact hb.2 y hy
/-- the number of kids alone decides the form -/
theorem KidW.part {m d : Nat} {x y : MT} (h : KidW m d x) (hs : ∀ k ∈ y.ks, k ∈ x.ks) (hl : d ≠ 0 → y.ks.length = y.ps.length + 1) (hz : x.ks = [] → y.ks = []) : KidW m d y := by
  cases d with
  | zero => exact hz h
  | succ d => exact ⟨hl (by omega), fun k hk => h.2 k (hs k hk)⟩
/-- what fix leaves -/
structure FixR (base m d : Nat) (w w' : World) (t t' : MT) : Prop where
  upd : Upd base (d + 1) w w' t t'
  flat : flat (d + 1) t' = flat (d + 1) t
  len : t'.ks.length = t'.ps.length + 1
  kids : ∀ k ∈ t'.ks, Wf m d (m / 2) m k
  le : t'.ps.length ≤ t.ps.length
  ge : t.ps.length ≤ t'.ps.length + 1
section
variable {base m d i : Nat} {w w' : World} {t a b : MT} {q : MP}
theorem two_at {α : Type} {l : List α} {i : Nat} {a b : α} (ha : l[i]? = some a) (hb : l[i + 1]? = some b) : l = l.take i ++ a :: b :: l.drop (i + 2) := by
  obtain ⟨hi, rfl⟩ := List.getElem?_eq_some_iff.1 ha
  obtain ⟨hj, rfl⟩ := List.getElem?_eq_some_iff.1 hb
  rw [List.getElem_cons_drop hj, List.getElem_cons_drop hi, List.take_append_drop]
theorem one_at {α : Type} {l : List α} {i : Nat} {a : α} (ha : l[i]? = some a) : l = l.take i ++ a :: l.drop (i + 1) := by
  obtain ⟨hi, rfl⟩ := List.getElem?_eq_some_iff.1 ha
  rw [List.getElem_cons_drop hi, List.take_append_drop]
theorem kids_apart {t a b : MT} (hnd : (foot (d + 1) t).Nodup) (ha : t.ks[i]? = some a) (hb : t.ks[i + 1]? = some b) : (t.own ++ (a.own ++ b.own)).Nodup := by
  have h2 := two_at ha hb
  have h1 := (foot_split (d := d) (t := t) (K1 := t.ks.take i) (X := [a, b]) (K2 := t.ks.drop (i + 2)) h2).nodup_iff.1 hnd
  have := (List.nodup_append.1 h1).1
  simpa using this
theorem kid_apart {t a : MT} (hnd : (foot (d + 1) t).Nodup) (ha : t.ks[i]? = some a) : (t.own ++ a.own).Nodup := by
  have h1 := (foot_split (d := d) (t := t) (K1 := t.ks.take i) (X := [a]) (K2 := t.ks.drop (i + 1)) (one_at ha)).nodup_iff.1 hnd
  have := (List.nodup_append.1 h1).1
  simpa using this
theorem foot_of_kid (hnd : (foot (d + 1) t).Nodup) {k : MT} (hk : k ∈ t.ks) : (foot d k).Nodup := by
  have h1 : (t.ks.flatMap (foot d)).Nodup := (List.nodup_append.1 hnd).2.1
  obtain ⟨A, B, hAB⟩ := List.append_of_mem hk
  rw [hAB, List.flatMap_append, List.flatMap_cons] at h1
  exact (List.nodup_append.1 (List.nodup_append.1 h1).2.1).1
theorem MergeR.fix {t' a' : MT} (H : MergeR base i w w' t a b q t' a') (hG : Good base w (d + 1) t) (hnd : (foot (d + 1) t).Nodup) (hl : t.ks.length = t.ps.length + 1) (hia : t.ks[i]? = some a) (hib : t.ks[i + 1]? = some b) (hq : t.ps[i]? = some q)
    (hwa : KidW m d a) (hwb : KidW m d b) (hlo : m / 2 ≤ a.ps.length + b.ps.length + 1) (hhi : a.ps.length + b.ps.length + 1 ≤ m) (hks : ∀ j k, t.ks[j]? = some k → j ≠ i → j ≠ i + 1 → Wf m d (m / 2) m k) : FixR base m d w w' t t' := by
  have hk := two_at hia hib
  have hp := one_at hq
  have hip := (List.getElem?_eq_some_iff.1 hq).1
  have hl1 : (t.ps.take i).length = (t.ks.take i).length := by simp; omega
  have hj : flat d a' = flat d a ++ q :: flat d b := flat_join H.aps H.aks hwa.len
  have hk' : t'.ks = t.ks.take i ++ ([a'] ++ t.ks.drop (i + 2)) := H.tks
  refine ⟨Upd.mid (K1 := t.ks.take i) (X := [a, b]) (X' := [a']) (K2 := t.ks.drop (i + 2)) hG hnd hk hk' H.tr (by simp [H.aks]) H.okt (by intro x hx; simp at hx; subst hx; exact H.oka) (by simpa using H.nodup) (by intro x hx; simpa using H.new x (by simpa using hx)) (by simpa using H.tur), ?_, ?_, ?_, ?_, ?_⟩
  · rw [flat_at (t := t') (k := a') H.tps H.tks hl1, flat_at2 (t := t) hp hk hl1, hj]
  · rw [H.tks, H.tps]; simp; omega
  · intro k hk2
    rw [H.tks] at hk2
    rcases List.mem_append.1 hk2 with hk2 | hk2
    · obtain ⟨j, hj, rfl⟩ := List.getElem_of_mem hk2
      simp only [List.length_take] at hj
      exact hks j _ (by rw [List.getElem_take]; exact List.getElem?_eq_getElem (by omega)) (by omega) (by omega)
    · rcases List.mem_cons.1 hk2 with rfl | hk2
      · exact wf_iff.2 ⟨hwa.join hwb H.aps H.aks, by rw [H.aps]; simp; omega, by rw [H.aps]; simp; omega⟩
      · obtain ⟨j, hj, rfl⟩ := List.getElem_of_mem hk2
        simp only [List.length_drop] at hj
        exact hks (i + 2 + j) _ (by rw [List.getElem_drop]; exact List.getElem?_eq_getElem (by omega)) (by omega) (by omega)
  · rw [H.tps]; simp; omega
  · rw [H.tps]; simp; omega
theorem BorR.fix {t' a' b' : MT} {q' : MP} (H : BorR base i w w' t a b t' a' b') (hps : t'.ps = t.ps.set i q') (hj : a'.ps ++ q' :: b'.ps = a.ps ++ q :: b.ps) (hkj : a'.ks ++ b'.ks = a.ks ++ b.ks) (hG : Good base w (d + 1) t) (hnd : (foot (d + 1) t).Nodup) (hl : t.ks.length = t.ps.length + 1) (hia : t.ks[i]? = some a) (hib : t.ks[i + 1]? = some b) (hq : t.ps[i]? = some q)
    (hwa : KidW m d a) (hwb : KidW m d b) (hwa' : KidW m d a') (hwb' : KidW m d b') (ha1 : m / 2 ≤ a'.ps.length) (ha2 : a'.ps.length ≤ m) (hb1 : m / 2 ≤ b'.ps.length) (hb2 : b'.ps.length ≤ m) (hks : ∀ j k, t.ks[j]? = some k → j ≠ i → j ≠ i + 1 → Wf m d (m / 2) m k) : FixR base m d w w' t t' := by
  have hk := two_at hia hib
  have hp := one_at hq
  have hip := (List.getElem?_eq_some_iff.1 hq).1
  have hl1 : (t.ps.take i).length = (t.ks.take i).length := by simp; omega
  have hp' : t'.ps = t.ps.take i ++ q' :: t.ps.drop (i + 1) := by rw [hps, List.set_eq_take_append_cons_drop, if_pos hip]
  have j1 := flat_join (d := d) (x := .nd 0 undef undef (a.ps ++ q :: b.ps) (a.ks ++ b.ks)) (a := a) (b := b) (q := q) rfl rfl hwa.len
  have j2 := flat_join (d := d) (x := .nd 0 undef undef (a.ps ++ q :: b.ps) (a.ks ++ b.ks)) (a := a') (b := b') (q := q') hj.symm hkj.symm hwa'.len
  have hk' : t'.ks = t.ks.take i ++ ([a', b'] ++ t.ks.drop (i + 2)) := H.tks
  refine ⟨Upd.mid (K1 := t.ks.take i) (X := [a, b]) (X' := [a', b']) (K2 := t.ks.drop (i + 2)) hG hnd hk hk' H.tr (by simpa using hkj) H.okt (by intro x hx; simp at hx; rcases hx with rfl | rfl; exact H.oka; exact H.okb) (by simpa using H.nodup) (by intro x hx; simpa using H.new x (by simpa using hx)) (by simpa using H.tur), ?_, ?_, ?_, ?_, ?_⟩
  · rw [flat_at2 (t := t') hp' H.tks hl1, flat_at2 (t := t) hp hk hl1, ← j1, ← j2]
  · rw [H.tks, hp']; simp; omega
  · intro k hk2
    rw [H.tks] at hk2
    rcases List.mem_append.1 hk2 with hk2 | hk2
    · obtain ⟨j, hj, rfl⟩ := List.getElem_of_mem hk2
      simp only [List.length_take] at hj
      exact hks j _ (by rw [List.getElem_take]; exact List.getElem?_eq_getElem (by omega)) (by omega) (by omega)
    · rcases List.mem_cons.1 hk2 with rfl | hk2
      · exact wf_iff.2 ⟨hwa', ha1, ha2⟩
      · rcases List.mem_cons.1 hk2 with rfl | hk2
        · exact wf_iff.2 ⟨hwb', hb1, hb2⟩
        · obtain ⟨j, hj, rfl⟩ := List.getElem_of_mem hk2
          simp only [List.length_drop] at hj
          exact hks (i + 2 + j) _ (by rw [List.getElem_drop]; exact List.getElem?_eq_getElem (by omega)) (by omega) (by omega)
  · rw [hp']; simp; omega
  · rw [hp']; simp; omega
end
end Go.Proofs.Ytdmbgimehepfaaa
