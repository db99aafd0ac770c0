/- Regions of tables: plain laws (canonical lists by table and period). -/
import Derived.Test.YtpifjhoelnacgaaGreatSpQ
set_option linter.unusedSimpArgs false
set_option linter.unusedVariables false
namespace Go.Proofs.YtpifjhoelnacgaaGreat

/-- a region: its table, its period -/
abbrev Acc := ByteArray × (Int × Int)
def tb (a : Acc) : List UInt8 := a.1.data.toList
/-- the regions contain instant x of table t -/
def inT (l : List Acc) (t : List UInt8) (x : Int) : Bool := l.any fun a => decide (tb a = t) && inP a.2 x
/-- the valid periods of table t, in order -/
def per (l : List Acc) (t : List UInt8) : List (Int × Int) := (l.filter fun a => decide (tb a = t)).map (·.2)
def perV (l : List Acc) (t : List UInt8) : List (Int × Int) := (l.filter fun a => decide (tb a = t) && pvB a.2).map (·.2)
/-- canonical: valid, by table, within a table apart -/
def CanT (l : List Acc) : Prop := (∀ a ∈ l, pvB a.2 = true) ∧ l.Pairwise fun a b => tb a < tb b ∨ tb a = tb b ∧ a.2.2 < b.2.1
theorem inT_per (l : List Acc) (t : List UInt8) (x : Int) : inT l t x = inL (per l t) x := by
  rw [Bool.eq_iff_iff]
  simp only [inT, per, inL, List.any_eq_true, Bool.and_eq_true, decide_eq_true_eq]
  constructor
  · rintro ⟨a, ha, h1, h2⟩; exact ⟨a.2, List.mem_map.2 ⟨a, List.mem_filter.2 ⟨ha, by simpa using h1⟩, rfl⟩, h2⟩
  · rintro ⟨p, hp, h2⟩
    obtain ⟨a, ha, rfl⟩ := List.mem_map.1 hp
    rw [List.mem_filter] at ha
    exact ⟨a, ha.1, by simpa using ha.2, h2⟩
theorem inL_perV (l : List Acc) (t : List UInt8) (x : Int) : inL (perV l t) x = inT l t x := by
  rw [Bool.eq_iff_iff]
  simp only [inT, perV, inL, List.any_eq_true, Bool.and_eq_true, decide_eq_true_eq]
  constructor
  · rintro ⟨p, hp, h2⟩
    obtain ⟨a, ha, rfl⟩ := List.mem_map.1 hp
    rw [List.mem_filter] at ha
    exact ⟨a, ha.1, by have := ha.2; simp at this; exact this.1, h2⟩
  · rintro ⟨a, ha, h1, h2⟩
    have hv : pvB a.2 = true := by rw [inP_iff] at h2; rw [pvB_iff]; omega
    exact ⟨a.2, List.mem_map.2 ⟨a, List.mem_filter.2 ⟨ha, by simp [h1, hv]⟩, rfl⟩, h2⟩
theorem lt_irr (t : List UInt8) : ¬ t < t := List.lt_irrefl t
theorem CanT.cons {a : Acc} {l : List Acc} (h : CanT (a :: l)) : CanT l := ⟨fun b hb => h.1 b (by simp [hb]), (List.pairwise_cons.1 h.2).2⟩
theorem CanT.head {a : Acc} {l : List Acc} (h : CanT (a :: l)) : ∀ b ∈ l, tb a < tb b ∨ tb a = tb b ∧ a.2.2 < b.2.1 := (List.pairwise_cons.1 h.2).1
theorem canT_per {l : List Acc} (h : CanT l) (t : List UInt8) : Can (per l t) := by
  refine ⟨fun p hp => ?_, ?_⟩
  · obtain ⟨a, ha, rfl⟩ := List.mem_map.1 hp
    exact h.1 a (List.mem_filter.1 ha).1
  · unfold per
    rw [List.pairwise_map]
    refine (h.2.filter _).imp_of_mem ?_
    intro a b ha hb hab
    rw [List.mem_filter] at ha hb
    have h1 : tb a = t := by simpa using ha.2
    have h2 : tb b = t := by simpa using hb.2
    rcases hab with hlt | ⟨_, h3⟩
    · rw [h1, h2] at hlt; exact absurd hlt (lt_irr t)
    · exact h3
theorem sorted_eq : ∀ {l m : List Acc}, l.Pairwise (fun a b => tb a ≤ tb b) → m.Pairwise (fun a b => tb a ≤ tb b) → (∀ t, l.filter (fun a => decide (tb a = t)) = m.filter fun a => decide (tb a = t)) → l = m
  | [], [], _, _, _ => rfl
  | [], b :: m, _, _, h => by have := h (tb b); simp at this
  | a :: l, [], _, _, h => by have := h (tb a); simp at this
  | a :: l, b :: m, hl, hm, h => by
    have hab : tb a = tb b := by
      have h1 : ¬ tb a < tb b := fun hlt => by
        have hx := h (tb a)
        rw [List.filter_cons, if_pos (by simp)] at hx
        have ha : a ∈ (b :: m).filter fun c => decide (tb c = tb a) := by rw [← hx]; simp
        rw [List.mem_filter] at ha
        rcases List.mem_cons.1 ha.1 with rfl | hm'
        · exact lt_irr _ hlt
        · exact absurd hlt (List.not_lt.2 ((List.pairwise_cons.1 hm).1 a hm'))
      have h2 : ¬ tb b < tb a := fun hlt => by
        have hx := h (tb b)
        rw [List.filter_cons (x := b), if_pos (by simp)] at hx
        have hb : b ∈ (a :: l).filter fun c => decide (tb c = tb b) := by rw [hx]; simp
        rw [List.mem_filter] at hb
        rcases List.mem_cons.1 hb.1 with rfl | hl'
        · exact lt_irr _ hlt
        · exact absurd hlt (List.not_lt.2 ((List.pairwise_cons.1 hl).1 b hl'))
      exact List.le_antisymm (List.not_lt.1 h2) (List.not_lt.1 h1)
    have h0 := h (tb a)
    rw [List.filter_cons, if_pos (by simp), List.filter_cons, if_pos (by simp [hab])] at h0
    obtain ⟨rfl, _⟩ := List.cons.inj h0
    congr 1
    refine sorted_eq (List.pairwise_cons.1 hl).2 (List.pairwise_cons.1 hm).2 fun t => ?_
    have := h t
    rw [List.filter_cons, List.filter_cons] at this
    split at this
    · exact (List.cons.inj this).2
    · exact this
theorem CanT.sorted {l : List Acc} (h : CanT l) : l.Pairwise (fun a b => tb a ≤ tb b) := h.2.imp fun {a b} hab => by
  rcases hab with h1 | ⟨h1, _⟩
  · exact List.le_of_lt h1
  · rw [h1]; exact List.le_refl _
theorem filter_per {l m : List Acc} {t : List UInt8} (h : per l t = per m t) : l.filter (fun a => decide (tb a = t)) = m.filter fun a => decide (tb a = t) := by
  have key : ∀ {l m : List Acc}, (∀ a ∈ l, tb a = t) → (∀ a ∈ m, tb a = t) → l.map (·.2) = m.map (·.2) → l = m := by
    intro l
    induction l with
    | nil => intro m _ _ h; cases m <;> simp_all
    | cons a l ih =>
      intro m hl hm h
      cases m with
      | nil => simp at h
      | cons b m =>
        simp only [List.map_cons, List.cons.injEq] at h
        have hab : a.1 = b.1 := by
          have h1 := hl a (by simp)
          have h2 := hm b (by simp)
          unfold tb at h1 h2
          have : a.1.data = b.1.data := Array.toList_inj.1 (h1.trans h2.symm)
          exact ByteArray.ext this
        rw [Prod.ext hab h.1, ih (fun x hx => hl x (by simp [hx])) (fun x hx => hm x (by simp [hx])) h.2]
  exact key (fun a ha => by simpa using (List.mem_filter.1 ha).2) (fun a ha => by simpa using (List.mem_filter.1 ha).2) h
theorem canT_unique {l m : List Acc} (hl : CanT l) (hm : CanT m) (h : ∀ t x, inT l t x = inT m t x) : l = m := by
  refine sorted_eq hl.sorted hm.sorted fun t => filter_per ?_
  exact can_unique (canT_per hl t) (canT_per hm t) fun x => by rw [← inT_per, ← inT_per, h]
/-- how many -/
theorem nodup_le {α : Type} [DecidableEq α] : ∀ {l m : List α}, l.Nodup → (∀ x ∈ l, x ∈ m) → l.length ≤ m.length
  | [], _, _, _ => by simp
  | a :: l, m, hn, h => by
    have ha : a ∈ m := h a (by simp)
    have := nodup_le (l := l) (m := m.erase a) (List.nodup_cons.1 hn).2 fun x hx => by
      have hxm := h x (by simp [hx])
      have hne : x ≠ a := fun e => (List.nodup_cons.1 hn).1 (e ▸ hx)
      exact (List.mem_erase_of_ne hne).2 hxm
    rw [List.length_erase_of_mem ha] at this
    have := List.length_pos_of_mem ha
    simp; omega
theorem can_starts {r l : List (Int × Int)} (hr : Can r) (h : ∀ x, inL r x = inL l x) : ∀ p ∈ r, ∃ q ∈ l, q.1 = p.1 := by
  intro p hp
  have hv := hr.1 p hp
  have h1 : inL r p.1 = true := inL_iff.2 ⟨p, hp, inP_self hv⟩
  rw [h, inL_iff] at h1
  obtain ⟨q, hq, hqp⟩ := h1
  refine ⟨q, hq, ?_⟩
  rw [inP_iff] at hqp
  rcases (by omega : q.1 = p.1 ∨ q.1 < p.1) with h2 | h2
  · exact h2
  · have h3 : inL l (p.1 - 1) = true := inL_iff.2 ⟨q, hq, by rw [inP_iff]; omega⟩
    rw [← h, inL_iff] at h3
    obtain ⟨s, hs, hsp⟩ := h3
    rw [inP_iff] at hsp
    rw [pvB_iff] at hv
    by_cases hps : s = p
    · subst hps; omega
    · have hd : s.2 < p.1 ∨ p.2 < s.1 := by
        obtain ⟨i, hi, rfl⟩ := List.getElem_of_mem hp
        obtain ⟨j, hj, rfl⟩ := List.getElem_of_mem hs
        have hpw := List.pairwise_iff_getElem.1 hr.2
        rcases Nat.lt_trichotomy i j with hij | rfl | hij
        · exact .inr (hpw i j hi hj hij)
        · exact absurd rfl hps
        · exact .inl (hpw j i hj hi hij)
      omega
theorem can_nodup {r : List (Int × Int)} (hr : Can r) : (r.map (·.1)).Nodup := by
  unfold List.Nodup
  rw [List.pairwise_map]
  refine hr.2.imp_of_mem fun {a b} ha hb hab => ?_
  have := hr.1 a ha
  rw [pvB_iff] at this
  omega
theorem can_le {r l : List (Int × Int)} (hr : Can r) (h : ∀ x, inL r x = inL l x) : r.length ≤ l.length := by
  have := nodup_le (can_nodup hr) (m := l.map (·.1)) fun x hx => by
    obtain ⟨p, hp, rfl⟩ := List.mem_map.1 hx
    obtain ⟨q, hq, hqp⟩ := can_starts hr h p hp
    exact List.mem_map.2 ⟨q, hq, hqp⟩
  simpa using this
theorem ofF_le (l : List (Int × Int)) : (ofF l).length ≤ l.length := can_le (ofF_can l) (ofF_in l)
theorem canT_le {r l : List Acc} (hr : CanT r) (h : ∀ t x, inT r t x = inT l t x) : r.length ≤ l.length := by
  have hn : (r.map fun a => (tb a, a.2.1)).Nodup := by
    unfold List.Nodup
    rw [List.pairwise_map]
    refine hr.2.imp_of_mem fun {a b} ha hb hab => ?_
    intro he
    simp only [Prod.mk.injEq] at he
    rcases hab with h1 | ⟨_, h2⟩
    · rw [he.1] at h1; exact lt_irr _ h1
    · have := hr.1 a ha
      rw [pvB_iff] at this
      omega
  have := nodup_le hn (m := l.map fun a => (tb a, a.2.1)) fun x hx => by
    obtain ⟨a, ha, rfl⟩ := List.mem_map.1 hx
    obtain ⟨q, hq, hqp⟩ := can_starts (canT_per hr (tb a)) (l := per l (tb a)) (fun x => by rw [← inT_per, ← inT_per, h]) a.2 (List.mem_map.2 ⟨a, List.mem_filter.2 ⟨ha, by simp⟩, rfl⟩)
    obtain ⟨b, hb, rfl⟩ := List.mem_map.1 hq
    rw [List.mem_filter] at hb
    exact List.mem_map.2 ⟨b, hb.1, by rw [hqp]; simp at hb; rw [hb.2]⟩
  simpa using this
/-- the list that stands for a set of instants per table, the tables ks ascending -/
def regL (F : List UInt8 → List (Int × Int)) (ks : List (List UInt8)) : List Acc := ks.flatMap fun t => (F t).map fun p => (⟨t.toArray⟩, p)
theorem tb_mk (t : List UInt8) (p : Int × Int) : tb ((⟨t.toArray⟩ : ByteArray), p) = t := by simp [tb]
theorem regL_can {F : List UInt8 → List (Int × Int)} {ks : List (List UInt8)} (hF : ∀ t ∈ ks, Can (F t)) (hk : ks.Pairwise (· < ·)) : CanT (regL F ks) := by
  induction ks with
  | nil => exact ⟨by simp [regL], List.Pairwise.nil⟩
  | cons t ks ih =>
    have ih := ih (fun t ht => hF t (by simp [ht])) (List.pairwise_cons.1 hk).2
    have ht := hF t (by simp)
    refine ⟨fun a ha => ?_, ?_⟩
    · rw [regL, List.flatMap_cons, List.mem_append] at ha
      rcases ha with ha | ha
      · obtain ⟨p, hp, rfl⟩ := List.mem_map.1 ha
        exact ht.1 p hp
      · exact ih.1 a ha
    · rw [regL, List.flatMap_cons, List.pairwise_append]
      refine ⟨?_, ih.2, ?_⟩
      · rw [List.pairwise_map]
        exact ht.2.imp fun {a b} hab => .inr ⟨by rw [tb_mk, tb_mk], hab⟩
      · intro a ha b hb
        obtain ⟨p, hp, rfl⟩ := List.mem_map.1 ha
        obtain ⟨s, hs, hb⟩ := List.mem_flatMap.1 hb
        obtain ⟨p', hp', rfl⟩ := List.mem_map.1 hb
        rw [tb_mk, tb_mk]
        exact .inl ((List.pairwise_cons.1 hk).1 s hs)
theorem regL_in {F : List UInt8 → List (Int × Int)} {ks : List (List UInt8)} (hm : ∀ t, t ∈ ks ↔ F t ≠ []) (t : List UInt8) (x : Int) : inT (regL F ks) t x = inL (F t) x := by
  rw [Bool.eq_iff_iff]
  simp only [inT, inL, List.any_eq_true, Bool.and_eq_true, decide_eq_true_eq]
  constructor
  · rintro ⟨a, ha, h1, h2⟩
    obtain ⟨s, hs, ha⟩ := List.mem_flatMap.1 ha
    obtain ⟨p, hp, rfl⟩ := List.mem_map.1 ha
    rw [tb_mk] at h1
    subst h1
    exact ⟨p, hp, h2⟩
  · rintro ⟨p, hp, h2⟩
    exact ⟨(⟨t.toArray⟩, p), List.mem_flatMap.2 ⟨t, (hm t).2 (List.ne_nil_of_mem hp), List.mem_map.2 ⟨p, hp, rfl⟩⟩, tb_mk _ _, h2⟩
theorem perV_snoc (l : List Acc) (a : Acc) (t : List UInt8) : perV (l ++ [a]) t = perV l t ++ if tb a = t ∧ pvB a.2 = true then [a.2] else [] := by
  unfold perV
  rw [List.filter_append, List.map_append]
  congr 1
  by_cases h : tb a = t <;> cases hv : pvB a.2 <;> simp [h, hv]
theorem perV_length (l : List Acc) (t : List UInt8) : (perV l t).length ≤ l.length := by
  unfold perV; rw [List.length_map]; exact List.length_filter_le _ _
end Go.Proofs.YtpifjhoelnacgaaGreat
