/- Packed trees: the small functions of the law, and the plain laws that join both sides. -/
import Derived.Test.YtahmkinppighkaaTrS
import Derived.Test.YtahmkinppighkaaTrR
set_option linter.unusedSimpArgs false
set_option linter.unusedVariables false
namespace Go.Proofs.Ytahmkinppighkaa
open Go.RowKit


/-! plain laws -/
theorem topF_depth (w : Nat) (hw : 2 ≤ w) : ∀ (f : Nat) (l : List Tr) (d : Nat), (topF w f l d).2 ≤ d + l.length
  | 0, l, d => by rw [topF]; simp
  | f + 1, l, d => by
    rw [topF]
    split
    · rename_i h
      have := topF_depth w hw f (aboveF w l) (d + 1)
      have := nch_lt hw (n := l.length) h
      rw [aboveF_length] at *
      omega
    · simp
theorem err_zero {wd : Int} {L : List Bxs} (h : errF wd L = 0) : 2 ≤ wd.toNat ∧ (∀ x ∈ L, rvB x.1 = true) ∧ (L.map (·.2)).Nodup ∧ L.length ≤ 4096 := by
  unfold errF at h
  split at h
  · cases h
  · split at h
    · cases h
    · obtain ⟨a, _, b⟩ := chk_ok h
      exact ⟨by omega, a, b, by omega⟩
theorem root_good {wd : Int} {L : List Bxs} (h : errF wd L = 0) (hL : L ≠ []) : ∃ t d, rootF wd.toNat L = (some t, d) ∧ Good d t ∧ t.all = ordF L ∧ d ≤ 1 + L.length := by
  obtain ⟨hw, hv, hn, _⟩ := err_zero h
  have hp := ordF_perm L
  obtain ⟨t, d, h1, h2, h3⟩ := buildF_good hw (l := ordF L) (by intro h0; rw [h0] at hp; exact hL (List.perm_nil.1 hp.symm)) (fun x hx => hv x (hp.mem_iff.1 hx))
  refine ⟨t, d, by rw [rootF_eq, if_neg hL, h1]; rfl, h2, h3, ?_⟩
  have hd := topF_depth wd.toNat hw (ordF L).length (leavesF wd.toNat (ordF L)) 1
  have : (buildF wd.toNat (ordF L)).2 = d := by rw [h1]
  unfold buildF at this
  rw [this, leavesF_length, hp.length_eq] at hd
  have h4 : nch wd.toNat L.length ≤ L.length := by
    rcases Nat.lt_or_ge L.length (nch wd.toNat L.length) with h' | h'
    · have := (lt_nch (w := wd.toNat) (n := L.length) (j := L.length) (by omega)).1 h'
      have h2 : L.length * 1 ≤ L.length * wd.toNat := Nat.mul_le_mul_left _ (by omega)
      omega
    · exact h'
  omega
theorem Good.ne {d : Nat} {t : Tr} (h : Good d t) : 1 ≤ t.all.length := by
  obtain ⟨_, ⟨b, ⟨x, hx, _⟩, _⟩, _⟩ := h.hull
  exact List.length_pos_of_mem hx
theorem Good.count {d : Nat} {t : Tr} (h : Good d t) (q : Rct) : (exam q t).length ≤ d * t.all.length := by
  induction h with
  | lf r bs h hv =>
    have := (Good.lf r bs h hv).ne
    simp [exam] at this ⊢; exact this
  | nd d r ks h hk ih =>
    have hne := (Good.nd d r ks h hk).ne
    rw [exam, List.length_cons, Tr.all] at *
    have : ∀ l : List Tr, (∀ k ∈ l, (exam q k).length ≤ d * k.all.length) → (examS q l).length ≤ d * (allS l).length := by
      intro l
      induction l with
      | nil => intro _; simp [examS]
      | cons k l ihl =>
        intro hl
        have h1 := hl k (by simp)
        have h2 := ihl fun k hk => hl k (by simp [hk])
        rw [examS, allS, List.length_append, List.length_append, Nat.mul_add]
        split <;> simp <;> omega
    have := this ks ih
    rw [Nat.add_mul]; omega

/-- what both trees stand for -/
def rtE (wd : Int) (L : List Bxs) : Option Tr := if errF wd L = 0 then (rootF wd.toNat L).1 else none
def rdE (wd : Int) (L : List Bxs) : Nat := if errF wd L = 0 then (rootF wd.toNat L).2 else 0
def loE (wd : Int) (L : List Bxs) : List Bxs := if errF wd L = 0 then ordF L else []
theorem rt_cases (wd : Int) (L : List Bxs) : (rtE wd L = none ∧ loE wd L = [] ∧ rdE wd L = 0) ∨ ∃ t d, rtE wd L = some t ∧ rdE wd L = d ∧ Good d t ∧ t.all = loE wd L ∧ d ≤ 1 + L.length ∧ (loE wd L).length = L.length ∧ ((loE wd L).map (·.2)).Nodup := by
  unfold rtE rdE loE
  by_cases he : errF wd L = 0
  · simp only [if_pos he]
    by_cases hL : L = []
    · subst hL
      exact .inl ⟨by rw [rootF_eq, if_pos rfl], by rfl, by rw [rootF_eq, if_pos rfl]⟩
    · obtain ⟨t, d, h1, h2, h3, h4⟩ := root_good he hL
      have hp := ordF_perm L
      exact .inr ⟨t, d, by rw [h1], by rw [h1], h2, h3, h4, hp.length_eq, ((hp.map _).nodup_iff).2 (err_zero he).2.2.1⟩
  · simp only [if_neg he]
    exact .inl ⟨by first | rfl | trivial, by first | rfl | trivial, by first | rfl | trivial⟩
theorem ex_bound (wd : Int) (L : List Bxs) (hL : L.length ≤ 200) (q : Rct) : (exQ q (rtE wd L)).length ≤ 1048576 ∧ ((exQ q (rtE wd L)).flatMap (own q)).length ≤ 1048576 := by
  rcases rt_cases wd L with ⟨h, _⟩ | ⟨t, d, h, _, hg, ha, hd, hl, _⟩
  · rw [h]; simp [exQ]
  · rw [h]
    simp only [exQ]
    split
    · have h1 := hg.count q
      have h2 : d * t.all.length ≤ 201 * 200 := Nat.mul_le_mul (by omega) (by rw [ha]; omega)
      have h3 := congrArg List.length (hg.find q)
      rw [List.length_map] at h3
      have h4 := List.length_filter_le (fun b : Bxs => ovlB b.1 q) t.all
      unfold findT at h3
      rw [ha] at h4 h3
      omega
    · simp
theorem sorted_ms (l : List Int) : (l.mergeSort fun x y => decide (x ≤ y)).Pairwise (· ≤ ·) := by
  have := List.pairwise_mergeSort (le := fun x y : Int => decide (x ≤ y)) (fun a b c h1 h2 => by simp at *; omega) (fun a b => by simp; omega) l
  exact this.imp fun h => by simpa using h
/-- searches agree -/
theorem se_eq (wd : Int) (L : List Bxs) (q : Rct) : ((exQ q (rtE wd L)).flatMap (own q)).mergeSort (fun x y => decide (x ≤ y)) = rsF (loE wd L) q := by
  rcases rt_cases wd L with ⟨h, h2, _⟩ | ⟨t, d, h, _, hg, ha, hd, hl, hn⟩
  · rw [h, h2]; simp [exQ, rsF, putsF]
  · rw [h]
    simp only [exQ]
    split
    · have h3 := hg.find q
      unfold findT at h3
      rw [h3, ha]
      refine sort_puts (List.mergeSort_perm _ _) (sorted_ms _) ?_
      exact (List.filter_sublist.map _).nodup hn
    · rename_i hq
      unfold rsF
      rw [find_none (by simpa using hq)]
      simp [putsF]
theorem st_ct (wd : Int) (L : List Bxs) (x y : Int) (b : Bxs) (hb : b ∈ loE wd L) : (stB x y = true → ovlB b.1 (stQ x y) = ctB b x y) ∧ (stB x y = false → ctB b x y = false) := by
  have hv : rvB b.1 = true := by
    rcases rt_cases wd L with ⟨_, h2, _⟩ | ⟨t, d, _, _, hg, ha, _⟩
    · rw [h2] at hb; simp at hb
    · exact hg.val b (by rw [ha]; exact hb)
  rw [rvX_iff] at hv
  constructor
  · intro h
    simp [stB] at h
    rw [Bool.eq_iff_iff, ovlB_iff, rvX_iff, rvX_iff]
    simp [stQ, ctB]
    omega
  · intro h
    simp [stB] at h
    simp [ctB]
    omega
theorem st_eq (wd : Int) (L : List Bxs) (x y : Int) : stF (rtE wd L) x y = rtF (loE wd L) x y := by
  unfold stF
  rcases hs : stB x y with _ | _
  · rw [if_neg (by simp)]
    unfold rtF
    rw [filter_nil fun b hb => (st_ct wd L x y b hb).2 hs]
    simp [putsF]
  · rw [if_pos rfl, se_eq]
    unfold rsF rtF
    rw [List.filter_congr fun b hb => (st_ct wd L x y b hb).1 hs]
theorem bd_eq (wd : Int) (L : List Bxs) : bdF (rtE wd L) = rbF (loE wd L) := by
  rcases rt_cases wd L with ⟨h, h2, _⟩ | ⟨t, d, h, _, hg, ha, _⟩
  · rw [h, h2]; rfl
  · rw [h]
    have hne := hg.ne
    rw [ha] at hne
    have hh := hg.hull
    rw [ha] at hh
    generalize loE wd L = Lo at hne hh
    cases Lo with
    | nil => simp at hne
    | cons b l =>
      simp only [bdF, rbF]
      congr 1
      refine hh.unique (hull_fold (fun x : Bxs => x.1) (fun x a => x.1 = a) (b :: l) b.1 (fun a => a = b.1) (IsHull.one _ fun _ => Iff.rfl) (fun x _ => IsHull.one _ fun _ => eq_comm)) fun a => ?_
      constructor
      · rintro ⟨x, hx, rfl⟩; exact .inr ⟨x, hx, rfl⟩
      · rintro (rfl | ⟨x, hx, rfl⟩)
        · exact ⟨b, by simp, rfl⟩
        · exact ⟨x, hx, rfl⟩
theorem lo_len (wd : Int) (L : List Bxs) : (loE wd L).length = if errF wd L = 0 then L.length else 0 := by
  unfold loE; split
  · exact (ordF_perm L).length_eq
  · rfl


/-- Build of the program, every case in one form -/
theorem buildU (A : Option Addr) (n c : Nat) (wd : Int) (L : List Bxs) (w : World) (hL : n = L.length) (hR : Rd w 5 A n (bxl L)) (hn : n ≤ 1048576) (hc : n ≤ c) (hwf : ∀ b ∈ L, (Lit.int .i64 b.2).wf = true) :
    Calls Try.prog 17 #[.slice A n c, .int .i64 wd] w fun e w' => ∃ a, e = .returned (.tuple #[.pointer a, .int .i64 (errF wd L)]) ∧ Ext w w' ∧ TreeH w' a (rtE wd L) ((loE wd L).length : Nat) (rdE wd L : Nat) ∧ (errF wd L = 0 → a ≠ none) ∧ (errF wd L ≠ 0 → a = none) := by
  refine (build_any A n c wd L w hL hR hn hc hwf).mono ?_
  rintro e w' ⟨hE, ⟨h1, rfl⟩ | ⟨h1, b, rfl, hT⟩⟩
  · refine ⟨none, rfl, hE, ?_, fun h => absurd h h1, fun _ => rfl⟩
    unfold rtE rdE loE
    rw [if_neg h1, if_neg h1, if_neg h1]
    exact .inl ⟨rfl, rfl, rfl, rfl⟩
  · refine ⟨some ⟨b, 0, none⟩, by rw [h1], hE, ?_, fun _ h => (by cases h), fun h => absurd h1 h⟩
    rw [lo_len]
    unfold rtE rdE
    rw [if_pos h1, if_pos h1, if_pos h1]
    exact hT
theorem searchU (wd : Int) (L : List Bxs) (hL : L.length ≤ 200) (q : Rct) (a : Option Addr) (n d : Int) (w : World) (hT : TreeH w a (rtE wd L) n d) :
    Calls Try.prog 20 #[.pointer a, rx q] w (RdP 1 (rsF (loE wd L) q).length (ic (rsF (loE wd L) q)) w) := by
  have h := search_any q (rtE wd L) a n d w hT (ex_bound wd L hL q).2 (ex_bound wd L hL q).1
  have hl : ((exQ q (rtE wd L)).flatMap (own q)).length = (rsF (loE wd L) q).length := by rw [← se_eq, List.length_mergeSort]
  rw [hl, se_eq] at h
  exact h
theorem putsF_length (l : List Int) : (putsF l).length ≤ l.length := by
  have : ∀ (l acc : List Int), (l.foldl putF acc).length ≤ acc.length + l.length := by
    intro l
    induction l with
    | nil => intro acc; simp
    | cons x l ih => intro acc; have := ih (putF acc x); have := putF_length acc x; simp; omega
  have := this l []
  simpa [putsF] using this
theorem lo_le (wd : Int) (L : List Bxs) : (loE wd L).length ≤ L.length := by rw [lo_len]; split <;> omega
theorem rsF_length (Lo : List Bxs) (q : Rct) : (rsF Lo q).length ≤ Lo.length := by
  refine Nat.le_trans (putsF_length _) ?_
  rw [List.length_map]; exact List.length_filter_le _ _
theorem rtF_length (Lo : List Bxs) (x y : Int) : (rtF Lo x y).length ≤ Lo.length := by
  refine Nat.le_trans (putsF_length _) ?_
  rw [List.length_map]; exact List.length_filter_le _ _

end Go.Proofs.Ytahmkinppighkaa
