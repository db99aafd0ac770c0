/- Packed trees: the sorts of the library on rows that the call owns; Search, Visits, Stab. -/
import Derived.Test.YtahmkinppighkaaSrt
import Derived.Test.YtahmkinppighkaaTrG
set_option linter.unusedSimpArgs false
set_option linter.unusedVariables false
namespace Go.Proofs.Ytahmkinppighkaa
open Go.RowKit Go.Shelf Go.Sort

attribute [local go_sem] Oper.semAt_some


theorem own_sorted2 {w : World} {base e size g cap n : Nat} {xs : List Value} (h : w.ownsRow base e size (.slice (some ⟨g, 0, none⟩) n cap) n xs) (F : Array Value) (hF : F.size = n * size) (m : Nat) (os : Array Obj) :
    (grow (putRow id (Go.Sort.ahead w m) g 0 F) os).ownsRow base e size (.slice (some ⟨g, 0, none⟩) n cap) n F.toList ∧ w.grownBy (grow (putRow id (Go.Sort.ahead w m) g 0 F) os) (some g) := by
  have hlt := h.lt g rfl
  have h2 : (putRow id (Go.Sort.ahead w m) g 0 F).ownsRow base e size (.slice (some ⟨g, 0, none⟩) n cap) n F.toList := own_putRow (w := Go.Sort.ahead w m) h F hF
  refine ⟨⟨h2.1, ?_⟩, rfl, rfl, rfl, ?_, fun k hk hne => ?_⟩
  · rcases h2.2 with h3 | ⟨g', cap', cur, hv, hb, hg, r⟩
    · exact .inl h3
    · refine .inr ⟨g', cap', cur, hv, hb, ?_, r⟩
      show ((putRow id (Go.Sort.ahead w m) g 0 F).heap ++ os)[g']? = _
      rw [Array.getElem?_append_left (Array.getElem?_eq_some_iff.1 hg).1]
      exact hg
  · simp [putRow, mapBlock, Go.Sort.ahead]
  · have h1 : (grow (putRow id (Go.Sort.ahead w m) g 0 F) os).heap[k]? = (putRow id (Go.Sort.ahead w m) g 0 F).heap[k]? := by
      show ((putRow id (Go.Sort.ahead w m) g 0 F).heap ++ os)[k]? = _
      rw [Array.getElem?_append_left]
      simp [putRow, mapBlock, Go.Sort.ahead]; omega
    rw [h1]
    simp only [putRow, mapBlock, Go.Sort.ahead, Array.getElem?_modify]
    rw [if_neg (fun e => hne (by rw [e]))]
/-- slices.Sort on an owned row of ints -/
theorem sortI2 (W : World) (base : Nat) (A : Option Addr) (cap : Nat) (zs : List Int) (ho : W.ownsRow base 3 1 (.slice A zs.length cap) zs.length (ic zs)) (hl : zs.length < 4611686018427387904) :
    Calls Try.prog 45 #[.slice A zs.length cap] W fun e w' => e = .returned (.tuple #[]) ∧ w'.ownsRow base 3 1 (.slice A zs.length cap) zs.length (ic (zs.mergeSort fun x y => decide (x ≤ y))) ∧ W.grownBy w' (Value.slice A zs.length cap).ownBlock := by
  rcases Nat.eq_zero_or_pos zs.length with h0 | h0
  · obtain rfl : zs = [] := List.eq_nil_of_length_eq_zero h0
    have h := Any.slices_Sort_int_none Try.lays189 A cap W
    change Calls Try.prog 45 _ _ _ at h
    refine h.mono ?_
    rintro e w' ⟨rfl, rfl⟩
    exact ⟨rfl, by simpa using ho, World.grownBy.refl _ _⟩
  · obtain ⟨A', c', hv, _⟩ := row_form ho
    rcases ho.2 with ⟨hv, hn⟩ | ⟨g, cap', cur, hv, hb, hg, _⟩
    · omega
    · simp only [Value.slice.injEq, true_and] at hv
      obtain ⟨rfl, rfl⟩ := hv
      have h := Any.slices_Sort_int Try.lays189 g 0 cap zs W (holds_ints (holds_own ho _ (by simp))) (ho.lt g rfl).2 hl
      change Calls Try.prog 45 _ _ _ at h
      refine h.mono ?_
      rintro e w' ⟨rfl, m, os, rfl⟩
      refine ⟨rfl, ?_⟩
      rw [putRow_id]
      have hlen : (zs.mergeSort fun x y => decide (x ≤ y)).length = zs.length := List.length_mergeSort _
      have := own_sorted2 ho ((zs.mergeSort fun x y => decide (x ≤ y)).toArray.map (Value.int .i64)) (by simp [hlen]) m os
      exact ⟨by simpa [ic] using this.1, this.2⟩
instance : Inhabited Bxs := ⟨((0, 0), (0, 0)), 0⟩
/-- slices.SortFunc on an owned row of boxes -/
theorem sortX (W : World) (x : Add) (A : Option Addr) (cap : Nat) (L0 : List Bxs) (ho : Own W x 52 5 (.slice A L0.length cap) L0.length (bxl L0)) (hl : L0.length < 4611686018427387904) :
    Calls Try.prog 40 #[.slice A L0.length cap, .func (.func 41) #[] #[]] (ext W x) fun e w' => e = .returned (.tuple #[]) ∧ ∃ x' L, w' = ext W x' ∧ L.Perm L0 ∧ L.Pairwise (fun a b => ltB b a = false) ∧ Own W x' 52 5 (.slice A L0.length cap) L0.length (bxl L) := by
  rcases Nat.eq_zero_or_pos L0.length with h0 | h0
  · obtain rfl : L0 = [] := List.eq_nil_of_length_eq_zero h0
    have h := AnyF.slices_SortFunc_none Try.laysSE A cap (.func (.func 41) #[] #[]) (ext W x)
    change Calls Try.prog 40 _ _ _ at h
    refine h.mono ?_
    rintro e w' ⟨rfl, rfl⟩
    exact ⟨rfl, x, [], rfl, List.Perm.refl _, List.Pairwise.nil, ho⟩
  · obtain ⟨g, rfl, _⟩ := Own.at ho h0
    have hF := flatK_toList encX 5 (fun _ => rfl) L0.toArray
    have hH : HoldsK encX 5 (ext W x) g 0 L0.toArray := holds_own ho _ (by rw [hF]; rfl)
    have eg : ∀ args w, (callFunc 41 args).run Try.prog w = .ok (.enter 41 args) w := enters_of Try.func41 (by kernel_rfl) rfl
    have h := AnyQ.slices_SortFunc Try.laysSE 5 Try.isAgg52 Try.sizeOf52 encX (fun _ => rfl) (fun e v hv => by simp [encX] at hv; rcases hv with rfl | rfl | rfl | rfl | rfl <;> rfl) cfX swoX 41 #[] g 0 cap L0.toArray (ext W x) eg (cmpX_lays g 0 L0.toArray.size (ext W x)) hH (ho.lt g rfl).2 (by simpa using hl)
    change Calls Try.prog 40 _ _ _ at h
    refine h.mono ?_
    rintro e w' ⟨rfl, d', m, os, hp, hs, rfl⟩
    refine ⟨rfl, ?_⟩
    have hsz : d'.size = L0.toArray.size := hp.1
    obtain ⟨x', hx', ho'⟩ := own_sorted ho (flatK encX 5 d') (by rw [size_flatK, hsz]; simp) m os
    refine ⟨x', d'.toList, hx', ?_, ?_, ?_⟩
    · have h1 := hp.2.2
      rw [Array.extract_eq_self_of_le (by omega), Array.extract_eq_self_of_le (Nat.le_refl _)] at h1
      simpa using h1
    · rw [List.pairwise_iff_getElem]
      intro i j hi hj hij
      have := hs i j (Nat.zero_le _) hij (by rw [← hsz]; simpa using hj)
      have hi' : i < d'.size := by simpa using hi
      have hj' : j < d'.size := by simpa using hj
      rw [getElem!_pos d' i hi', getElem!_pos d' j hj', ltOf, cfX_neg] at this
      simpa using this
    · rw [flatK_toList encX 5 (fun _ => rfl) d'] at ho'
      exact ho'
theorem cloneX (b o n c : Nat) (L : List Bxs) (w : World) (hL : n = L.length) (hR : Rd w 5 (some ⟨b, o, none⟩) n (bxl L)) (hn : n ≤ 1048576) (h0 : 0 < n) :
    Calls Try.prog 39 #[.slice (some ⟨b, o, none⟩) n c] w fun e w' => ∃ v x, e = .returned v ∧ w' = ext w x ∧ Own w x 52 5 v n (bxl L) := by
  obtain ⟨i0, hi, hz0, hz1, hz2⟩ := (elBox : El Try.prog 39 52 (.agg #[.int .i64 0, .int .i64 0, .int .i64 0, .int .i64 0, .int .i64 0]) 5 40).hi
  have h := AnyE.slices_Clone Try.laysClone i0 (.agg #[.int .i64 0, .int .i64 0, .int .i64 0, .int .i64 0, .int .i64 0]) 5 40 hi hz0 hz1 hz2 rfl (by decide) Try.sizeOf52 b o n c (bxl L) w hR.1 (by unfold maxLen; omega) (by omega) (fun j u hu => by
    obtain ⟨b', o', hA, _, hc⟩ := hR.2 (by omega)
    simp only [Option.some.injEq, Addr.mk.injEq, and_true] at hA
    obtain ⟨rfl, rfl⟩ := hA
    exact hc j u hu) (oneCell_bxl L)
  change Calls Try.prog 39 _ _ _ at h
  refine h.mono ?_
  rintro e w' ⟨v, rfl, ho, _, hb⟩
  obtain ⟨x, rfl⟩ := Ext.get hb
  exact ⟨v, x, rfl, rfl, ho⟩

end Go.Proofs.Ytahmkinppighkaa
