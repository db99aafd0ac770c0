/- Lemmas for the rows: Srt. -/
import Derived.Test.YtdiaecgpjgdkdaaGreatThS08
import Derived.Test.YtdiaecgpjgdkdaaGreatThS36
set_option linter.unusedSimpArgs false
set_option linter.unusedVariables false
namespace Go.Proofs.YtdiaecgpjgdkdaaGreat
open Go.RowKit Go.Sort

theorem own_putRow {w : World} {base e size g cap n : Nat} {xs : List Value} (h : w.ownsRow base e size (.slice (some ⟨g, 0, none⟩) n cap) n xs) (F : Array Value) (hF : F.size = n * size) :
  (putRow id w g 0 F).ownsRow base e size (.slice (some ⟨g, 0, none⟩) n cap) n F.toList := by
 refine ⟨by simpa using hF, .inr ?_⟩
 rcases h.2 with ⟨h', _⟩ | ⟨g', cap', cur, h', hb, hg, hnc, hcm, hcs, _⟩
 ·
  simp at h'
 ·
  simp only [Value.slice.injEq, Option.some.injEq, Addr.mk.injEq, and_true, true_and] at h'
  obtain ⟨rfl, rfl⟩ := h'
  refine ⟨g, cap, putCells id 0 F cur, rfl, hb, ?_, hnc, hcm, by simp [putCells, hcs], ?_⟩
  ·
   simp [putRow, mapBlock, Array.getElem?_modify, hg, onCells]
  ·
   have hle : n * size ≤ cur.size := by rw [hcs]; exact Nat.mul_le_mul_right _ hnc
   apply List.ext_getElem?
   intro i
   rw [List.getElem?_take]
   by_cases hi : i < n * size
   ·
    rw [if_pos hi, Array.getElem?_toList, Array.getElem?_toList, Array.getElem?_eq_getElem (xs := F) (by omega)]
    simp only [putCells, Array.getElem?_mapIdx]
    rw [Array.getElem?_eq_getElem (xs := cur) (by omega), Option.map_some, if_pos ⟨by omega, by omega⟩, Nat.sub_zero, getElem!_pos F i (by omega)]
    rfl
   ·
    rw [if_neg hi, Array.getElem?_toList, Array.getElem?_eq_none (by omega)]

theorem own_sorted {w : World} {x : Add} {e size g cap n : Nat} {xs : List Value} (h : Own w x e size (.slice (some ⟨g, 0, none⟩) n cap) n xs) (F : Array Value) (hF : F.size = n * size) (m : Nat) (os : Array Obj) :
  ∃ x', grow (putRow id (Go.Sort.ahead (ext w x) m) g 0 F) os = ext w x' ∧ Own w x' e size (.slice (some ⟨g, 0, none⟩) n cap) n F.toList := by
 have hlt := h.lt g rfl
 have hB : Ext w (grow (putRow id (Go.Sort.ahead (ext w x) m) g 0 F) os) := by
  refine ⟨rfl, rfl, rfl, ?_, fun k hk => ?_⟩
  ·
   simp [putRow, mapBlock, Go.Sort.ahead]; omega
  ·
   have h1 : (grow (putRow id (Go.Sort.ahead (ext w x) m) g 0 F) os).heap[k]? = (putRow id (Go.Sort.ahead (ext w x) m) g 0 F).heap[k]? := by
    show ((putRow id (Go.Sort.ahead (ext w x) m) g 0 F).heap ++ os)[k]? = _
    rw [Array.getElem?_append_left]
    simp [putRow, mapBlock, Go.Sort.ahead]; omega
   rw [h1]
   simp only [putRow, mapBlock, Go.Sort.ahead, Array.getElem?_modify]
   rw [if_neg (by omega), block_ext w x k hk]
 obtain ⟨x', hx'⟩ := Ext.get hB
 refine ⟨x', hx', ?_⟩
 have h2 : (putRow id (Go.Sort.ahead (ext w x) m) g 0 F).ownsRow w.heap.size e size (.slice (some ⟨g, 0, none⟩) n cap) n F.toList := own_putRow (w := Go.Sort.ahead (ext w x) m) h F hF
 unfold Own
 rw [← hx']
 refine ⟨h2.1, ?_⟩
 rcases h2.2 with h3 | ⟨g', cap', cur, hv, hb, hg, r⟩
 ·
  exact .inl h3
 ·
  refine .inr ⟨g', cap', cur, hv, hb, ?_, r⟩
  show ((putRow id (Go.Sort.ahead (ext w x) m) g 0 F).heap ++ os)[g']? = _
  rw [Array.getElem?_append_left (Array.getElem?_eq_some_iff.1 hg).1]
  exact hg

theorem holds_own {w : World} {base e size g cap n : Nat} {xs : List Value} (h : w.ownsRow base e size (.slice (some ⟨g, 0, none⟩) n cap) n xs) (F : Array Value) (hF : F.toList = xs) : Holds id w g 0 F := by
 intro j hj
 have hl : F.size = n * size := by have := h.1; rw [← hF] at this; simpa using this
 refine ⟨?_, by rw [Nat.zero_add]; exact h.frozenAt j⟩
 rw [Nat.zero_add, h.cellAt j (by omega), ← hF, Array.getElem?_toList, Array.getElem?_eq_getElem hj, getElem!_pos F j hj]
 rfl

theorem flatMap_get {α : Type} (enc : α → List Value) (k : Nat) (hk : ∀ x, (enc x).length = k) : ∀ (l : List α) (i j : Nat) (hi : i < l.length), j < k → (l.flatMap enc)[i * k + j]? = (enc l[i])[j]?
 | [], i, j, hi, _ => by simp at hi
 | a :: l, 0, j, _, hj => by
  rw [List.flatMap_cons, Nat.zero_mul, Nat.zero_add, List.getElem?_append_left (by rw [hk]; exact hj)]; rfl
 | a :: l, i + 1, j, hi, hj => by
  have := flatMap_get enc k hk l i j (by simpa using hi) hj
  rw [List.flatMap_cons, List.getElem?_append_right (by rw [hk, Nat.add_mul]; omega), hk, List.getElem_cons_succ, ← this]
  congr 1
  rw [Nat.add_mul]; omega
theorem flatMap_len {α : Type} (enc : α → List Value) (k : Nat) (hk : ∀ x, (enc x).length = k) : ∀ (l : List α), (l.flatMap enc).length = l.length * k
 | [] => by simp
 | a :: l => by rw [List.flatMap_cons, List.length_append, hk, flatMap_len enc k hk l, List.length_cons, Nat.add_mul]; omega
theorem flatK_toList {α : Type} [Inhabited α] (enc : α → List Value) (k : Nat) (hk : ∀ x, (enc x).length = k) (d : Array α) : (flatK enc k d).toList = d.toList.flatMap enc := by
 apply List.ext_getElem?
 intro t
 by_cases ht : t < d.size * k
 ·
  have hk0 : 0 < k := by
   rcases Nat.eq_zero_or_pos k with h | h
   ·
    subst h; simp at ht
   ·
    exact h
  have hq : t / k < d.size := Nat.div_lt_of_lt_mul (by rw [Nat.mul_comm]; exact ht)
  have e : t = t / k * k + t % k := by rw [Nat.mul_comm]; exact (Nat.div_add_mod t k).symm
  have h1 := flatMap_get enc k hk d.toList (t / k) (t % k) (by simpa using hq) (Nat.mod_lt _ hk0)
  rw [← e] at h1
  have h2 := get_flatK enc k d t ht
  rw [getElem!_pos (flatK enc k d) t (by simpa using ht), getElem!_pos d _ hq] at h2
  rw [h1, Array.getElem?_toList, Array.getElem?_eq_getElem (by simpa using ht), h2]
  have hm : t % k < (enc d[t / k]).length := by rw [hk]; exact Nat.mod_lt _ hk0
  rw [getElem!_pos (enc d[t / k]) _ hm]
  simp [hm]
 ·
  rw [List.getElem?_eq_none (by simp; omega), List.getElem?_eq_none (by rw [flatMap_len enc k hk]; simp; omega)]

def tc (l : List (Int × Int × Int)) : List Value := l.flatMap fun e => [.int .i64 e.1, .int .i64 e.2.1, .int .i64 e.2.2]
theorem putRow_id (enc : Int → Value) (w : World) (blk off : Nat) (d : Array Int) : putRow enc w blk off d = putRow id w blk off (d.map enc) := by
 unfold putRow
 refine mapBlock_congr _ _ _ _ fun c _ _ _ => ?_
 apply Array.ext_getElem?
 intro k
 simp only [putCells, Array.getElem?_mapIdx, Array.size_map]
 cases c[k]? with
 | none => rfl
 | some y =>
  simp only [Option.map_some]
  by_cases hr : off ≤ k ∧ k < off + d.size
  ·
   rw [if_pos hr, if_pos hr, getElem!_pos d _ (by omega), getElem!_pos (d.map enc) _ (by simp; omega)]; simp
  ·
   rw [if_neg hr, if_neg hr]
theorem holds_ints {w : World} {blk : Nat} {zs : List Int} (h : Holds id w blk 0 (ic zs).toArray) : Holds (Value.int .i64) w blk 0 zs.toArray := by
 intro j hj
 have hj' : j < zs.length := by simpa using hj
 have := h j (by simpa [ic] using hj')
 rw [getElem!_pos (ic zs).toArray j (by simpa [ic] using hj')] at this
 rw [getElem!_pos zs.toArray j hj]
 simpa [ic] using this
theorem sortI (W : World) (x : Add) (A : Option Addr) (cap : Nat) (zs : List Int) (ho : Own W x 3 1 (.slice A zs.length cap) zs.length (ic zs)) (hl : zs.length < 4611686018427387904) :
  Calls Tryz.prog 14 #[.slice A zs.length cap] (ext W x) fun e w' => e = .returned (.tuple #[]) ∧ ∃ x', w' = ext W x' ∧ Own W x' 3 1 (.slice A zs.length cap) zs.length (ic (zs.mergeSort fun x y => decide (x ≤ y))) := by
 rcases Nat.eq_zero_or_pos zs.length with h0 | h0
 ·
  obtain rfl : zs = [] := List.eq_nil_of_length_eq_zero h0
  have h := Any.slices_Sort_int_none Tryz.lays189 A cap (ext W x)
  change Calls Tryz.prog 14 _ _ _ at h
  refine h.mono ?_
  rintro e w' ⟨rfl, rfl⟩
  exact ⟨rfl, x, rfl, by simpa using ho⟩
 ·
  obtain ⟨g, rfl, _⟩ := Own.at ho h0
  have h := Any.slices_Sort_int Tryz.lays189 g 0 cap zs (ext W x) (holds_ints (holds_own ho _ (by simp))) (ho.lt g rfl).2 hl
  change Calls Tryz.prog 14 _ _ _ at h
  refine h.mono ?_
  rintro e w' ⟨rfl, m, os, rfl⟩
  refine ⟨rfl, ?_⟩
  rw [putRow_id]
  have hlen : (zs.mergeSort fun x y => decide (x ≤ y)).length = zs.length := List.length_mergeSort _
  obtain ⟨x', hx', ho'⟩ := own_sorted ho ((zs.mergeSort fun x y => decide (x ≤ y)).toArray.map (Value.int .i64)) (by simp [hlen]) m os
  exact ⟨x', hx', by simpa [ic] using ho'⟩
end Go.Proofs.YtdiaecgpjgdkdaaGreat
