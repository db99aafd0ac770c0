/- Lemmas for the rows: BtR. -/
import Derived.Test.YtdiaecgpjgdkdaaGreatThS16
import Derived.Test.YtdiaecgpjgdkdaaGreatThS06
import Derived.Laws.IdiomCopy
import Derived.Laws.OwnMore
set_option linter.unusedSimpArgs false
set_option linter.unusedVariables false
namespace Go.Proofs.YtdiaecgpjgdkdaaGreat
open Go.RowKit

structure Blk (w : World) (base : Nat) (e : TypeId) (size g cap : Nat) (cur : List Value) : Prop where
 hb : base ≤ g
 hp : w.heap[g]? = some (.cells cur.toArray e (0, 0))
 hm : cap ≤ maxLen
 hl : cur.length = cap * size
section
variable {w : World} {base : Nat} {e : TypeId} {size g cap : Nat} {cur : List Value}
theorem Blk.lt (h : Blk w base e size g cap cur) : g < w.heap.size := (Array.getElem?_eq_some_iff.1 h.hp).1
theorem Blk.cell (h : Blk w base e size g cap cur) (j : Nat) : w.cell? ⟨g, j, none⟩ = cur[j]? := by
 simp [World.cell?, h.hp]
theorem Blk.frozen (h : Blk w base e size g cap cur) (j : Nat) : w.frozen? ⟨g, j, none⟩ = false := by
 simp [World.frozen?, h.hp]
theorem Blk.own (h : Blk w base e size g cap cur) {n : Nat} (hn : n ≤ cap) : w.ownsRow base e size (.slice (some ⟨g, 0, none⟩) n cap) n (cur.take (n * size)) := by
 refine ⟨?_, .inr ⟨g, cap, cur.toArray, rfl, h.hb, h.hp, hn, h.hm, by simp [h.hl], by simp⟩⟩
 rw [List.length_take, h.hl]
 have := Nat.mul_le_mul_right size hn
 omega
theorem own_forms {v : Value} {n : Nat} {xs : List Value} (h : w.ownsRow base e size v n xs) : (v = .slice none 0 0 ∧ n = 0 ∧ xs = []) ∨ ∃ g cap cur, v = .slice (some ⟨g, 0, none⟩) n cap ∧ Blk w base e size g cap cur ∧ n ≤ cap ∧ cur.take (n * size) = xs := by
 rcases h.2 with ⟨rfl, rfl⟩ | ⟨g, cap, cur, rfl, hb, hg, hnc, hcm, hcs, htake⟩
 ·
  exact .inl ⟨rfl, rfl, List.eq_nil_of_length_eq_zero (by simpa using h.1)⟩
 ·
  exact .inr ⟨g, cap, cur.toList, rfl, ⟨hb, by simpa using hg, hcm, by simpa using hcs⟩, hnc, htake⟩
theorem set_heap {W : World} {b : Nat} {c : Array Value} {t : TypeId} {f : Nat × Nat} (h : W.heap[b]? = some (.cells c t f)) (o : Nat) (u : Value) : (W.setCell ⟨b, o, none⟩ u).heap[b]? = some (.cells (c.setIfInBounds o u) t f) := by
 obtain ⟨hlt, hk⟩ := Array.getElem?_eq_some_iff.1 h
 show (W.heap.modify b _)[b]? = _
 rw [Array.getElem?_eq_getElem (by rw [Array.size_modify]; exact hlt), Array.getElem_modify_self, hk]
 rfl
theorem set_grown (w : World) (b o : Nat) (u : Value) : w.grownBy (w.setCell ⟨b, o, none⟩ u) (some b) :=
 ⟨rfl, rfl, rfl, by show _ ≤ (w.heap.modify b _).size; rw [Array.size_modify]; exact Nat.le_refl _, fun k hk hne => Below.heap_setCell _ _ _ k (by simpa using hne)⟩
theorem Blk.setCells : ∀ {vs : List Value} {w : World} {cur : List Value} (_ : Blk w base e size g cap cur) (o : Nat), o + vs.length ≤ cur.length →
  Blk (w.setCells g o vs) base e size g cap (cur.take o ++ (vs ++ cur.drop (o + vs.length))) ∧ w.grownBy (w.setCells g o vs) (some g)
 | [], w, cur, h, o, _ => by
  refine ⟨?_, World.grownBy.refl w _⟩
  show Blk w base e size g cap _
  simpa using h
 | v :: vs, w, cur, h, o, ho => by
  simp only [List.length_cons] at ho
  have h1 : Blk (w.setCell ⟨g, o, none⟩ v) base e size g cap (cur.set o v) := ⟨h.hb, by rw [set_heap h.hp]; simp, h.hm, by rw [List.length_set]; exact h.hl⟩
  have ih := h1.setCells (vs := vs) (o + 1) (by rw [List.length_set]; omega)
  refine ⟨?_, (set_grown w g o v).trans ih.2⟩
  have e1 : (cur.set o v).take (o + 1) ++ (vs ++ (cur.set o v).drop (o + 1 + vs.length)) = cur.take o ++ (v :: vs ++ cur.drop (o + (v :: vs).length)) := by
   rw [List.drop_set_of_lt (by omega), List.take_succ_eq_append_getElem (by rw [List.length_set]; omega), List.getElem_set_self, List.take_set_of_le (Nat.le_refl _), List.length_cons, show o + 1 + vs.length = o + (vs.length + 1) by omega]
   simp
  rw [← e1]
  exact ih.1
end
section
variable {P : Program} (w : World)
theorem run_copyB {t t' e ty : TypeId} {z : Value} {size bytes : Nat} (E : El P t e z size bytes) (g o dn dc : Nat) (a : Addr) (sn sc : Nat) (cs : List Value) (hn : cs.length = Nat.min sn dn * size)
  (hsrc : ∀ j v, cs[j]? = some v → w.cell? (a.add j) = some v) (hc : ∀ j, j < cs.length → (w.cell? ⟨g, o + j, none⟩).isSome = true) (hf : ∀ j, j < cs.length → w.frozen? ⟨g, o + j, none⟩ = false) (h1 : ∀ v ∈ cs, v.oneCell' = true) :
  (Builtin.copy_ #[t, t'] ty #[.slice (some ⟨g, o, none⟩) dn dc, .slice (some a) sn sc]).run P w = .ok (goInt (Nat.min sn dn)) (w.setCells g o cs) := by
 obtain ⟨i, hi, hz, hs, hb⟩ := E.hi
 have hl := run_loadCells_list (P := P) w a cs hsrc
 have hst := run_storeCells_cells (P := P) g o cs 0 w (by simpa using hc) (by simpa using hf) h1
 have hn' : Nat.min sn dn * size = cs.length := hn.symm
 simp [Builtin.copy_, run_underlying E.ht, Builtin.lenOf, Builtin.firstCells, sizeOf, typeInfo, hi, hs, hn', hl, hst]
theorem run_append_zeros {t tn e ty : TypeId} {z : Value} {size bytes : Nat} (E : El P t e z size bytes) (kn : IntKind) (htn : P.underlying tn = some (.int kn)) (b : Addr) (n c m : Nat) (olds : List Value) (hlo : olds.length = n * size) (holds : ∀ j v, olds[j]? = some v → w.cell? (b.add j) = some v)
  (hm : 0 < m) (hg : c < n + m) (h63 : n + m ≤ maxLen) (hbytes : (n + m) * bytes ≤ 140737488355328) :
  ∃ cap rest, (Builtin.append_ #[t, tn] ty #[.slice (some b) n c, .int .i64 m]).run P w = .ok (.slice (some ⟨w.heap.size, 0, none⟩) (n + m) cap) (w.drew.alloc (.cells (olds ++ rest).toArray e)) ∧ n + m ≤ cap ∧ cap ≤ maxLen ∧ (olds ++ rest).length = cap * size := by
 obtain ⟨i, hi, hz, hs, hb⟩ := E.hi
 subst hs hb
 have hge := grownCap_ge w (n + m) c e
 have hcm : grownCap w (n + m) c e ≤ maxLen := grownCap_le_maxLen w (n + m) c e h63
 have hn : ¬ (n + m ≤ c) := by omega
 have hmax : maxLen = 9223372036854775807 := rfl
 have h63' : ¬ (9223372036854775807 < ((n : Int) + (m : Int))) := by omega
 have hfit := growslice_fits hg hbytes
 have h48' : ¬ (281474976710656 < Builtin.nextslicecap (n + m) c * i.bytes) := by omega
 have hw : IntKind.i64.wrap (m : Int) = m := by rw [IntKind.wrap_i64]; omega
 have hneg : ¬ ((m : Int) < 0) := by omega
 have hm0 : m ≠ 0 := by omega
 have hsz := E.hsz
 have hns : ¬ (m * i.size = 0) := Nat.mul_ne_zero hm0 (by omega)
 have hmb : m * i.bytes ≤ (n + m) * i.bytes := Nat.mul_le_mul_right _ (by omega)
 have h48i : ¬ (281474976710656 < (m : Int) * (i.bytes : Int)) := by
  rw [← Int.natCast_mul]
  omega
 have hfo := run_firstCells_some (P := P) w.drew i.size n b n c olds hlo (by simpa using holds)
 refine ⟨grownCap w (n + m) c e, (Builtin.zeroCells z.cells m).toList ++ (Builtin.zeroCells z.cells (grownCap w (n + m) c e - (n + m))).toList, ?_, hge, hcm, ?_⟩
 ·
  simp [Builtin.append_, run_underlying E.ht, run_underlying htn, sizeOf, typeInfo, zeroValue, hi, hz, asInt, asIntOf, hw, hn, hneg, hns, hm0, h63', h48', h48i, Question.forced, hfo, newRow, grownCap]
  congr 2
  apply Array.ext'
  simp [List.append_assoc]
 ·
  simp only [List.length_append, Array.length_toList, Builtin.zeroCells, Array.size_map, Array.size_range, E.hzs, hlo]
  rw [← Nat.add_assoc, ← Nat.add_mul, ← Nat.add_mul]
  congr 1
  omega
end
end Go.Proofs.YtdiaecgpjgdkdaaGreat
