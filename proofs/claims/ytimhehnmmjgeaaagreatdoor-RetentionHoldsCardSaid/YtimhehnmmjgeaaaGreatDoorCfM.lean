/- Maps whose elements are kept as they lie: look-ups and stores at a step of a region; a range loop whose round stores at its own key. -/
import Derived.Test.YtimhehnmmjgeaaaGreatDoorFen
import Derived.Maps.Own
import Derived.Maps.OwnSet
import Derived.Maps.Range
import Derived.Maps.RangeWalk
import Derived.Maps.Views
set_option linter.unusedSimpArgs false
set_option linter.unusedVariables false
namespace Go.Proofs.YtimhehnmmjgeaaaGreatDoor
open Go.RowKit Go.Maps Go.WideElems Go.ChangeMaps

/-- an element of a map, kept as the value that it is -/
def heldR (v : Value) : Option (DataW Value × List MemPlace) := some (.held v, [])
section
variable {P : Program} {k : TypeId} {w : World} {b n : Nat} {D : DataW Value}
theorem look_held {t e : TypeId} (h : w.ownsMap P k heldR b n D) (K : Keyed P k) (ht : P.underlying t = some (.map k e)) {z : Value} (hz : (zeroValue e).run P w = .ok z w) {key : Value} {kl : Lit} (hkey : keyOf P k key = some kl) {v : Value} (hv : D.atKey kl (.held z) = .held v) :
    (Instr.lookup t (.map (some b)) key false).run P w = .ok v w := by
  obtain ⟨v', ps, hrun, hR⟩ := h.lookup K ht hz (zd := .held z) (zp := []) rfl hkey
  simp only [heldR, Option.some.injEq, Prod.mk.injEq] at hR
  rw [hv] at hR
  obtain rfl : v' = v := by have := hR.1; injection this
  exact hrun
/-- a store at a step of a region that draws its order -/
theorem step_upd {H : Type} {R : Value → Option (DataW H × List MemPlace)} {D : DataW H} {ops : Array Oper} {o : Oper} {a : Act} {K' : Act → World → Prop} {Q : Exit → Act → World → Prop} {C : Prop} (hgd : o.guard = none) (m x v : Operand) (t : TypeId) (hop : o.op = Op.mapUpdate t m x v)
    (e : TypeId) (K : Keyed P k) (ht : P.underlying t = some (.map k e)) (b n : Nat) (hm : a.eval m = .map (some b)) (hown : w.ownsMap P k R b n D) (hn : n < maxLen) (key val : Value) (kl : Lit) (hx : a.eval x = key) (hv : a.eval v = val) (hkey : keyOf P k key = some kl)
    (d : DataW H) (ps : List MemPlace) (hval : R val = some (d, ps))
    (h : ∀ w', w'.ownsMap P k R b (n + 1) (D.put kl d) → w.grownBy w' (some b) → K' (a.put o.dst undef) w') : if Region.wanted o (yielded ops a.tmps) = true then Oper.wp P o a w K' Q else C := by
  have hw : Region.wanted o (yielded ops a.tmps) = true := by simp [Region.wanted, hgd]
  rw [if_pos hw]
  obtain ⟨w', hrun, r1, r2⟩ := hown.update K ht hn hkey hval
  unfold Oper.wp
  simp [execOp, hop, hm, hx, hv, hrun, Result.andThen]
  exact h w' r1 r2
end
section
variable {H : Type} {P : Program} {k : TypeId} {R : Value → Option (DataW H × List MemPlace)} {w : World} {b r n : Nat} {D : DataW H} {left : Lit → Bool} {cnt : Nat}
theorem filter_born (seen : Array Nat) : ∀ (l m : List MapEntry), l.map (·.born) = m.map (·.born) → (l.filter fun e => !seen.contains e.born).length = (m.filter fun e => !seen.contains e.born).length
  | [], [], _ => rfl
  | [], _ :: _, h => by simp at h
  | _ :: _, [], h => by simp at h
  | x :: l, y :: m, h => by
    simp only [List.map_cons, List.cons.injEq] at h
    have ih := filter_born seen l m h.2
    rw [List.filter_cons, List.filter_cons, h.1]
    split
    · rw [List.length_cons, List.length_cons, ih]
    · exact ih
/-- 'm[k] = v' inside the loop, k in the map: who is left does not turn -/
theorem World.ranges.replace {t e : TypeId} (h : w.ranges P k R b r n D left cnt) (K : Keyed P k) (ht : P.underlying t = some (.map k e)) (hn : n < maxLen) {key val : Value} {kl : Lit} {d : DataW H} {ps : List MemPlace}
    (hkey : keyOf P k key = some kl) (hv : R val = some (d, ps)) (hin : Maps.has D kl = true) :
    ∃ w', (Instr.mapUpdate t (.map (some b)) key val).run P w = .ok () w' ∧ w'.ranges P k R b r n (D.put kl d) left cnt ∧ w.grownBy w' (some b) ∧ w'.heap.size = w.heap.size := by
  have hne := h.ne
  obtain ⟨es, clock, since, seen, c0, hb, F, hs, rfl, hr, hold, hcnt, hl1, hl2, hsc, hsk⟩ := h
  have hroom : es.size < maxLen := Nat.lt_of_le_of_lt hs hn
  obtain ⟨es', clock', hrun, F', hput, _⟩ := Maps.fit_store (R' := R) K ht hb F hroom (fun _ _ _ _ hz => hz) hkey hv
  rcases K.find w hkey es.toList F.keys with ⟨h1, h2⟩ | ⟨j, e0, h1, h2, h3⟩
  · exfalso
    obtain ⟨p, hp, hpk⟩ := List.any_eq_true.1 hin
    obtain ⟨x, hx, rfl⟩ := List.mem_map.1 (mem_sorted.1 hp)
    have := WideAt.sameKey_eq hpk
    obtain ⟨y, hy⟩ := F.reads x hx
    have m1 := rd_key hy
    rw [rg_of hy] at this
    rw [this] at m1
    exact h2 x hx (K.inj m1 hkey)
  · have hj : es[j]? = some e0 := by simpa using h2
    have hrun2 : (Instr.mapUpdate t (.map (some b)) key val).run P w = .ok () (setBlock w b (.map (es.modify j (fun e' => { e' with key := key, val := val })) clock)) := by
      simp [Instr.mapUpdate, run_underlying ht, MapKept.run_getObj_map hb, K.check w false hkey, h1, hj, h3, K.stays w hkey, MapKept.run_setObj_map _ hb, Result.andThen, setBlock]
    have hsame : setBlock w b (.map es' clock') = setBlock w b (.map (es.modify j (fun e' => { e' with key := key, val := val })) clock) := by
      rw [hrun] at hrun2
      injection hrun2
    have hobj : (Obj.map es' clock') = .map (es.modify j (fun e' => { e' with key := key, val := val })) clock := by
      have := congrArg (fun W : World => W.heap[b]?) hsame
      simp only [heap_setBlock_same hb] at this
      simpa using this
    injection hobj with he hc
    subst he hc
    have hlist : (es.modify j (fun e' => { e' with key := key, val := val })).toList = es.toList.set j { e0 with key := key, val := val } := by rw [Array.toList_modify, modify_eq_set _ _ _ _ h2]
    have hm0 : e0 ∈ es.toList := List.mem_of_getElem? h2
    have hrg0 : (rg P k R { e0 with key := key, val := val }).1 = (rg P k R e0).1 := by
      obtain ⟨y, hy⟩ := F.reads e0 hm0
      have m1 := rd_key hy
      rw [h3, hkey] at m1
      rw [rg_of hy, rg_of (rd_mk hkey hv)]
      exact Option.some.inj m1
    have hpair : ∀ x ∈ (es.modify j (fun e' => { e' with key := key, val := val })).toList, ∃ y ∈ es.toList, y.born = x.born ∧ (rg P k R y).1 = (rg P k R x).1 := by
      intro x hx
      rw [hlist] at hx
      rcases List.mem_or_eq_of_mem_set hx with hx | rfl
      · exact ⟨x, hx, rfl, rfl⟩
      · exact ⟨e0, hm0, rfl, hrg0.symm⟩
    have hpair2 : ∀ y ∈ es.toList, ∃ x ∈ (es.modify j (fun e' => { e' with key := key, val := val })).toList, y.born = x.born ∧ (rg P k R y).1 = (rg P k R x).1 := by
      intro y hy
      obtain ⟨i, hi, rfl⟩ := List.getElem_of_mem hy
      have hjl : j < es.toList.length := (List.getElem?_eq_some_iff.1 h2).1
      by_cases hij : j = i
      · subst hij
        have he0 : es.toList[j] = e0 := by have := List.getElem?_eq_getElem hi; rw [h2] at this; exact (Option.some.inj this).symm
        rw [he0]
        exact ⟨{ e0 with key := key, val := val }, by rw [hlist]; exact List.mem_iff_getElem.2 ⟨j, by simpa using hjl, by simp⟩, rfl, hrg0.symm⟩
      · exact ⟨es.toList[i], by rw [hlist]; exact List.mem_iff_getElem.2 ⟨i, by simpa using hi, by rw [List.getElem_set_ne hij]⟩, rfl, rfl⟩
    have hborn : (es.modify j (fun e' => { e' with key := key, val := val })).toList.map (·.born) = es.toList.map (·.born) := by
      rw [hlist, List.map_set]
      have : (e0.born) = (es.toList.map (·.born))[j]'(by have := (List.getElem?_eq_some_iff.1 h2).1; simpa using this) := by
        have hjl := (List.getElem?_eq_some_iff.1 h2)
        simp only [List.getElem_map]
        rw [hjl.2]
      show (es.toList.map (·.born)).set j e0.born = _
      rw [this, List.set_getElem_self]
    refine ⟨_, hrun, ⟨_, _, since, seen, c0, heap_setBlock_same hb _, F', by simpa using hs, ?_, (heap_setBlock_other hb _ hne).trans hr, ?_, ?_, ?_, ?_, hsc, hsk⟩, ⟨rfl, rfl, rfl, by simp [setBlock], fun i _ hi => heap_setBlock_other hb _ (fun e => hi (by rw [e]))⟩, by simp [setBlock]⟩
    · rw [DataW.put_eq, hput]
    · intro x hx
      obtain ⟨y, hy, h4, _⟩ := hpair x hx
      rw [← h4]; exact hold y hy
    · rw [← hcnt]
      have hlf : ∀ es : Array MapEntry, (leftOf es seen).size = (es.toList.filter fun e => !seen.contains e.born).length := fun es => by
        unfold leftOf
        rw [← Array.length_toList, Array.toList_filter]
      rw [hlf, hlf]
      exact filter_born seen _ _ hborn
    · intro x hx
      obtain ⟨y, hy, h4, h5⟩ := hpair x hx
      rw [← h4, ← h5]; exact hl1 y hy
    · intro kl' hkl
      obtain ⟨y, hy, h4⟩ := hl2 kl' hkl
      obtain ⟨x, hx, _, h6⟩ := hpair2 y hy
      exact ⟨x, hx, by rw [← h6]; exact h4⟩
/-- .. at the operation -/
theorem wpList_upd_ranges {ops : Array Oper} {rest : List Oper} {o : Oper} {a : Act} {Q : Exit → Act → World → Prop} (hg : o.guard = none) (m x v : Operand) (t : TypeId) (hop : o.op = Op.mapUpdate t m x v)
    (e : TypeId) (K : Keyed P k) (ht : P.underlying t = some (.map k e)) (hm : a.eval m = .map (some b)) (h : w.ranges P k R b r n D left cnt) (hn : n < maxLen) (key val : Value) (kl : Lit) (hx : a.eval x = key) (hv : a.eval v = val) (hkey : keyOf P k key = some kl)
    (d : DataW H) (ps : List MemPlace) (hval : R val = some (d, ps)) (hin : Maps.has D kl = true)
    (hK : ∀ w', w'.ranges P k R b r n (D.put kl d) left cnt → w.grownBy w' (some b) → w'.heap.size = w.heap.size → wpList P ops Q rest (a.put o.dst undef) w') : wpList P ops Q (o :: rest) a w := by
  refine wpList_plain hg fun K' hK' => ?_
  obtain ⟨w', hrun, r1, r2, r3⟩ := World.ranges.replace h K ht hn hkey hval hin
  unfold Oper.wp
  simp [execOp, hop, hm, hx, hv, hrun, Result.andThen]
  exact hK' _ _ (hK w' r1 r2 r3)
theorem World.ranges.has_left (h : w.ranges P k R b r n D left cnt) (K : Keyed P k) {kl : Lit} (hl : left kl = true) : Maps.has D kl = true := by
  obtain ⟨es, clock, since, seen, c0, hb, F, hs, rfl, hr, hold, hcnt, hl1, hl2, hsc, hsk⟩ := h
  obtain ⟨x, hx, rfl⟩ := hl2 kl hl
  obtain ⟨y, hy⟩ := F.reads x hx
  exact List.any_eq_true.2 ⟨rg P k R x, mem_sorted.2 (List.mem_map.2 ⟨x, hx, rfl⟩), WideAt.sameKey_self (by rw [rg_of hy]; exact K.key (rd_key hy))⟩
theorem World.ranges.iter (h : w.ranges P k R b r n D left cnt) : ∀ j, some r = some j → ∃ o : Obj, w.heap[j]? = some o ∧ o.isCells = false := by
  rintro j ⟨rfl⟩
  obtain ⟨es, clock, since, seen, c0, hb, F, hs, rfl, hr, _⟩ := h
  exact ⟨_, hr, rfl⟩
end
end Go.Proofs.YtimhehnmmjgeaaaGreatDoor
