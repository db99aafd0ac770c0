/- The contracts of the reference of chapter 3: Join, wanted, combined and the combinations. -/
import Derived.Test.YtimhehnmmjgeaaaGreatDoorSpB
import Derived.Deep.RegionHeld3
set_option linter.unusedSimpArgs false
set_option linter.unusedVariables false
namespace Go.Proofs.YtimhehnmmjgeaaaGreatDoor
open Go.RowKit


theorem joinF_nil (p : Int × Int) : joinF [] p = [p] := rfl
theorem joinF_yes {i : List (Int × Int)} {q p : Int × Int} (h : p.1 ≤ q.2) : joinF (i ++ [q]) p = i ++ [(q.1, if q.2 < p.2 then p.2 else q.2)] := by
  simp [joinF, h]
theorem joinF_no {i : List (Int × Int)} {q p : Int × Int} (h : q.2 < p.1) : joinF (i ++ [q]) p = i ++ [q] ++ [p] := by
  have : ¬ p.1 ≤ q.2 := by omega
  simp [joinF, this]
theorem joinF_length (l : List (Int × Int)) (p : Int × Int) : (joinF l p).length ≤ l.length + 1 := by
  rcases List.eq_nil_or_concat l with rfl | ⟨i, q, rfl⟩
  · simp [joinF]
  · rw [List.concat_eq_append]
    by_cases h : p.1 ≤ q.2
    · rw [joinF_yes h]; simp
    · rw [joinF_no (by omega)]; simp
theorem pc_append (a b : List (Int × Int)) : pc (a ++ b) = pc a ++ pc b := by simp [pc]
theorem Rd.take2 {w : World} {A : Option Addr} {i : List (Int × Int)} {q : Int × Int} (h : Rd w 2 A (i.length + 1) (pc (i ++ [q]))) : Rd w 2 A i.length (pc i) := by
  refine ⟨by rw [pc_length], fun hn => ?_⟩
  obtain ⟨b, o, hA, hb, hc⟩ := h.2 (by omega)
  exact ⟨b, o, hA, hb, fun j u hu => hc j u (by rw [pc_append, List.getElem?_append_left (List.getElem?_eq_some_iff.1 hu).1]; exact hu)⟩
/-- a row of the call's own -/
def OwR (e sz n : Nat) (xs : List Value) (w : World) (en : Ending) (w' : World) : Prop := ∃ v, en = .returned v ∧ Ext w w' ∧ w'.ownsRow w.heap.size e sz v n xs
theorem OwR.rd {e sz n : Nat} {xs : List Value} {w w' : World} {en : Ending} (h : OwR e sz n xs w en w') : RdP sz n xs w en w' := by
  obtain ⟨v, rfl, hE, ho⟩ := h
  rcases ho.2 with ⟨rfl, rfl⟩ | ⟨g, cap, cur, rfl, _⟩
  · exact ⟨none, 0, rfl, hE, Rd.of_own ho⟩
  · exact ⟨_, cap, rfl, hE, Rd.of_own ho⟩
/-- an owned row that may have moved -/
def OwP (W : World) (e sz n : Nat) (xs : List Value) (en : Ending) (w' : World) : Prop := ∃ v x', en = .returned v ∧ w' = ext W x' ∧ Own W x' e sz v n xs

theorem rel_same {W w' : World} {x : Add} {e sz n : Nat} {v : Value} {xs : List Value} {R : Prop} (h : Own W x e sz v n xs) (hE : Ext (ext W x) w') (k : ∀ x', w' = ext W x' → Own W x' e sz v n xs → R) : R := by
  obtain ⟨x1, rfl⟩ := hE.get
  obtain ⟨x2, hx2⟩ := ((Ext.ex W x).tr (Ext.ex (ext W x) x1)).get
  exact k x2 hx2 (by unfold Own; rw [← hx2]; exact own_ext h x1)
end Go.Proofs.YtimhehnmmjgeaaaGreatDoor
