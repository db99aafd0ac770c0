/- The reference of expressions: Eval. -/
import Derived.Test.YtflhikpihbenaaaGreatEv6
import Derived.Test.YtflhikpihbenaaaGreatFrq
import Derived.Test.YtflhikpihbenaaaGreatCmz
set_option linter.unusedSimpArgs false
set_option linter.unusedVariables false
namespace Go.Proofs.YtflhikpihbenaaaGreat
open Go.RowKit


/-- what a comparison by 7 of two arguments tells of a row -/
def eqA (row : List Va) : List Ex → Prop
  | [a, b] => (a.op = 2 → b.op = 1 → vvB b.v = true → b.v.k ≠ 0 → atV row a.i = b.v) ∧ (a.op = 1 → b.op = 2 → vvB a.v = true → a.v.k ≠ 0 → atV row b.i = a.v)
  | _ => True
mutual
/-- what is known where the expression is true -/
def hol (row : List Va) : Ex → Prop
  | .mk o i v nm args => frB o i v nm args.length = true ∧ (o = 5 → hols row args) ∧ (o = 7 → eqA row args)
def hols (row : List Va) : List Ex → Prop
  | [] => True
  | e :: es => hol row e ∧ hols row es
end
/-- what the value of an expression tells -/
def EvT (row : List Va) (e : Ex) (r : Va) : Prop := SmV r ∧ (isT r = true → hol row e) ∧ (e.op = 1 ∨ e.op = 2 → r = if frB e.op e.i e.v e.nm e.args.length then lfV e.op e.i e.v row else nullV)
def EvP (row : List Va) (ex : Ex) (e : Ending) : Prop := ∃ r : Va, e = .returned (vag r) ∧ EvT row ex r
theorem nullV_not : isT nullV = false := by decide
theorem EvP.null {row : List Va} {o i : Int} {v : Va} {nm : ByteArray} {args : List Ex} (h : frB o i v nm args.length = false) : EvP row (.mk o i v nm args) (.returned (vag nullV)) :=
  ⟨nullV, rfl, by decide, fun h2 => (by rw [nullV_not] at h2; cases h2), fun _ => by
    show nullV = if frB o i v nm args.length then lfV o i v row else nullV
    rw [h]
    rfl⟩
/-- any small value, where the operator tells nothing -/
theorem EvP.other {row : List Va} {o i : Int} {v : Va} {nm : ByteArray} {args : List Ex} {r : Va} (hf : frB o i v nm args.length = true) (h1 : o ≠ 1) (h2 : o ≠ 2) (h5 : o ≠ 5) (h7 : o ≠ 7) (hr : SmV r) : EvP row (.mk o i v nm args) (.returned (vag r)) :=
  ⟨r, rfl, hr, fun _ => by
    rw [hol]
    exact ⟨hf, fun h => absurd h h5, fun h => absurd h h7⟩, fun h => by
    exfalso
    rcases h with h | h
    · exact h1 h
    · exact h2 h⟩
theorem EvP.leaf {row : List Va} {o i : Int} {v : Va} {nm : ByteArray} {args : List Ex} (hf : frB o i v nm args.length = true) (h5 : o ≠ 5) (h7 : o ≠ 7) : EvP row (.mk o i v nm args) (.returned (vag (lfV o i v row))) :=
  ⟨_, rfl, leV_size _, fun _ => by
    rw [hol]
    exact ⟨hf, fun h => absurd h h5, fun h => absurd h h7⟩, fun _ => by
    show lfV o i v row = if frB o i v nm args.length then lfV o i v row else nullV
    rw [hf]
    rfl⟩
/-- arguments with their values -/
def EvL (row : List Va) (args : List Ex) (l : List Va) : Prop := l.length = args.length ∧ ∀ k (h : k < args.length) (h2 : k < l.length), EvT row args[k] l[k]
theorem hols_of {row : List Va} : ∀ {args : List Ex}, (∀ k (h : k < args.length), hol row args[k]) → hols row args
  | [], _ => by rw [hols]; trivial
  | e :: es, h => by
    rw [hols]
    exact ⟨h 0 (by simp), hols_of fun k hk => h (k + 1) (by simpa using hk)⟩
theorem EvP.and {row : List Va} {i : Int} {v : Va} {nm : ByteArray} {args : List Ex} {r : Va} {l : List Va} (hf : frB 5 i v nm args.length = true) (hl : EvL row args l) (hr : SmV r) (ht : isT r = true → ∀ x ∈ l, isT x = true) : EvP row (.mk 5 i v nm args) (.returned (vag r)) :=
  ⟨r, rfl, hr, fun h => by
    rw [hol]
    refine ⟨hf, fun _ => hols_of fun k hk => ?_, fun h => by omega⟩
    have hk2 : k < l.length := by rw [hl.1]; exact hk
    exact (hl.2 k hk hk2).2.1 (ht h _ (List.getElem_mem hk2)), fun h => by
    exfalso
    have h : (5 : Int) = 1 ∨ (5 : Int) = 2 := h
    omega⟩
theorem lfV_one (i : Int) (v : Va) (row : List Va) : lfV 1 i v row = leV v := by
  show leV (if (1 : Int) = 2 then atV row i else v) = leV v
  rw [if_neg (by decide : ¬ (1 : Int) = 2)]
theorem lfV_two (i : Int) (v : Va) (row : List Va) : lfV 2 i v row = leV (atV row i) := by
  show leV (if (2 : Int) = 2 then atV row i else v) = leV (atV row i)
  rw [if_pos rfl]
theorem leV_id {v : Va} (h : vvB v = true) : leV v = v := by unfold leV; rw [if_pos h]
theorem lf_eq {u b : Va} (h : leV u = b) (hb : b.k ≠ 0) : u = b := by
  unfold leV at h
  split at h
  · exact h
  · exfalso
    subst h
    exact hb rfl
theorem EvP.eq {row : List Va} {i : Int} {v : Va} {nm : ByteArray} {a b : Ex} {l0 l1 : Va} {z : Int} (hf : frB 7 i v nm 2 = true) (h0 : EvT row a l0) (h1 : EvT row b l1) (hz : z = tyT l0 l1 (cmpV l0 l1 == 0)) : EvP row (.mk 7 i v nm [a, b]) (.returned (vag (ofT z))) :=
  ⟨_, rfl, ofT_size z, fun h => by
    have h2 := ofT_true h
    rw [hz] at h2
    unfold tyT at h2
    split at h2
    · omega
    · rename_i hk
      have hk0 : l0.k ≠ 0 := fun e => hk (.inl e)
      have hc : (cmpV l0 l1 == 0) = true := by
        cases hq : (cmpV l0 l1 == 0)
        · rw [hq] at h2; simp at h2
        · rfl
      have he : l0 = l1 := cmpV_zero.1 (by simpa using hc)
      rw [hol]
      refine ⟨hf, fun h => by omega, fun _ => ⟨fun ha hb hv hn => ?_, fun ha hb hv hn => ?_⟩⟩
      · have e0 := h0.2.2 (.inr ha)
        have e1 := h1.2.2 (.inl hb)
        split at e0
        · split at e1
          · rw [ha] at e0
            rw [hb] at e1
            have e1' : l1 = b.v := by rw [e1, lfV_one, leV_id hv]
            have e0' : l0 = leV (atV row a.i) := by rw [e0, lfV_two]
            exact lf_eq (e0'.symm.trans (he.trans e1')) hn
          · exfalso; rw [he, e1] at hk0; exact hk0 rfl
        · exfalso; rw [e0] at hk0; exact hk0 rfl
      · have e0 := h0.2.2 (.inl ha)
        have e1 := h1.2.2 (.inr hb)
        split at e0
        · split at e1
          · rw [ha] at e0
            rw [hb] at e1
            have e0' : l0 = a.v := by rw [e0, lfV_one, leV_id hv]
            have e1' : l1 = leV (atV row b.i) := by rw [e1, lfV_two]
            exact lf_eq (e1'.symm.trans (he.symm.trans e0')) hn
          · exfalso; rw [he, e1] at hk0; exact hk0 rfl
        · exfalso; rw [e0] at hk0; exact hk0 rfl, fun h => by
    exfalso
    have h : (7 : Int) = 1 ∨ (7 : Int) = 2 := h
    omega⟩

end Go.Proofs.YtflhikpihbenaaaGreat
