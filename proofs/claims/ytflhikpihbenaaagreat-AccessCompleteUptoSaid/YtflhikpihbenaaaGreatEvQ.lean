/- Where an expression is true, the equations that it states hold of the row. -/
import Derived.Test.YtflhikpihbenaaaGreatEv7
import Derived.Test.YtflhikpihbenaaaGreatCds
import Derived.Test.YtflhikpihbenaaaGreatCho
import Derived.Test.YtflhikpihbenaaaGreatMat2
import Derived.Test.YtflhikpihbenaaaGreatCmz
set_option linter.unusedSimpArgs false
set_option linter.unusedVariables false
namespace Go.Proofs.YtflhikpihbenaaaGreat
open Go.RowKit


theorem cond_eq {row : List Va} {o i : Int} {v : Va} {nm : ByteArray} {args : List Ex} {c : Cd} (h : o = 7 → eqA row args) (hf : condF (.mk o i v nm args) = some c) (h7 : c.op = 7) : atV row c.col = c.v := by
  rcases hq : isCmp o with _ | _
  · unfold condF at hf
    rw [if_pos (show isCmp (Ex.mk o i v nm args).op = false from hq)] at hf
    cases hf
  match args, h, hf with
  | [a, b], h, hf =>
    have hf : (if a.op = 1 then condG b a (mirF o) else condG a b o) = some c := by
      unfold condF at hf
      rw [if_neg (show ¬ isCmp (Ex.mk o i v nm [a, b]).op = false from by rw [show isCmp (Ex.mk o i v nm [a, b]).op = true from hq]; decide)] at hf
      exact hf
    by_cases ha : a.op = 1
    · rw [if_pos ha] at hf
      unfold condG at hf
      split at hf
      · rename_i hc
        injection hf with hf
        subst hf
        have ho : o = 7 := by
          have h8 : mirF o = 7 := h7
          unfold mirF at h8
          repeat (split at h8; · omega)
          exact h8
        exact (h ho).2 ha hc.1 hc.2.2.2 hc.2.2.1
      · cases hf
    · rw [if_neg ha] at hf
      unfold condG at hf
      split at hf
      · rename_i hc
        injection hf with hf
        subst hf
        exact (h h7).1 hc.1 hc.2.1 hc.2.2.2 hc.2.2.1
      · cases hf
  | [], _, hf =>
    unfold condF at hf
    rw [if_neg (show ¬ isCmp (Ex.mk o i v nm _).op = false from by rw [show isCmp (Ex.mk o i v nm _).op = true from hq]; decide)] at hf
    cases hf
  | [_], _, hf =>
    unfold condF at hf
    rw [if_neg (show ¬ isCmp (Ex.mk o i v nm _).op = false from by rw [show isCmp (Ex.mk o i v nm _).op = true from hq]; decide)] at hf
    cases hf
  | _ :: _ :: _ :: _, _, hf =>
    unfold condF at hf
    rw [if_neg (show ¬ isCmp (Ex.mk o i v nm _).op = false from by rw [show isCmp (Ex.mk o i v nm _).op = true from hq]; decide)] at hf
    cases hf
mutual
theorem conds_len : ∀ e : Ex, (conds e).length ≤ szE e
  | .mk o i v nm args => by
    rw [conds, szE]
    split
    · exact Nat.le_succ_of_le (condss_len args)
    · cases h : condF (.mk o i v nm args) <;> simp
theorem condss_len : ∀ es : List Ex, (condss es).length ≤ szs es
  | [] => by rw [condss]; exact Nat.zero_le _
  | e :: es => by
    rw [condss, szs, List.length_append]
    have := conds_len e
    have := condss_len es
    omega
end
mutual
theorem hol_cond {row : List Va} : ∀ e : Ex, hol row e → ∀ c ∈ conds e, c.op = 7 → atV row c.col = c.v
  | .mk o i v nm args, h, c, hc, h7 => by
    rw [conds] at hc
    rw [hol] at h
    split at hc
    · rename_i ha
      have ho : o = 5 := by
        unfold isAnd at ha
        simp only [Bool.and_eq_true, beq_iff_eq] at ha
        exact ha.1.1.1.1
      exact hols_cond args (h.2.1 ho) c hc h7
    · exact cond_eq h.2.2 (by simpa using hc) h7
theorem hols_cond {row : List Va} : ∀ es : List Ex, hols row es → ∀ c ∈ condss es, c.op = 7 → atV row c.col = c.v
  | [], _, c, hc, _ => by rw [condss] at hc; cases hc
  | e :: es, h, c, hc, h7 => by
    rw [condss] at hc
    rw [hols] at h
    rcases List.mem_append.1 hc with h1 | h1
    · exact hol_cond e h.1 c h1 h7
    · exact hols_cond es h.2 c h1 h7
end
theorem pref_at {row : List Va} {cs : List Cd} (h : ∀ c ∈ cs, c.op = 7 → atV row c.col = c.v) : ∀ ks : List Int, prefF cs ks = (ks.map (atV row)).take (prefF cs ks).length
  | [] => by simp [prefF]
  | k :: ks => by
    rw [prefF]
    split
    · rfl
    · rename_i c hc
      have h1 := List.find?_some hc
      have h2 := List.mem_of_find?_eq_some hc
      unfold isEq at h1
      simp only [Bool.and_eq_true, beq_iff_eq] at h1
      have h3 := h c h2 h1.1
      rw [List.length_cons, List.map_cons, List.take_succ_cons, ← pref_at h ks, ← h3, h1.2]
theorem pref_key {row : List Va} {cs : List Cd} (h : ∀ c ∈ cs, c.op = 7 → atV row c.col = c.v) (ks : List Int) : keyB (prefF cs ks) (ks.map (atV row)) = true := by
  unfold keyB
  rw [← pref_at h ks]
  have := prefF_length cs ks
  simp [cmpR_zero]
  omega
/-- the path chosen holds the version -/
theorem chosen_mat {row : List Va} {e : Ex} (h : hol row e) (ks : List Int) (s d vv vs : Int × Int) (h1 : povB vs s = true) (h2 : povB vv d = true) :
    let p := chF (prefF (conds e) ks) s d
    matB p.k p.key (ks.map (atV row)) vv vs p.v p.s = true := by
  have hk := pref_key (hol_cond e h) ks
  have hps : pvB s = true := by unfold povB at h1; simp only [Bool.and_eq_true] at h1; exact h1.1.1.2
  show matB (chF (prefF (conds e) ks) s d).k _ _ _ _ _ _ = true
  unfold chF
  split
  · simp [matB, hk]
  · rw [if_neg (by rw [hps]; decide)]
    split
    · simp [matB, h1, h2]
    · split
      · simp [matB, h2]
      · simp [matB]

end Go.Proofs.YtflhikpihbenaaaGreat
