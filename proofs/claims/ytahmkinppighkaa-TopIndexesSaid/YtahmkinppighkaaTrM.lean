/- The reference of packed trees: Check, ordered. -/
import Derived.Test.YtahmkinppighkaaTrL
set_option linter.unusedSimpArgs false
set_option linter.unusedVariables false
namespace Go.Proofs.Ytahmkinppighkaa
open Go.RowKit


def errR (wd : Int) (L : List Bxs) : Int := if wd < 2 ∨ 64 < wd then 6 else if 4096 < L.length then 5 else chkF [] L
theorem Rd.takeB {w : World} {b o n : Nat} {l : List Bxs} (h : Rd w 5 (some ⟨b, o, none⟩) n (bxl l)) (hn : n = l.length) (k : Nat) (hk : k ≤ n) : Rd w 5 (some ⟨b, o, none⟩) (l.take k).length (bxl (l.take k)) := by
  have h1 := h.1
  refine ⟨bxl_length _, fun h0 => ?_⟩
  have hl : (l.take k).length ≤ l.length := by rw [List.length_take]; omega
  obtain ⟨b', o', hA, hb, hc⟩ := h.2 (by omega)
  refine ⟨b', o', hA, hb, fun j u hu => hc j u ?_⟩
  have : bxl l = bxl (l.take k) ++ bxl (l.drop k) := by rw [← bxl_append, List.take_append_drop]
  rw [this, List.getElem?_append_left (List.getElem?_eq_some_iff.1 hu).1]
  exact hu
theorem fb_take (p : Bxs → Bool) (l : List Bxs) {k : Nat} (h : k < l.length) : (l.take (k + 1)).filter p = (l.take k).filter p ++ if p l[k] then [l[k]] else [] := by
  rw [List.take_succ_eq_append_getElem h, List.filter_append]
  congr 1
  cases hp : p l[k] <;> simp [hp]
end Go.Proofs.Ytahmkinppighkaa
