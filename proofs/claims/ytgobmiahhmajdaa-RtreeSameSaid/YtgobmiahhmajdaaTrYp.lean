/- Packed trees: plain laws of the laws RtreeSame, RtreeParts, RtreePrunes. -/
import Derived.Test.YtgobmiahhmajdaaTrT
set_option linter.unusedSimpArgs false
set_option linter.unusedVariables false
namespace Go.Proofs.Ytgobmiahhmajdaa
open Go.RowKit

theorem wd_63 {a : Int} (h : (Lit.int .u8 a).wf = true) : 0 ≤ a ∧ a ≤ 255 ∧ 2 ≤ 2 + a % 63 ∧ 2 + a % 63 ≤ 64 := by
  simp [Lit.wf] at h
  have h0 : 0 ≤ a ∧ a ≤ 255 := h
  omega
theorem err_zero_iff {wd : Int} {L : List Bxs} (hw : 2 ≤ wd ∧ wd ≤ 64) (hL : L.length ≤ 200) : errF wd L = 0 ↔ (∀ x ∈ L, rvB x.1 = true) ∧ (L.map (·.2)).Nodup := by
  unfold errF
  rw [if_neg (by omega), if_neg (by omega)]
  constructor
  · intro h; have h1 := chk_ok h; exact ⟨h1.1, h1.2.2⟩
  · rintro ⟨h, k⟩; exact chk_all h (by simp) k
theorem same_err {w1 w2 : Int} {L M : List Bxs} (h1 : 2 ≤ w1 ∧ w1 ≤ 64) (h2 : 2 ≤ w2 ∧ w2 ≤ 64) (hp : M.Perm L) (hL : L.length ≤ 200) : errF w1 L = 0 ↔ errF w2 M = 0 := by
  rw [err_zero_iff h1 hL, err_zero_iff h2 (by rw [hp.length_eq]; exact hL)]
  exact ⟨fun ⟨a, b⟩ => ⟨fun x hx => a x (hp.mem_iff.1 hx), ((hp.map _).nodup_iff).2 b⟩, fun ⟨a, b⟩ => ⟨fun x hx => a x (hp.mem_iff.2 hx), ((hp.map _).nodup_iff).1 b⟩⟩
theorem same_lo {w1 w2 : Int} {L M : List Bxs} (h1 : errF w1 L = 0) (h2 : errF w2 M = 0) (hp : M.Perm L) : loE w2 M = loE w1 L := by
  unfold loE; rw [if_pos h1, if_pos h2]
  obtain ⟨_, _, hn, _⟩ := err_zero h1
  have hN := nodup_of_ids hn
  exact sorted_unique (ordF_sorted (hp.nodup_iff.2 hN)) (ordF_sorted hN) ((ordF_perm M).trans (hp.trans (ordF_perm L).symm))
theorem rev_take (L : List Bxs) {j k : Nat} (h : L.length = k + 1 + j) (hk : k < L.length) : L.reverse.take (j + 1) = L.reverse.take j ++ [L[k]] := by
  rw [List.take_succ_eq_append_getElem (by simp; omega), List.getElem_reverse]
  congr 3
  omega

end Go.Proofs.Ytgobmiahhmajdaa
