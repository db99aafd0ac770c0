/- Columns of rows, picked; keys. -/
import Derived.Test.YtflhikpihbenaaaGreatVrw
set_option linter.unusedSimpArgs false
set_option linter.unusedVariables false
namespace Go.Proofs.YtflhikpihbenaaaGreat
open Go.RowKit


def nullV : Va := ⟨0, 0, ⟨#[]⟩⟩
def atV (row : List Va) (i : Int) : Va := if i < 0 then nullV else row.getD i.toNat nullV
theorem atV_neg {row : List Va} {i : Int} (h : i < 0) : atV row i = nullV := by unfold atV; rw [if_pos h]
theorem atV_hi {row : List Va} {i : Int} (h : (row.length : Int) ≤ i) : atV row i = nullV := by
  unfold atV; split
  · rfl
  · rw [List.getD_eq_getElem?_getD, List.getElem?_eq_none (by omega)]; rfl
theorem atV_in {row : List Va} {k : Nat} (h : k < row.length) : atV row (k : Int) = row[k] := by
  unfold atV; rw [if_neg (by omega)]; simp [h]
theorem OwR.form {e sz n : Nat} {xs : List Value} {w : World} {en : Ending} {w' : World} (h : ∃ v, en = .returned v ∧ Ext w w' ∧ w'.ownsRow w.heap.size e sz v n xs) : True := trivial


theorem tnull_any (w : World) : Calls Tryz.prog 113 #[] w fun e w' => e = .returned (vag nullV) ∧ Ext w w' := by
  go_enter Tryz.func113, Tryz.ntmps113
  go_wp2
  refine bodyPost_ret (v := vag nullV) ?_ rfl ⟨rfl, by repeat (first | exact Ext.refl' _ | assumption | apply Ext.ex' | apply Ext.al | apply Ext.drN | apply Ext.dr)⟩
  simp [results, Tryz.results113, go_sem, nullV]
set_option maxHeartbeats 800000 in
theorem tat_any (A : Option Addr) (c : Nat) (row : List Va) (i : Int) (w : World) (hA : Rd w 3 A row.length (vcl row)) (nl : row.length ≤ 9223372036854775807) :
    Calls Tryz.prog 109 #[.slice A row.length c, .int .i64 i] w fun e w' => e = .returned (vag (atV row i)) ∧ Ext w w' := by
  by_cases h1 : i < 0
  · rw [atV_neg h1]
    go_enter Tryz.func109, Tryz.ntmps109
    go_wp2_with (go_at_call 113; refine (tnull_any _).mono ?_; rintro e w1 ⟨rfl, hb1⟩; obtain ⟨x1, rfl⟩ := hb1.get; clear hb1)
    refine bodyPost_ret (v := vag nullV) ?_ rfl ⟨rfl, by repeat (first | exact Ext.refl' _ | assumption | apply Ext.ex' | apply Ext.al | apply Ext.drN | apply Ext.dr)⟩
    simp [results, Tryz.results109, go_sem, nullV, ↓IntWalk.iteOmega]
  · by_cases h2 : (row.length : Int) ≤ i
    · rw [atV_hi h2]
      go_enter Tryz.func109, Tryz.ntmps109
      go_wp2_with (go_at_call 113; refine (tnull_any _).mono ?_; rintro e w1 ⟨rfl, hb1⟩; obtain ⟨x1, rfl⟩ := hb1.get; clear hb1)
      refine bodyPost_ret (v := vag nullV) ?_ rfl ⟨rfl, by repeat (first | exact Ext.refl' _ | assumption | apply Ext.ex' | apply Ext.al | apply Ext.drN | apply Ext.dr)⟩
      simp [results, Tryz.results109, go_sem, nullV, ↓IntWalk.iteOmega]
    · obtain ⟨k, rfl⟩ : ∃ k : Nat, i = (k : Int) := ⟨i.toNat, by omega⟩
      have hk : k < row.length := by omega
      rw [atV_in hk]
      obtain ⟨g, o, rfl, hg, c0, c1, c2⟩ := hA.val hk
      generalize row[k] = v at c0 c1 c2 ⊢
      go_enter Tryz.func109, Tryz.ntmps109
      go_wp2
      refine bodyPost_ret (v := vag v) ?_ rfl ⟨rfl, by repeat (first | exact Ext.refl' _ | assumption | apply Ext.ex' | apply Ext.al | apply Ext.drN | apply Ext.dr)⟩
      simp [results, Tryz.results109, go_sem, ↓IntWalk.iteOmega]


theorem rnull_any (w : World) : Calls Tryz.prog 36 #[] w fun e w' => e = .returned (vag nullV) ∧ Ext w w' := by
  go_enter Tryz.func36, Tryz.ntmps36
  go_wp2
  refine bodyPost_ret (v := vag nullV) ?_ rfl ⟨rfl, by repeat (first | exact Ext.refl' _ | assumption | apply Ext.ex' | apply Ext.al | apply Ext.drN | apply Ext.dr)⟩
  simp [results, Tryz.results36, go_sem, nullV]
set_option maxHeartbeats 800000 in
theorem rat8_any (A : Option Addr) (c : Nat) (row : List Va) (i : Int) (w : World) (hA : Rd w 3 A row.length (vcl row)) (nl : row.length ≤ 9223372036854775807) :
    Calls Tryz.prog 59 #[.slice A row.length c, .int .i64 i] w fun e w' => e = .returned (vag (atV row i)) ∧ Ext w w' := by
  by_cases h1 : i < 0
  · rw [atV_neg h1]
    go_enter Tryz.func59, Tryz.ntmps59
    go_wp2_with (go_at_call 36; refine (rnull_any _).mono ?_; rintro e w1 ⟨rfl, hb1⟩; obtain ⟨x1, rfl⟩ := hb1.get; clear hb1)
    refine bodyPost_ret (v := vag nullV) ?_ rfl ⟨rfl, by repeat (first | exact Ext.refl' _ | assumption | apply Ext.ex' | apply Ext.al | apply Ext.drN | apply Ext.dr)⟩
    simp [results, Tryz.results59, go_sem, nullV, ↓IntWalk.iteOmega]
  · by_cases h2 : (row.length : Int) ≤ i
    · rw [atV_hi h2]
      go_enter Tryz.func59, Tryz.ntmps59
      go_wp2_with (go_at_call 36; refine (rnull_any _).mono ?_; rintro e w1 ⟨rfl, hb1⟩; obtain ⟨x1, rfl⟩ := hb1.get; clear hb1)
      refine bodyPost_ret (v := vag nullV) ?_ rfl ⟨rfl, by repeat (first | exact Ext.refl' _ | assumption | apply Ext.ex' | apply Ext.al | apply Ext.drN | apply Ext.dr)⟩
      simp [results, Tryz.results59, go_sem, nullV, ↓IntWalk.iteOmega]
    · obtain ⟨k, rfl⟩ : ∃ k : Nat, i = (k : Int) := ⟨i.toNat, by omega⟩
      have hk : k < row.length := by omega
      rw [atV_in hk]
      obtain ⟨g, o, rfl, hg, c0, c1, c2⟩ := hA.val hk
      generalize row[k] = v at c0 c1 c2 ⊢
      go_enter Tryz.func59, Tryz.ntmps59
      go_wp2
      refine bodyPost_ret (v := vag v) ?_ rfl ⟨rfl, by repeat (first | exact Ext.refl' _ | assumption | apply Ext.ex' | apply Ext.al | apply Ext.drN | apply Ext.dr)⟩
      simp [results, Tryz.results59, go_sem, ↓IntWalk.iteOmega]


theorem own_litv (W : World) (e size : Nat) {b : Nat} (hb : b = W.heap.size) : (W.alloc (.cells #[] e)).ownsRow W.heap.size e size (.slice (some ⟨b, 0, none⟩) 0 0) 0 [] := by
  subst hb
  exact ⟨by simp, .inr ⟨W.heap.size, 0, #[], rfl, by omega, heap_alloc_new _ _, Nat.le_refl _, Nat.zero_le _, by simp, by simp⟩⟩


set_option maxHeartbeats 2000000 in
theorem tpick_any (A L : Option Addr) (c d : Nat) (row : List Va) (l : List Int) (w : World) (hA : Rd w 3 A row.length (vcl row)) (hL : Rd w 1 L l.length (ic l)) (na : row.length ≤ 9223372036854775807) (nl : l.length ≤ 1048576) :
    Calls Tryz.prog 106 #[.slice A row.length c, .slice L l.length d] w fun e w' => ∃ B q, e = .returned (.slice B l.length q) ∧ Ext w w' ∧ l.length ≤ q ∧ Rd w' 3 B l.length (vcl (l.map (atV row))) := by
  go_enter Tryz.func106, Tryz.ntmps106
  go_wp2_with (at_make; refine wpList_mk _ rfl _ _ rfl elVal3 w (by repeat (first | exact Ext.refl' _ | assumption | apply Ext.ex' | apply Ext.al | apply Ext.drN | apply Ext.dr)) .i64 .i64 _ l.length rfl rfl rfl (by omega) (by unfold maxLen; omega) ?_; intro x0 hown0)
  go_loopw [5, 13] (fun s5 s6 wr => ∃ (k : Nat) (acc : List Va) (x : Add), k ≤ l.length ∧ acc.length ≤ k ∧ s6 = .int .i64 k ∧ Hid (l.map (atV row) = acc ++ (l.drop k).map (atV row)) ∧ wr = ext w x ∧ Own w x 29 3 s5 acc.length (vcl acc)) (fun _ s6 _ => l.length - (intOf s6).toNat)
  case atStart =>
    exact ⟨0, [], x0, by omega, by simp, rfl, Lib.hid (by simp), rfl, hown0⟩
  case round =>
    obtain ⟨k, acc, x, hk, hal, rfl, HC, rfl, hown⟩ := hrel
    by_cases hlt : k < l.length
    · obtain ⟨g, oo, rfl, hg, c0⟩ := hL.int hlt
      have HD : Hid (l.map (atV row) = acc ++ [atV row l[k]] ++ (l.drop (k + 1)).map (atV row)) := Lib.hid (by rw [HC.out, List.drop_eq_getElem_cons hlt, List.map_cons, List.append_assoc]; rfl)
      generalize l[k] = i at c0 HD
      have HAT := Lib.hid (fun w h => tat_any A c row i w h na)
      generalize atV row i = v at HD HAT
      clear HC
      go_wp2_with (first | (go_at_call 109; refine (HAT.out _ (hA.ext (by repeat (first | exact Ext.refl' _ | assumption | apply Ext.ex' | apply Ext.al | apply Ext.drN | apply Ext.dr)))).mono ?_; rintro e w1 ⟨rfl, hb1⟩; obtain ⟨x1, rfl⟩ := hb1.get; clear hb1) | (at_builtin; refine wpList_app _ rfl (.tmp 17) (.tmp 21) rfl elVal3 w (by repeat (first | exact Ext.refl' _ | assumption | apply Ext.ex' | apply Ext.al | apply Ext.drN | apply Ext.dr)) _ _ _ rfl (by repeat (first | exact hown | apply World.ownsRow.alloc | apply own_ext)) _ 1 1 [.int .i64 v.k, .int .i64 v.i, .string v.t] rfl (Rd.lit _ _ _ 1 3 rfl (by simp [size_ext])) (oneCell_vcl [v]) (by unfold maxLen; omega) (by omega) ?_; intro v' x' hown' _; have HOWN := Lib.hid hown'; clear hown'))
      go_roundw
      case rel => exact ⟨k + 1, acc ++ [v], x', by omega, by simp; omega, by go_num, HD, rfl, by rw [vcl_append, List.length_append]; exact HOWN.out⟩
      case measure => simp [intOf]; omega
    · have H0 : Hid (l.map (atV row) = acc) := Lib.hid (by rw [HC.out, List.drop_eq_nil_of_le (Nat.le_of_not_lt hlt)]; simp)
      have hln : acc.length = l.length := by have := congrArg List.length H0.out; simp at this; omega
      obtain ⟨A7, c7, rfl, hq, _⟩ := Own.form hown
      go_wp2
      go_ret
      exact ⟨A7, c7, by rw [hln]; rfl, Ext.ex _ _, by omega, by rw [H0.out, ← hln]; exact Rd.of_own hown⟩


set_option maxHeartbeats 800000 in
theorem tkey_any (s0 : ByteArray) (a1 a3 a4 K : Option Addr) (n1 m1 n3 m3 n4 m4 kc : Nat) (ks : List Int) (A : Option Addr) (c : Nat) (row : List Va) (w : World) (hA : Rd w 3 A row.length (vcl row)) (hK : Rd w 1 K ks.length (ic ks)) (na : row.length ≤ 9223372036854775807) (nk : ks.length ≤ 1048576) :
    Calls Tryz.prog 104 #[.agg #[.string s0, .slice a1 n1 m1, .slice K ks.length kc, .slice a3 n3 m3, .slice a4 n4 m4], .slice A row.length c] w fun e w' => ∃ B q, e = .returned (.slice B ks.length q) ∧ Ext w w' ∧ ks.length ≤ q ∧ Rd w' 3 B ks.length (vcl (ks.map (atV row))) := by
  have H := Lib.hid (fun w h1 h2 => tpick_any A K c kc row ks w h1 h2 na nk)
  go_enter Tryz.func104, Tryz.ntmps104
  go_wp2_with fail
  refine Calls.mono (H.out _ (hA.ext (by repeat (first | exact Ext.refl' _ | assumption | apply Ext.ex' | apply Ext.al | apply Ext.drN | apply Ext.dr))) (hK.ext (by repeat (first | exact Ext.refl' _ | assumption | apply Ext.ex' | apply Ext.al | apply Ext.drN | apply Ext.dr)))) ?_
  rintro e w1 ⟨B, q, rfl, hb1, hq, hR⟩
  obtain ⟨x1, rfl⟩ := hb1.get
  clear hb1
  go_wp2
  go_ret
  exact ⟨B, q, rfl, by repeat (first | exact Ext.refl' _ | assumption | apply Ext.ex' | apply Ext.al | apply Ext.drN | apply Ext.dr), hq, hR⟩


end Go.Proofs.YtflhikpihbenaaaGreat
