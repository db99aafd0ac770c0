/- The contracts of retention: Lost, Horizon; the reference: Lost, In, Keep, Rectangles, Large. -/
import Derived.Test.YtimhehnmmjgeaaaGreatDoorRtB
set_option linter.unusedSimpArgs false
set_option linter.unusedVariables false
namespace Go.Proofs.YtimhehnmmjgeaaaGreatDoor
open Go.RowKit

set_option maxHeartbeats 800000 in
theorem rects_any (A B : Option Addr) (c d : Nat) (l m : List Rct) (w : World) (hA : Rd w 4 A l.length (rcl l)) (hB : Rd w 4 B m.length (rcl m)) (hl : l.length ≤ 9223372036854775807) (hm : m.length ≤ 9223372036854775807) :
    Calls Tryz.prog 9 #[.slice A l.length c, .slice B m.length d] w fun e w' => e = .returned (.bool (decide (l = m))) ∧ Ext w w' := by
  go_enter Tryz.func9, Tryz.ntmps9
  by_cases hn : l.length = m.length
  · have hb : ((l.length : Int) != (m.length : Int)) = false := by simp [hn]
    have HN := Lib.hid hn
    clear hn
    go_wp2
    go_loopw [5] (fun i wr => ∃ k : Nat, k ≤ l.length ∧ i = .int .i64 k ∧ Hid (l.take k = m.take k) ∧ Ext w wr) (fun i _ => l.length - (intOf i).toNat)
    case atStart => exact ⟨0, Nat.zero_le _, rfl, Lib.hid (by simp), Ext.refl' _⟩
    case round =>
      obtain ⟨k, hk, rfl, HT, hext⟩ := hrel
      obtain ⟨x, rfl⟩ := hext.get
      clear hext
      by_cases hlt : k < l.length
      · obtain ⟨b, o, rfl, hb, hc1, hc2, hc3, hc4⟩ := hA.rect hlt
        have hlt' : k < m.length := by have := HN.out; omega
        obtain ⟨b', o', rfl, hb', hd1, hd2, hd3, hd4⟩ := hB.rect hlt'
        by_cases heq : l[k] = m[k]
        · have HE := Lib.hid (take_succ_eq hlt hlt' HT.out heq)
          have hdq : decide (l[k] = m[k]) = true := by simp [heq]
          clear heq
          generalize l[k] = p at hc1 hc2 hc3 hc4 hdq
          generalize m[k] = q at hd1 hd2 hd3 hd4 hdq
          go_wp2
          go_quiet (fail)
          go_wp2
          go_roundw
          case rel => exact ⟨k + 1, by omega, by go_num, HE, by repeat (first | exact Ext.refl' _ | assumption | apply Ext.ex' | apply Ext.al | apply Ext.drN | apply Ext.dr)⟩
          case measure => simp [intOf]; omega
        · have HE := Lib.hid (take_ne hlt hlt' heq)
          have hdq : decide (l[k] = m[k]) = false := by simp [heq]
          clear heq
          generalize l[k] = p at hc1 hc2 hc3 hc4 hdq
          generalize m[k] = q at hd1 hd2 hd3 hd4 hdq
          go_wp2
          go_quiet (fail)
          go_wp2
          go_ret
          exact ⟨by simp [HE.out], by repeat (first | exact Ext.refl' _ | assumption | apply Ext.ex' | apply Ext.al | apply Ext.drN | apply Ext.dr)⟩
      · go_wp2
        go_ret
        exact ⟨by rw [eq_of_takes HN.out hlt HT.out]; simp, Ext.ex _ _⟩
  · have hb : ((l.length : Int) != (m.length : Int)) = true := by simp; omega
    have hlm : decide (l = m) = false := by simp; rintro rfl; exact hn rfl
    rw [hlm]
    clear hn hlm
    go_wp2
    go_ret
    exact ⟨rfl, Ext.refl' _⟩

/-- the cells of versions -/
def verc (l : List Ver) : List Value := l.flatMap encV
theorem verc_length (l : List Ver) : (verc l).length = l.length * 9 := flatMap_len _ 9 (fun _ => rfl) l
theorem verc_append (a b : List Ver) : verc (a ++ b) = verc a ++ verc b := by simp [verc]
theorem oneCell_encV (v : Ver) : ∀ u ∈ encV v, u.oneCell' = true := by
  intro u hu; simp [encV] at hu; rcases hu with rfl | rfl | rfl | rfl | rfl | rfl | rfl | rfl | rfl <;> rfl
theorem oneCell_verc (l : List Ver) : ∀ u ∈ verc l, u.oneCell' = true := by
  intro u hu; obtain ⟨v, _, hv⟩ := List.mem_flatMap.1 hu; exact oneCell_encV v u hv
theorem Rd.ver {w : World} {A : Option Addr} {l : List Ver} (h : Rd w 9 A l.length (verc l)) {k : Nat} (hk : k < l.length) :
    ∃ b o, A = some ⟨b, o, none⟩ ∧ b < w.heap.size ∧ w.cell? ⟨b, o + k * 9, none⟩ = some (.int .i64 l[k].id) ∧ w.cell? ⟨b, o + k * 9 + 1, none⟩ = some (.int .i64 l[k].sch) ∧ w.cell? ⟨b, o + k * 9 + 2, none⟩ = some (.slice l[k].rA l[k].rn l[k].rc) ∧ w.cell? ⟨b, o + k * 9 + 3, none⟩ = some (.int .i64 l[k].r.1.1) ∧ w.cell? ⟨b, o + k * 9 + 4, none⟩ = some (.int .i64 l[k].r.1.2) ∧ w.cell? ⟨b, o + k * 9 + 5, none⟩ = some (.int .i64 l[k].r.2.1) ∧ w.cell? ⟨b, o + k * 9 + 6, none⟩ = some (.int .i64 l[k].r.2.2) ∧ w.cell? ⟨b, o + k * 9 + 7, none⟩ = some (.int .i64 l[k].by_) ∧ w.cell? ⟨b, o + k * 9 + 8, none⟩ = some (.int .i64 l[k].un) := by
  obtain ⟨b, o, hA, hb, hc⟩ := h.2 (by omega)
  have hg := fun j hj => flatMap_get encV 9 (fun _ => rfl) l k j hk hj
  exact ⟨b, o, hA, hb, hc _ _ (hg 0 (by omega)), hc _ _ (hg 1 (by omega)), hc _ _ (hg 2 (by omega)), hc _ _ (hg 3 (by omega)), hc _ _ (hg 4 (by omega)), hc _ _ (hg 5 (by omega)), hc _ _ (hg 6 (by omega)), hc _ _ (hg 7 (by omega)), hc _ _ (hg 8 (by omega))⟩
def rectsV (l : List Ver) : List Rct := l.map (·.r)
theorem rectsV_length (l : List Ver) : (rectsV l).length = l.length := by simp [rectsV]

theorem inR_cons (r : Rct) (l : List Rct) (v t : Int) : inR (r :: l) v t = (inR [r] v t || inR l v t) := by simp [inR]
theorem ret_i {a b : Int} (h : a = b) : Ending.returned (Value.int .i64 a) = .returned (.int .i64 b) := by rw [h]
theorem thorizon_any (now keep last : Int) (w : World) (h1 : -9223372036854775808 ≤ now) (h2 : now ≤ 9223372036854775807) (h3 : -9223372036854775808 ≤ keep) (h4 : keep ≤ 9223372036854775807) :
    Calls Tryz.prog 21 #[.int .i64 now, .int .i64 keep, .int .i64 last] w fun e w' => e = .returned (.int .i64 (horF now keep last)) ∧ w = w' := by
  rcases (show now < 0 ∨ (¬ now < 0 ∧ keep < 0) ∨ (0 ≤ now ∧ 0 ≤ keep) from by omega) with h | ⟨h, h'⟩ | ⟨h, h'⟩
  · have H : Hid (horF now keep last = max 0 last) := Lib.hid (by unfold horF; rw [if_pos (.inl h)])
    generalize horF now keep last = z at H ⊢
    go_enter Tryz.func21, Tryz.ntmps21
    go_wp2
    go_ret
    exact ⟨by rw [H.out]; rfl, rfl⟩
  · have H : Hid (horF now keep last = max 0 last) := Lib.hid (by unfold horF; rw [if_pos (.inr h')])
    generalize horF now keep last = z at H ⊢
    go_enter Tryz.func21, Tryz.ntmps21
    go_wp2
    go_ret
    exact ⟨by rw [H.out]; rfl, rfl⟩
  · have H : Hid (horF now keep last = max (max 0 last) (now - keep)) := Lib.hid (by unfold horF; rw [if_neg (by omega)])
    generalize horF now keep last = z at H ⊢
    have h5 : ¬ now < 0 := by omega
    have h6 : ¬ keep < 0 := by omega
    by_cases hl : 0 < last
    all_goals go_enter Tryz.func21, Tryz.ntmps21
    all_goals go_wp2
    all_goals go_ret
    all_goals exact ⟨by rw [H.out]; exact ret_i (by omega), rfl⟩

end Go.Proofs.YtimhehnmmjgeaaaGreatDoor
