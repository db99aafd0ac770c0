/- Packed trees: the contracts of the small functions of the program and of the reference. -/
import Derived.Test.YtahmkinppighkaaSpA
import Derived.Test.YtahmkinppighkaaCmp
import Derived.Test.YtahmkinppighkaaTrP
import Derived.Deep.RegionHeld3
set_option linter.unusedSimpArgs false
set_option linter.unusedVariables false
namespace Go.Proofs.Ytahmkinppighkaa
open Go.RowKit


abbrev rx (r : Rct) : Value := .agg #[.int .i64 r.1.1, .int .i64 r.1.2, .int .i64 r.2.1, .int .i64 r.2.2]
abbrev bxg (b : Bxs) : Value := .agg #[.int .i64 b.1.1.1, .int .i64 b.1.1.2, .int .i64 b.1.2.1, .int .i64 b.1.2.2, .int .i64 b.2]
def encX (b : Bxs) : List Value := [.int .i64 b.1.1.1, .int .i64 b.1.1.2, .int .i64 b.1.2.1, .int .i64 b.1.2.2, .int .i64 b.2]
def bxl (l : List Bxs) : List Value := l.flatMap encX
theorem fmX_len {α : Type} {enc : α → List Value} {k : Nat} (h : ∀ a, (enc a).length = k) : ∀ l : List α, (l.flatMap enc).length = l.length * k
  | [] => by simp
  | a :: l => by simp [h, fmX_len h l, Nat.add_mul]; omega
theorem fmX_get {α : Type} {enc : α → List Value} {k : Nat} (h : ∀ a, (enc a).length = k) : ∀ (l : List α) (i : Nat) (hi : i < l.length) (j : Nat), j < k → (l.flatMap enc)[i * k + j]? = (enc l[i])[j]?
  | [], i, hi, j, _ => by simp at hi
  | a :: l, 0, hi, j, hj => by
    rw [List.flatMap_cons, List.getElem?_append_left (by rw [h]; omega)]; simp
  | a :: l, i + 1, hi, j, hj => by
    rw [List.flatMap_cons, List.getElem?_append_right (by rw [h, Nat.add_mul]; omega)]
    have := fmX_get h l i (by simpa using hi) j hj
    rw [List.getElem_cons_succ, ← this]
    congr 1
    rw [h, Nat.add_mul]; omega
theorem bxl_length (l : List Bxs) : (bxl l).length = l.length * 5 := fmX_len (enc := encX) (k := 5) (fun _ => rfl) l
theorem bxl_append (a b : List Bxs) : bxl (a ++ b) = bxl a ++ bxl b := by simp [bxl]
theorem bxl_one (b : Bxs) : bxl [b] = encX b := by simp [bxl]
theorem oneCell_bxl (l : List Bxs) : ∀ u ∈ bxl l, u.oneCell' = true := by
  intro u hu
  unfold bxl at hu
  obtain ⟨r, _, h⟩ := List.mem_flatMap.1 hu
  simp [encX] at h
  rcases h with rfl | rfl | rfl | rfl | rfl <;> rfl
theorem bxl_get (l : List Bxs) (k : Nat) (h : k < l.length) : (bxl l)[k * 5]? = some (.int .i64 l[k].1.1.1) ∧ (bxl l)[k * 5 + 1]? = some (.int .i64 l[k].1.1.2) ∧ (bxl l)[k * 5 + 2]? = some (.int .i64 l[k].1.2.1) ∧ (bxl l)[k * 5 + 3]? = some (.int .i64 l[k].1.2.2) ∧ (bxl l)[k * 5 + 4]? = some (.int .i64 l[k].2) := by
  have f := fun j hj => fmX_get (enc := encX) (k := 5) (fun _ => rfl) l k h j hj
  exact ⟨f 0 (by omega), f 1 (by omega), f 2 (by omega), f 3 (by omega), f 4 (by omega)⟩
theorem Rd.box {w : World} {A : Option Addr} {l : List Bxs} {n : Nat} (h : Rd w 5 A n (bxl l)) (hn : n = l.length) {k : Nat} (hk : k < l.length) :
    ∃ b o, A = some ⟨b, o, none⟩ ∧ b < w.heap.size ∧ w.cell? ⟨b, o + k * 5, none⟩ = some (.int .i64 l[k].1.1.1) ∧ w.cell? ⟨b, o + k * 5 + 1, none⟩ = some (.int .i64 l[k].1.1.2) ∧ w.cell? ⟨b, o + k * 5 + 2, none⟩ = some (.int .i64 l[k].1.2.1) ∧ w.cell? ⟨b, o + k * 5 + 3, none⟩ = some (.int .i64 l[k].1.2.2) ∧ w.cell? ⟨b, o + k * 5 + 4, none⟩ = some (.int .i64 l[k].2) := by
  obtain ⟨b, o, hA, hb, hc⟩ := h.2 (by omega)
  obtain ⟨h1, h2, h3, h4, h5⟩ := bxl_get l k hk
  exact ⟨b, o, hA, hb, hc _ _ h1, hc _ _ h2, hc _ _ h3, hc _ _ h4, hc _ _ h5⟩
theorem elBox : El Try.prog 39 52 (.agg #[.int .i64 0, .int .i64 0, .int .i64 0, .int .i64 0, .int .i64 0]) 5 40 := ⟨Try.underlying39, info_parts (by kernel_rfl), rfl, by decide⟩

/-! the program -/
theorem sign_any (a b : Int) (w : World) : Calls Try.prog 90 #[.int .i64 a, .int .i64 b] w fun e w' => e = .returned (.int .i64 (cmpI a b)) ∧ w' = w := by
  go_enter Try.func90, Try.ntmps90
  go_wp2
  all_goals go_ret
  all_goals refine ⟨?_, rfl⟩
  all_goals refine congrArg (fun z => Ending.returned (Value.int .i64 z)) ?_
  all_goals unfold cmpI
  all_goals (repeat' split) <;> first | rfl | omega
def pcmpI (p q : Int × Int) : Int := if p.1 = q.1 then cmpI p.2 q.2 else cmpI p.1 q.1
theorem pcompare_any (p q : Int × Int) (w : World) : Calls Try.prog 64 #[pr p, pr q] w fun e w' => e = .returned (.int .i64 (pcmpI p q)) ∧ w' = (w.alloc (.cells #[.int .i64 p.1, .int .i64 p.2] 41)).alloc (.cells #[.int .i64 q.1, .int .i64 q.2] 41) := by
  by_cases h : p.1 = q.1
  · have hq : (p.1 != q.1) = false := by simp [h]
    have HE : Hid (pcmpI p q = cmpI p.2 q.2) := Lib.hid (by unfold pcmpI; rw [if_pos h])
    clear h
    go_enter Try.func64, Try.ntmps64
    go_wp2_with (go_at_call 90; (refine (sign_any _ _ _).mono ?_); rintro e w1 ⟨rfl, rfl⟩)
    go_ret
    exact ⟨by rw [HE.out]; rfl, rfl⟩
  · have hq : (p.1 != q.1) = true := by simp [h]
    have HE : Hid (pcmpI p q = cmpI p.1 q.1) := Lib.hid (by unfold pcmpI; rw [if_neg h])
    clear h
    go_enter Try.func64, Try.ntmps64
    go_wp2_with (go_at_call 90; (refine (sign_any _ _ _).mono ?_); rintro e w1 ⟨rfl, rfl⟩)
    go_ret
    exact ⟨by rw [HE.out]; rfl, rfl⟩
theorem poverlapsX_any (p q : Int × Int) (w : World) : Calls Try.prog 19 #[pr p, pr q] w fun e w' => e = .returned (.bool (povB p q)) ∧ Ext w w' := by
  go_enter Try.func19, Try.ntmps19
  go_wp2_with (go_at_call 35; refine (pvalid_any _ _).mono ?_; rintro e w1 ⟨rfl, hb1⟩; obtain ⟨x1, rfl⟩ := hb1.get; clear hb1)
  all_goals go_ret
  all_goals refine ⟨?_, by repeat (first | exact Ext.refl' _ | assumption | apply Ext.ex' | apply Ext.al | apply Ext.drN | apply Ext.dr)⟩
  all_goals simp_all [povB]
  all_goals omega
theorem ovlB_pov (a b : Rct) : ovlB a b = (rvB a && rvB b && povB a.1 b.1 && povB a.2 b.2) := by
  rw [Bool.eq_iff_iff, ovlB_iff]
  simp only [povB, rvB, Bool.and_eq_true, decide_eq_true_eq]
  constructor
  · rintro ⟨⟨a, b⟩, ⟨c, d⟩, e⟩; exact ⟨⟨⟨⟨a, b⟩, c, d⟩, ⟨⟨a, c⟩, by omega⟩, by omega⟩, ⟨⟨b, d⟩, by omega⟩, by omega⟩
  · rintro ⟨⟨⟨⟨a, b⟩, c, d⟩, ⟨⟨_, _⟩, _⟩, _⟩, ⟨⟨_, _⟩, _⟩, _⟩; exact ⟨⟨a, b⟩, ⟨c, d⟩, by omega⟩


set_option maxHeartbeats 400000 in
theorem gvalidX_any (r : Rct) (w : World) : Calls Try.prog 71 #[rx r] w fun e w' => e = .returned (.bool (rvB r)) ∧ Ext w w' := by
  have H1 := Lib.hid (fun w => pvalid_any r.1 w)
  have H2 := Lib.hid (fun w => pvalid_any r.2 w)
  have HR : Hid (rvB r = (pvB r.1 && pvB r.2)) := Lib.hid rfl
  rcases h1 : pvB r.1 with _ | _
  · rw [h1] at H1 HR
    go_enter Try.func71, Try.ntmps71
    go_wp2_with (go_at_call 35; refine Calls.mono (H1.out _) ?_; rintro e w1 ⟨rfl, hb1⟩; obtain ⟨x1, rfl⟩ := hb1.get; clear hb1)
    go_ret
    exact ⟨by rw [HR.out]; rfl, by repeat (first | exact Ext.refl' _ | assumption | apply Ext.ex' | apply Ext.al | apply Ext.drN | apply Ext.dr)⟩
  · rw [h1] at H1 HR
    generalize pvB r.2 = v2 at H2 HR
    go_enter Try.func71, Try.ntmps71
    go_wp2_with fail
    refine Calls.mono (H1.out _) ?_
    rintro e w1 ⟨rfl, hb1⟩
    obtain ⟨x1, rfl⟩ := hb1.get
    clear hb1
    go_wp2_with fail
    refine Calls.mono (H2.out _) ?_
    rintro e w1 ⟨rfl, hb1⟩
    obtain ⟨x2, rfl⟩ := hb1.get
    clear hb1
    go_wp2
    go_ret
    exact ⟨by rw [HR.out]; rfl, by repeat (first | exact Ext.refl' _ | assumption | apply Ext.ex' | apply Ext.al | apply Ext.drN | apply Ext.dr)⟩


set_option maxHeartbeats 400000 in
theorem tvalid_any (r : Rct) (w : World) : Calls Try.prog 61 #[rx r] w fun e w' => e = .returned (.bool (rvB r)) ∧ Ext w w' := by
  have H1 := Lib.hid (fun w => pvalid_any r.1 w)
  have H2 := Lib.hid (fun w => pvalid_any r.2 w)
  have HR : Hid (rvB r = (pvB r.1 && pvB r.2)) := Lib.hid rfl
  rcases h1 : pvB r.1 with _ | _
  · rw [h1] at H1 HR
    go_enter Try.func61, Try.ntmps61
    go_wp2_with (go_at_call 35; refine Calls.mono (H1.out _) ?_; rintro e w1 ⟨rfl, hb1⟩; obtain ⟨x1, rfl⟩ := hb1.get; clear hb1)
    go_ret
    exact ⟨by rw [HR.out]; rfl, by repeat (first | exact Ext.refl' _ | assumption | apply Ext.ex' | apply Ext.al | apply Ext.drN | apply Ext.dr)⟩
  · rw [h1] at H1 HR
    generalize pvB r.2 = v2 at H2 HR
    go_enter Try.func61, Try.ntmps61
    go_wp2_with fail
    refine Calls.mono (H1.out _) ?_
    rintro e w1 ⟨rfl, hb1⟩
    obtain ⟨x1, rfl⟩ := hb1.get
    clear hb1
    go_wp2_with fail
    refine Calls.mono (H2.out _) ?_
    rintro e w1 ⟨rfl, hb1⟩
    obtain ⟨x2, rfl⟩ := hb1.get
    clear hb1
    go_wp2
    go_ret
    exact ⟨by rw [HR.out]; rfl, by repeat (first | exact Ext.refl' _ | assumption | apply Ext.ex' | apply Ext.al | apply Ext.drN | apply Ext.dr)⟩


set_option maxHeartbeats 800000 in
theorem overlapsX_any (a b : Rct) (w : World) : Calls Try.prog 48 #[rx a, rx b] w fun e w' => e = .returned (.bool (ovlB a b)) ∧ Ext w w' := by
  have HO : Hid (ovlB a b = (rvB a && rvB b && povB a.1 b.1 && povB a.2 b.2)) := Lib.hid (ovlB_pov a b)
  have H1 := Lib.hid (fun w => gvalidX_any a w)
  have H2 := Lib.hid (fun w => gvalidX_any b w)
  have H3 := Lib.hid (fun w => poverlapsX_any a.1 b.1 w)
  have H4 := Lib.hid (fun w => poverlapsX_any a.2 b.2 w)
  rcases h1 : rvB a with _ | _
  · rw [h1] at H1
    have HE : Hid (ovlB a b = false) := Lib.hid (by rw [HO.out, h1]; rfl)
    go_enter Try.func48, Try.ntmps48
    go_wp2_with (first | (go_at_call 71; (with_reducible refine Calls.mono (H1.out _) ?_); rintro e w1 ⟨rfl, hb1⟩; obtain ⟨y1, rfl⟩ := hb1.get; clear hb1) | (go_at_call 71; (with_reducible refine Calls.mono (H2.out _) ?_); rintro e w1 ⟨rfl, hb1⟩; obtain ⟨y2, rfl⟩ := hb1.get; clear hb1) | (go_at_call 19; (with_reducible refine Calls.mono (H3.out _) ?_); rintro e w1 ⟨rfl, hb1⟩; obtain ⟨y3, rfl⟩ := hb1.get; clear hb1) | (go_at_call 19; (with_reducible refine Calls.mono (H4.out _) ?_); rintro e w1 ⟨rfl, hb1⟩; obtain ⟨y4, rfl⟩ := hb1.get; clear hb1))
    go_ret
    exact ⟨by rw [HE.out]; rfl, by repeat (first | exact Ext.refl' _ | assumption | apply Ext.ex' | apply Ext.al | apply Ext.drN | apply Ext.dr)⟩
  · rw [h1] at H1
    rcases h2 : rvB b with _ | _
    · rw [h2] at H2
      have HE : Hid (ovlB a b = false) := Lib.hid (by rw [HO.out, h1, h2]; rfl)
      go_enter Try.func48, Try.ntmps48
      go_wp2_with (first | (go_at_call 71; (with_reducible refine Calls.mono (H1.out _) ?_); rintro e w1 ⟨rfl, hb1⟩; obtain ⟨y1, rfl⟩ := hb1.get; clear hb1) | (go_at_call 71; (with_reducible refine Calls.mono (H2.out _) ?_); rintro e w1 ⟨rfl, hb1⟩; obtain ⟨y2, rfl⟩ := hb1.get; clear hb1) | (go_at_call 19; (with_reducible refine Calls.mono (H3.out _) ?_); rintro e w1 ⟨rfl, hb1⟩; obtain ⟨y3, rfl⟩ := hb1.get; clear hb1) | (go_at_call 19; (with_reducible refine Calls.mono (H4.out _) ?_); rintro e w1 ⟨rfl, hb1⟩; obtain ⟨y4, rfl⟩ := hb1.get; clear hb1))
      go_ret
      exact ⟨by rw [HE.out]; rfl, by repeat (first | exact Ext.refl' _ | assumption | apply Ext.ex' | apply Ext.al | apply Ext.drN | apply Ext.dr)⟩
    · rw [h2] at H2
      rcases h3 : povB a.1 b.1 with _ | _
      · rw [h3] at H3
        have HE : Hid (ovlB a b = false) := Lib.hid (by rw [HO.out, h1, h2, h3]; rfl)
        go_enter Try.func48, Try.ntmps48
        go_wp2_with (first | (go_at_call 71; (with_reducible refine Calls.mono (H1.out _) ?_); rintro e w1 ⟨rfl, hb1⟩; obtain ⟨y1, rfl⟩ := hb1.get; clear hb1) | (go_at_call 71; (with_reducible refine Calls.mono (H2.out _) ?_); rintro e w1 ⟨rfl, hb1⟩; obtain ⟨y2, rfl⟩ := hb1.get; clear hb1) | (go_at_call 19; (with_reducible refine Calls.mono (H3.out _) ?_); rintro e w1 ⟨rfl, hb1⟩; obtain ⟨y3, rfl⟩ := hb1.get; clear hb1) | (go_at_call 19; (with_reducible refine Calls.mono (H4.out _) ?_); rintro e w1 ⟨rfl, hb1⟩; obtain ⟨y4, rfl⟩ := hb1.get; clear hb1))
        go_ret
        exact ⟨by rw [HE.out]; rfl, by repeat (first | exact Ext.refl' _ | assumption | apply Ext.ex' | apply Ext.al | apply Ext.drN | apply Ext.dr)⟩
      · rw [h3] at H3
        rcases h4 : povB a.2 b.2 with _ | _
        · rw [h4] at H4
          have HE : Hid (ovlB a b = false) := Lib.hid (by rw [HO.out, h1, h2, h3, h4]; rfl)
          go_enter Try.func48, Try.ntmps48
          go_wp2_with (first | (go_at_call 71; (with_reducible refine Calls.mono (H1.out _) ?_); rintro e w1 ⟨rfl, hb1⟩; obtain ⟨y1, rfl⟩ := hb1.get; clear hb1) | (go_at_call 71; (with_reducible refine Calls.mono (H2.out _) ?_); rintro e w1 ⟨rfl, hb1⟩; obtain ⟨y2, rfl⟩ := hb1.get; clear hb1) | (go_at_call 19; (with_reducible refine Calls.mono (H3.out _) ?_); rintro e w1 ⟨rfl, hb1⟩; obtain ⟨y3, rfl⟩ := hb1.get; clear hb1) | (go_at_call 19; (with_reducible refine Calls.mono (H4.out _) ?_); rintro e w1 ⟨rfl, hb1⟩; obtain ⟨y4, rfl⟩ := hb1.get; clear hb1))
          go_ret
          exact ⟨by rw [HE.out]; rfl, by repeat (first | exact Ext.refl' _ | assumption | apply Ext.ex' | apply Ext.al | apply Ext.drN | apply Ext.dr)⟩
        · rw [h4] at H4
          have HE : Hid (ovlB a b = true) := Lib.hid (by rw [HO.out, h1, h2, h3, h4]; rfl)
          go_enter Try.func48, Try.ntmps48
          go_wp2_with (first | (go_at_call 71; (with_reducible refine Calls.mono (H1.out _) ?_); rintro e w1 ⟨rfl, hb1⟩; obtain ⟨y1, rfl⟩ := hb1.get; clear hb1) | (go_at_call 71; (with_reducible refine Calls.mono (H2.out _) ?_); rintro e w1 ⟨rfl, hb1⟩; obtain ⟨y2, rfl⟩ := hb1.get; clear hb1) | (go_at_call 19; (with_reducible refine Calls.mono (H3.out _) ?_); rintro e w1 ⟨rfl, hb1⟩; obtain ⟨y3, rfl⟩ := hb1.get; clear hb1) | (go_at_call 19; (with_reducible refine Calls.mono (H4.out _) ?_); rintro e w1 ⟨rfl, hb1⟩; obtain ⟨y4, rfl⟩ := hb1.get; clear hb1))
          go_ret
          exact ⟨by rw [HE.out]; rfl, by repeat (first | exact Ext.refl' _ | assumption | apply Ext.ex' | apply Ext.al | apply Ext.drN | apply Ext.dr)⟩
theorem hull_any (p q : Int × Int) (w : World) : Calls Try.prog 92 #[pr p, pr q] w fun e w' => e = .returned (pr (min p.1 q.1, max p.2 q.2)) ∧ Ext w w' := by
  go_enter Try.func92, Try.ntmps92
  go_wp2
  all_goals refine bodyPost_ret (v := pr (min p.1 q.1, max p.2 q.2)) ?_ rfl ⟨rfl, by repeat (first | exact Ext.refl' _ | assumption | apply Ext.ex' | apply Ext.al | apply Ext.drN | apply Ext.dr)⟩
  all_goals simp [results, Try.results92, go_sem, ↓IntWalk.iteOmega]
  all_goals (first | done | omega | (and_intros <;> omega))
end Go.Proofs.Ytahmkinppighkaa
