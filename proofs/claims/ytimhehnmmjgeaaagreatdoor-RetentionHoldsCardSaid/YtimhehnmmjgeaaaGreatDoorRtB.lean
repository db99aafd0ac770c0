/- The contracts of retention: Complete, Lost, Horizon; the reference: Complete, Lost, In, Keep, Horizon, Rectangles, Large. -/
import Derived.Test.YtimhehnmmjgeaaaGreatDoorRtA
set_option linter.unusedSimpArgs false
set_option linter.unusedVariables false
namespace Go.Proofs.YtimhehnmmjgeaaaGreatDoor
open Go.RowKit


def cmpB (h : Int) (l : List Rct) (r : Rct) : Bool := rvB r && decide ((regF subK [r] (keepF h l)).length = 0)
theorem cmpB_kept (h : Int) (l : List Rct) (r : Rct) : (rvB r && decide ((regF subK [r] (regF ofK (keptF h l) [])).length = 0)) = cmpB h l r := by
  unfold cmpB; rw [lost_eq h l [r] [r] fun _ _ => rfl]


set_option maxHeartbeats 2000000 in
theorem tcomplete_any (h : Int) (L : Option Addr) (cl : Nat) (l : List Rct) (r : Rct) (w : World) (hl : Rd w 4 L l.length (rcl l)) (nl : l.length ≤ 12) :
    Calls Tryz.prog 22 #[.int .i64 h, .slice L l.length cl, rr r] w fun e w' => e = .returned (.bool (cmpB h l r)) ∧ Ext w w' := by
  have HV := Lib.hid (fun w => tvalid_any r w)
  have HK := Lib.hid (fun w h1 => tkeep_any h L cl l w h1 (by omega))
  have hkl : (keepF h l).length ≤ 50000 := by rw [keepF_length]; omega
  have HC : Hid (cmpB h l r = (rvB r && decide ((regF subK [r] (keepF h l)).length = 0))) := Lib.hid (rfl)
  generalize cmpB h l r = c at HC ⊢
  rcases hv : rvB r with _ | _
  · have H0 : Hid (c = false) := Lib.hid (by rw [HC.out, hv, Bool.false_and])
    rw [hv] at HV
    clear HC hv hkl
    go_enter Tryz.func22, Tryz.ntmps22
    go_wp2_with fail
    refine wp_region_held_drew (S := (fun w' => w'.cell? ⟨w.heap.size, 0, none⟩ = some (.int .i64 r.1.1) ∧ w'.cell? ⟨w.heap.size, 1, none⟩ = some (.int .i64 r.1.2) ∧ w'.cell? ⟨w.heap.size, 2, none⟩ = some (.int .i64 r.2.1) ∧ w'.cell? ⟨w.heap.size, 3, none⟩ = some (.int .i64 r.2.2))) (by kernel_rfl) (by simp [go_sem, ↓IntWalk.iteOmega, *]) (fun hHeld => ?_)
    refine wpAnyH_take (i := 0) (oi := ?oi0) (v := ?v0) ?hi0 (by kernel_rfl) (by kernel_rfl) (by kernel_rfl) ?hQ0 ?hy0 (by assumption) ?_
    case hi0 => (simp only [List.getElem?_toArray, List.getElem?_cons_succ, List.getElem?_cons_zero]; rfl)
    case hQ0 => exact fun _ _ _ h => h
    case hy0 => (refine Or.inl ⟨by rfl, ?_⟩; intro wq hSw; (try dsimp only at hSw); go_simp; (try with_reducible rfl))
    (try simp only [Act.put, List.setIfInBounds_toArray, List.set_cons_zero, List.set_cons_succ])
    refine wpAnyH_ready (rs := [1]) (by kernel_rfl) (by simp) ?_
    refine AllReadyH.cons (o := ?oi1) ?hi1 (fun K hK => ?_) AllReadyH.nil
    case hi1 => (simp only [List.getElem?_toArray, List.getElem?_cons_succ, List.getElem?_cons_zero]; rfl)
    go_simp
    (refine (HV.out _).mono ?_; rintro e w1 ⟨rfl, hb1⟩; obtain ⟨xv, rfl⟩ := hb1.get; clear hb1)
    refine hK.out _ _ (by simp [go_sem, ↓IntWalk.iteOmega, *]) (fun hHeld2 => ?_)
    clear hHeld hK K; have hHeld := hHeld2; clear hHeld2
    (try simp only [Act.put, List.setIfInBounds_toArray, List.set_cons_zero, List.set_cons_succ])
    refine wpAnyH_take (i := 2) (oi := ?oi2) (v := ?v2) ?hi2 (by kernel_rfl) (by kernel_rfl) (by kernel_rfl) ?hQ2 ?hy2 (by assumption) ?_
    case hi2 => (simp only [List.getElem?_toArray, List.getElem?_cons_succ, List.getElem?_cons_zero]; rfl)
    case hQ2 => exact fun _ _ _ h => h
    case hy2 => (refine Or.inl ⟨by rfl, ?_⟩; intro wq hSw; (try dsimp only at hSw); go_simp; (try with_reducible rfl))
    (try simp only [Act.put, List.setIfInBounds_toArray, List.set_cons_zero, List.set_cons_succ])
    refine wpAnyH_take (i := 3) (oi := ?oi3) (v := undef) ?hi3 (by kernel_rfl) (by kernel_rfl) (by kernel_rfl) ?hQ3 ?hy3 (by assumption) ?_
    case hi3 => (simp only [List.getElem?_toArray, List.getElem?_cons_succ, List.getElem?_cons_zero]; rfl)
    case hQ3 => exact fun _ _ _ h => h
    case hy3 => exact Or.inr ⟨by rfl, rfl⟩
    (try simp only [Act.put, List.setIfInBounds_toArray, List.set_cons_zero, List.set_cons_succ])
    refine wpAnyH_take (i := 4) (oi := ?oi4) (v := undef) ?hi4 (by kernel_rfl) (by kernel_rfl) (by kernel_rfl) ?hQ4 ?hy4 (by assumption) ?_
    case hi4 => (simp only [List.getElem?_toArray, List.getElem?_cons_succ, List.getElem?_cons_zero]; rfl)
    case hQ4 => exact fun _ _ _ h => h
    case hy4 => exact Or.inr ⟨by rfl, rfl⟩
    (try simp only [Act.put, List.setIfInBounds_toArray, List.set_cons_zero, List.set_cons_succ])
    refine wpAnyH_take (i := 5) (oi := ?oi5) (v := undef) ?hi5 (by kernel_rfl) (by kernel_rfl) (by kernel_rfl) ?hQ5 ?hy5 (by assumption) ?_
    case hi5 => (simp only [List.getElem?_toArray, List.getElem?_cons_succ, List.getElem?_cons_zero]; rfl)
    case hQ5 => exact fun _ _ _ h => h
    case hy5 => exact Or.inr ⟨by rfl, rfl⟩
    (try simp only [Act.put, List.setIfInBounds_toArray, List.set_cons_zero, List.set_cons_succ])
    refine wpAnyH_take (i := 6) (oi := ?oi6) (v := undef) ?hi6 (by kernel_rfl) (by kernel_rfl) (by kernel_rfl) ?hQ6 ?hy6 (by assumption) ?_
    case hi6 => (simp only [List.getElem?_toArray, List.getElem?_cons_succ, List.getElem?_cons_zero]; rfl)
    case hQ6 => exact fun _ _ _ h => h
    case hy6 => exact Or.inr ⟨by rfl, rfl⟩
    (try simp only [Act.put, List.setIfInBounds_toArray, List.set_cons_zero, List.set_cons_succ])
    refine wpAnyH_take (i := 7) (oi := ?oi7) (v := undef) ?hi7 (by kernel_rfl) (by kernel_rfl) (by kernel_rfl) ?hQ7 ?hy7 (by assumption) ?_
    case hi7 => (simp only [List.getElem?_toArray, List.getElem?_cons_succ, List.getElem?_cons_zero]; rfl)
    case hQ7 => exact fun _ _ _ h => h
    case hy7 => exact Or.inr ⟨by rfl, rfl⟩
    (try simp only [Act.put, List.setIfInBounds_toArray, List.set_cons_zero, List.set_cons_succ])
    refine wpAnyH_take (i := 8) (oi := ?oi8) (v := undef) ?hi8 (by kernel_rfl) (by kernel_rfl) (by kernel_rfl) ?hQ8 ?hy8 (by assumption) ?_
    case hi8 => (simp only [List.getElem?_toArray, List.getElem?_cons_succ, List.getElem?_cons_zero]; rfl)
    case hQ8 => exact fun _ _ _ h => h
    case hy8 => exact Or.inr ⟨by rfl, rfl⟩
    (try simp only [Act.put, List.setIfInBounds_toArray, List.set_cons_zero, List.set_cons_succ])
    refine wpAnyH_take (i := 9) (oi := ?oi9) (v := undef) ?hi9 (by kernel_rfl) (by kernel_rfl) (by kernel_rfl) ?hQ9 ?hy9 (by assumption) ?_
    case hi9 => (simp only [List.getElem?_toArray, List.getElem?_cons_succ, List.getElem?_cons_zero]; rfl)
    case hQ9 => exact fun _ _ _ h => h
    case hy9 => exact Or.inr ⟨by rfl, rfl⟩
    (try simp only [Act.put, List.setIfInBounds_toArray, List.set_cons_zero, List.set_cons_succ])
    refine wpAnyH_take (i := 10) (oi := ?oi10) (v := undef) ?hi10 (by kernel_rfl) (by kernel_rfl) (by kernel_rfl) ?hQ10 ?hy10 (by assumption) ?_
    case hi10 => (simp only [List.getElem?_toArray, List.getElem?_cons_succ, List.getElem?_cons_zero]; rfl)
    case hQ10 => exact fun _ _ _ h => h
    case hy10 => exact Or.inr ⟨by rfl, rfl⟩
    (try simp only [Act.put, List.setIfInBounds_toArray, List.set_cons_zero, List.set_cons_succ])
    refine wpAnyH_take (i := 11) (oi := ?oi11) (v := ?v11) ?hi11 (by kernel_rfl) (by kernel_rfl) (by kernel_rfl) ?hQ11 ?hy11 (by assumption) ?_
    case hi11 => (simp only [List.getElem?_toArray, List.getElem?_cons_succ, List.getElem?_cons_zero]; rfl)
    case hQ11 => exact fun _ _ _ h => h
    case hy11 => (refine Or.inl ⟨by rfl, ?_⟩; intro wq hSw; (try dsimp only at hSw); go_simp; (try with_reducible rfl))
    (try simp only [Act.put, List.setIfInBounds_toArray, List.set_cons_zero, List.set_cons_succ])
    refine wpAnyH_take (i := 12) (oi := ?oi12) (v := ?v12) ?hi12 (by kernel_rfl) (by kernel_rfl) (by kernel_rfl) ?hQ12 ?hy12 (by assumption) ?_
    case hi12 => (simp only [List.getElem?_toArray, List.getElem?_cons_succ, List.getElem?_cons_zero]; rfl)
    case hQ12 => exact fun _ _ _ h => h
    case hy12 => (refine Or.inl ⟨by rfl, ?_⟩; intro wq hSw; (try dsimp only at hSw); go_simp; (try with_reducible rfl))
    (try simp only [Act.put, List.setIfInBounds_toArray, List.set_cons_zero, List.set_cons_succ])
    refine wpAnyH_done (by kernel_rfl) ?_ _
    go_wp2
    go_ret
    exact ⟨by rw [H0.out]; rfl, by repeat (first | exact Ext.refl' _ | assumption | apply Ext.ex' | apply Ext.al | apply Ext.drN | apply Ext.dr)⟩
  · have HG := Lib.hid (fun A B ca cb w h1 h2 => gSubtract_any A B ca cb [r] (keepF h l) w h1 h2 (by simp) hkl)
    rw [hv, Bool.true_and] at HC
    rw [hv] at HV
    generalize (keepF h l) = kk at HC HK HG hkl
    generalize regF subK [r] kk = R at HC HG
    have hq : ((R.length : Int) == 0) = c := by rw [HC.out, Bool.eq_iff_iff]; simp
    clear HC hv
    go_enter Tryz.func22, Tryz.ntmps22
    go_wp2_with fail
    go_region_held3 (fun w' => w'.cell? ⟨w.heap.size, 0, none⟩ = some (.int .i64 r.1.1) ∧ w'.cell? ⟨w.heap.size, 1, none⟩ = some (.int .i64 r.1.2) ∧ w'.cell? ⟨w.heap.size, 2, none⟩ = some (.int .i64 r.2.1) ∧ w'.cell? ⟨w.heap.size, 3, none⟩ = some (.int .i64 r.2.2)) (simp [go_sem, ↓IntWalk.iteOmega, *]) (first | (go_at_call 17; refine (HV.out _).mono ?_; rintro e w1 ⟨rfl, hb1⟩; obtain ⟨xv, rfl⟩ := hb1.get; clear hb1) | (go_at_call 37; (refine (HK.out _ (hl.ext (by repeat (first | exact Ext.refl' _ | assumption | apply Ext.ex' | apply Ext.al | apply Ext.drN | apply Ext.dr)))).mono ?_); rintro e w1 ⟨vk, rfl, hb1, hok⟩; obtain ⟨xk, rfl⟩ := hb1.get; obtain ⟨Ak, ck, rfl, _, _⟩ := World.ownsRow.form' hok; have hRk := Rd.of_own hok; clear hb1 hok) | (go_at_call 38; (refine (HG.out _ _ _ _ _ (rd_rect _ _ r (by simp [go_sem, ↓IntWalk.iteOmega]) (by simp [go_sem, ↓IntWalk.iteOmega]) (by simp [go_sem, ↓IntWalk.iteOmega]) (by simp [go_sem, ↓IntWalk.iteOmega])) (hRk.ext (by repeat (first | exact Ext.refl' _ | assumption | apply Ext.ex' | apply Ext.al | apply Ext.drN | apply Ext.dr)))).mono ?_); rintro e w1 ⟨A3, c3, rfl, hb1, hR3⟩; obtain ⟨x3, rfl⟩ := hb1.get; clear hb1))
    all_goals go_wp2
    all_goals go_ret
    all_goals exact ⟨rfl, by repeat (first | exact Ext.refl' _ | assumption | apply Ext.ex' | apply Ext.al | apply Ext.drN | apply Ext.dr)⟩


end Go.Proofs.YtimhehnmmjgeaaaGreatDoor
