/- Packed trees: the law RtreeParts. -/
import Derived.Test.YtgobmiahhmajdaaTrX
import Derived.Test.YtgobmiahhmajdaaTrYp
import Derived.Deep.RegionHeld3
set_option linter.unusedSimpArgs false
set_option linter.unusedVariables false
namespace Go.Proofs.Ytgobmiahhmajdaa
open Go.RowKit


theorem mem_rsF {Lo : List Bxs} {q : Rct} {z : Int} : z ∈ rsF Lo q ↔ ∃ b ∈ Lo, ovlB b.1 q = true ∧ b.2 = z := by
  simp [rsF, mem_putsF, and_assoc]
theorem parts_iff {Lo : List Bxs} {q : Rct} {z m : Int} (hv : rvB q = true) (h1 : q.1.1 < m) (h2 : m < q.1.2) : z ∈ rsF Lo q ↔ z ∈ rsF Lo ((q.1.1, m), (q.2.1, q.2.2)) ∨ z ∈ rsF Lo ((m, q.1.2), (q.2.1, q.2.2)) := by
  rw [rvX_iff] at hv
  rw [mem_rsF, mem_rsF, mem_rsF]
  constructor
  · rintro ⟨b, hb, ho, rfl⟩
    rw [ovlB_iff, rvX_iff, rvX_iff] at ho
    rcases (by omega : b.1.1.1 < m ∨ m ≤ b.1.1.1) with h | h
    · exact .inl ⟨b, hb, by rw [ovlB_iff, rvX_iff, rvX_iff]; dsimp only; omega, rfl⟩
    · exact .inr ⟨b, hb, by rw [ovlB_iff, rvX_iff, rvX_iff]; dsimp only; omega, rfl⟩
  · rintro (⟨b, hb, ho, rfl⟩ | ⟨b, hb, ho, rfl⟩) <;> rw [ovlB_iff, rvX_iff, rvX_iff] at ho <;> dsimp only at ho <;> exact ⟨b, hb, by rw [ovlB_iff, rvX_iff, rvX_iff]; omega, rfl⟩
theorem own_litz (W : World) (e size : Nat) {b : Nat} (hb : b = W.heap.size) : (W.alloc (.cells #[] e)).ownsRow W.heap.size e size (.slice (some ⟨b, 0, none⟩) 0 0) 0 [] := by
  subst hb
  exact ⟨by simp, .inr ⟨W.heap.size, 0, #[], rfl, Nat.le_refl _, heap_alloc_new _ _, Nat.le_refl _, Nat.zero_le _, by simp, by simp⟩⟩
set_option maxRecDepth 100000 in
set_option maxHeartbeats 16000000 in
theorem lawParts_any (A : Option Addr) (c : Nat) (L : List Bxs) (p : Int) (q : Rct) (m : Int) (w : World) (hR : Rd w 5 A L.length (bxl L)) (hc : L.length ≤ c) (hl : L.length ≤ 9223372036854775807) (hwf : ∀ b ∈ L, (Lit.int .i64 b.2).wf = true) (hp : (Lit.int .u8 p).wf = true) :
    Calls Try.prog 7 #[.slice A L.length c, .int .u8 p, rx q, .int .i64 m] w fun e w' => e = .returned (.bool true) ∧ Ext w w' := by
  by_cases hbig : 200 < L.length
  · go_enter Try.func7, Try.ntmps7
    go_wp2_with (go_at_call 9; refine (works_any _).mono ?_; rintro e w1 ⟨rfl, hb1⟩; obtain ⟨z, rfl⟩ := hb1.get; clear hb1)
    go_ret
    exact ⟨rfl, by repeat (first | exact Ext.refl' _ | assumption | apply Ext.ex' | apply Ext.al | apply Ext.drN | apply Ext.dr)⟩
  · have h200 : L.length ≤ 200 := by omega
    obtain ⟨p0, p1, p2, p3⟩ := wd_63 hp
    have HV := Lib.hid (fun w => rvalidX_any q w)
    by_cases hv : rvB q = true
    case neg =>
      rw [Bool.not_eq_true] at hv
      rw [hv] at HV
      clear hv p0 p1 p2 p3 hp
      go_enter Try.func7, Try.ntmps7
      go_wp2_with (first | (go_at_call 23; refine Calls.mono (HV.out _) ?_; rintro e w1 ⟨rfl, hb1⟩; obtain ⟨z, rfl⟩ := hb1.get; clear hb1) | (go_at_call 9; refine (works_any _).mono ?_; rintro e w1 ⟨rfl, hb1⟩; obtain ⟨z, rfl⟩ := hb1.get; clear hb1))
      go_ret
      exact ⟨rfl, by repeat (first | exact Ext.refl' _ | assumption | apply Ext.ex' | apply Ext.al | apply Ext.drN | apply Ext.dr)⟩
    by_cases hm1 : m ≤ q.1.1
    case pos =>
      rw [hv] at HV
      clear hv p0 p1 p2 p3 hp
      go_enter Try.func7, Try.ntmps7
      go_wp2_with (first | (go_at_call 23; refine Calls.mono (HV.out _) ?_; rintro e w1 ⟨rfl, hb1⟩; obtain ⟨z, rfl⟩ := hb1.get; clear hb1) | (go_at_call 9; refine (works_any _).mono ?_; rintro e w1 ⟨rfl, hb1⟩; obtain ⟨z, rfl⟩ := hb1.get; clear hb1))
      go_ret
      exact ⟨rfl, by repeat (first | exact Ext.refl' _ | assumption | apply Ext.ex' | apply Ext.al | apply Ext.drN | apply Ext.dr)⟩
    by_cases hm2 : q.1.2 ≤ m
    case pos =>
      rw [hv] at HV
      clear hv p0 p1 p2 p3 hp
      go_enter Try.func7, Try.ntmps7
      go_wp2_with (first | (go_at_call 23; refine Calls.mono (HV.out _) ?_; rintro e w1 ⟨rfl, hb1⟩; obtain ⟨z, rfl⟩ := hb1.get; clear hb1) | (go_at_call 9; refine (works_any _).mono ?_; rintro e w1 ⟨rfl, hb1⟩; obtain ⟨z, rfl⟩ := hb1.get; clear hb1))
      go_ret
      exact ⟨rfl, by repeat (first | exact Ext.refl' _ | assumption | apply Ext.ex' | apply Ext.al | apply Ext.drN | apply Ext.dr)⟩
    have hpi := fun z => parts_iff (Lo := loE (2 + p % 63) L) (z := z) hv (by omega : q.1.1 < m) (by omega)
    rw [hv] at HV
    clear hv hp
    have HB := Lib.hid (fun w h => buildU A L.length c (2 + p % 63) L w rfl h (by omega) hc hwf)
    have HS1 := Lib.hid (fun a w h => searchU (2 + p % 63) L h200 q a ((loE (2 + p % 63) L).length : Nat) (rdE (2 + p % 63) L : Nat) w h)
    have HS2 := Lib.hid (fun a w h => searchU (2 + p % 63) L h200 ((q.1.1, m), (q.2.1, q.2.2)) a ((loE (2 + p % 63) L).length : Nat) (rdE (2 + p % 63) L : Nat) w h)
    have HS3 := Lib.hid (fun a w h => searchU (2 + p % 63) L h200 ((m, q.1.2), (q.2.1, q.2.2)) a ((loE (2 + p % 63) L).length : Nat) (rdE (2 + p % 63) L : Nat) w h)
    have hz1 := Nat.le_trans (Nat.le_trans (rsF_length (loE (2 + p % 63) L) q) (lo_le (2 + p % 63) L)) h200
    have hz2 := Nat.le_trans (Nat.le_trans (rsF_length (loE (2 + p % 63) L) ((q.1.1, m), (q.2.1, q.2.2))) (lo_le (2 + p % 63) L)) h200
    have hz3 := Nat.le_trans (Nat.le_trans (rsF_length (loE (2 + p % 63) L) ((m, q.1.2), (q.2.1, q.2.2))) (lo_le (2 + p % 63) L)) h200
    generalize rsF (loE (2 + p % 63) L) q = zs at HS1 hz1 hpi
    generalize rsF (loE (2 + p % 63) L) ((q.1.1, m), (q.2.1, q.2.2)) = zl at HS2 hz2 hpi
    generalize rsF (loE (2 + p % 63) L) ((m, q.1.2), (q.2.1, q.2.2)) = zh at HS3 hz3 hpi
    generalize (loE (2 + p % 63) L).length = n1 at HB HS1 HS2 HS3
    generalize rtE (2 + p % 63) L = root1 at HB HS1 HS2 HS3
    generalize ((rdE (2 + p % 63) L : Nat) : Int) = d1 at HB HS1 HS2 HS3
    generalize errF (2 + p % 63) L = er1 at HB
    have HPI := Lib.hid hpi
    clear hwf hpi
    go_enter Try.func7, Try.ntmps7
    go_wp2_with (go_at_call 23; refine Calls.mono (HV.out _) ?_; rintro e w1 ⟨rfl, hb1⟩; obtain ⟨z, rfl⟩ := hb1.get; clear hb1)
    refine Calls.mono (HB.out _ (hR.ext (by repeat (first | exact Ext.refl' _ | assumption | apply Ext.ex' | apply Ext.al | apply Ext.drN | apply Ext.dr)))) ?_
    rintro e w1 ⟨a, rfl, hb1, hT, hne1, hne2⟩
    have hE1 : Ext (w.alloc (.cells #[.int .i64 q.1.1, .int .i64 q.1.2, .int .i64 q.2.1, .int .i64 q.2.2] 31)) w1 := Ext.tr (by repeat (first | exact Ext.refl' _ | assumption | apply Ext.ex' | apply Ext.al | apply Ext.drN | apply Ext.dr)) hb1
    clear hb1
    by_cases h1 : er1 = 0
    case neg =>
      have g1 : (er1 != 0) = true := by simp [h1]
      clear hne1 hne2 h1
      go_wp2_with (go_at_call 9; refine (works_any _).mono ?_; rintro e w1 ⟨rfl, hb1⟩; obtain ⟨z, rfl⟩ := hb1.get; clear hb1)
      go_ret
      exact ⟨rfl, Ext.tr (by repeat (first | exact Ext.refl' _ | assumption | apply Ext.ex' | apply Ext.al | apply Ext.drN | apply Ext.dr)) (hE1.tr (by repeat (first | exact Ext.refl' _ | assumption | apply Ext.ex' | apply Ext.al | apply Ext.drN | apply Ext.dr)))⟩
    have g1 : (er1 != 0) = false := by simp [h1]
    clear hne1 hne2 h1
    have s0 : w1.cell? ⟨w.heap.size, 0, none⟩ = some (.int .i64 q.1.1) := hE1.cell' (by simp [go_sem, ↓IntWalk.iteOmega])
    have s1 : w1.cell? ⟨w.heap.size, 1, none⟩ = some (.int .i64 q.1.2) := hE1.cell' (by simp [go_sem, ↓IntWalk.iteOmega])
    have s2 : w1.cell? ⟨w.heap.size, 2, none⟩ = some (.int .i64 q.2.1) := hE1.cell' (by simp [go_sem, ↓IntWalk.iteOmega])
    have s3 : w1.cell? ⟨w.heap.size, 3, none⟩ = some (.int .i64 q.2.2) := hE1.cell' (by simp [go_sem, ↓IntWalk.iteOmega])
    go_wp2_with fail
    refine Calls.mono (HS1.out _ _ (hT.ext (by repeat (first | exact Ext.refl' _ | assumption | apply Ext.ex' | apply Ext.al | apply Ext.drN | apply Ext.dr)))) ?_
    rintro e w2 ⟨A1, c1, rfl, hb2, hP1⟩
    have hE2 : Ext (w.alloc (.cells #[.int .i64 q.1.1, .int .i64 q.1.2, .int .i64 q.2.1, .int .i64 q.2.2] 31)) w2 := hE1.tr (Ext.tr (by repeat (first | exact Ext.refl' _ | assumption | apply Ext.ex' | apply Ext.al | apply Ext.drN | apply Ext.dr)) hb2)
    have hT := hT.ext (Ext.tr (by repeat (first | exact Ext.refl' _ | assumption | apply Ext.ex' | apply Ext.al | apply Ext.drN | apply Ext.dr)) hb2)
    have hE0 : Ext w w2 := Ext.tr (by repeat (first | exact Ext.refl' _ | assumption | apply Ext.ex' | apply Ext.al | apply Ext.drN | apply Ext.dr)) hE2
    have r0 : w2.cell? ⟨w.heap.size, 0, none⟩ = some (.int .i64 q.1.1) := hE2.cell' (by simp [go_sem, ↓IntWalk.iteOmega])
    have r1 : w2.cell? ⟨w.heap.size, 1, none⟩ = some (.int .i64 q.1.2) := hE2.cell' (by simp [go_sem, ↓IntWalk.iteOmega])
    have r2 : w2.cell? ⟨w.heap.size, 2, none⟩ = some (.int .i64 q.2.1) := hE2.cell' (by simp [go_sem, ↓IntWalk.iteOmega])
    have r3 : w2.cell? ⟨w.heap.size, 3, none⟩ = some (.int .i64 q.2.2) := hE2.cell' (by simp [go_sem, ↓IntWalk.iteOmega])
    have hsz : w.heap.size < w2.heap.size := by have := hE2.size; simp at this; omega
    clear hE2 hb2 hE1 s0 s1 s2 s3
    go_wp2
    refine wp_region_held_drew (S := (fun w' => w'.cell? ⟨w.heap.size, 0, none⟩ = some (.int .i64 q.1.1) ∧ w'.cell? ⟨w.heap.size, 1, none⟩ = some (.int .i64 q.1.2) ∧ w'.cell? ⟨w.heap.size, 2, none⟩ = some (.int .i64 q.2.1) ∧ w'.cell? ⟨w.heap.size, 3, none⟩ = some (.int .i64 q.2.2))) (by kernel_rfl) (by simp [go_sem, ↓IntWalk.iteOmega, *]) (fun hHeld => ?_)
    refine wpAnyH_take (i := 0) (oi := ?oi1) (v := ?v1) ?hi1 (by kernel_rfl) (by kernel_rfl) (by kernel_rfl) ?hQ1 ?hy1 (by assumption) ?_
    case hi1 => (simp only [List.getElem?_toArray, List.getElem?_cons_succ, List.getElem?_cons_zero]; rfl)
    case hQ1 => exact fun _ _ _ h => h
    case hy1 => (refine Or.inl ⟨by rfl, ?_⟩; intro wq hSw; (try dsimp only at hSw); go_simp; (try with_reducible rfl))
    (try simp only [Act.put, List.setIfInBounds_toArray, List.set_cons_zero, List.set_cons_succ])
    refine wpAnyH_take (i := 1) (oi := ?oi2) (v := ?v2) ?hi2 (by kernel_rfl) (by kernel_rfl) (by kernel_rfl) ?hQ2 ?hy2 (by assumption) ?_
    case hi2 => (simp only [List.getElem?_toArray, List.getElem?_cons_succ, List.getElem?_cons_zero]; rfl)
    case hQ2 => exact fun _ _ _ h => h
    case hy2 => (refine Or.inl ⟨by rfl, ?_⟩; intro wq hSw; (try dsimp only at hSw); go_simp; (try with_reducible rfl))
    (try simp only [Act.put, List.setIfInBounds_toArray, List.set_cons_zero, List.set_cons_succ])
    refine wpAnyH_take (i := 2) (oi := ?oi3) (v := ?v3) ?hi3 (by kernel_rfl) (by kernel_rfl) (by kernel_rfl) ?hQ3 ?hy3 (by assumption) ?_
    case hi3 => (simp only [List.getElem?_toArray, List.getElem?_cons_succ, List.getElem?_cons_zero]; rfl)
    case hQ3 => exact fun _ _ _ h => h
    case hy3 => (refine Or.inl ⟨by rfl, ?_⟩; intro wq hSw; (try dsimp only at hSw); go_simp; (try with_reducible rfl))
    (try simp only [Act.put, List.setIfInBounds_toArray, List.set_cons_zero, List.set_cons_succ])
    refine wpAnyH_take (i := 3) (oi := ?oi4) (v := ?v4) ?hi4 (by kernel_rfl) (by kernel_rfl) (by kernel_rfl) ?hQ4 ?hy4 (by assumption) ?_
    case hi4 => (simp only [List.getElem?_toArray, List.getElem?_cons_succ, List.getElem?_cons_zero]; rfl)
    case hQ4 => exact fun _ _ _ h => h
    case hy4 => (refine Or.inl ⟨by rfl, ?_⟩; intro wq hSw; (try dsimp only at hSw); go_simp; (try with_reducible rfl))
    (try simp only [Act.put, List.setIfInBounds_toArray, List.set_cons_zero, List.set_cons_succ])
    refine wpAnyH_take (i := 4) (oi := ?oi5) (v := ?v5) ?hi5 (by kernel_rfl) (by kernel_rfl) (by kernel_rfl) ?hQ5 ?hy5 (by assumption) ?_
    case hi5 => (simp only [List.getElem?_toArray, List.getElem?_cons_succ, List.getElem?_cons_zero]; rfl)
    case hQ5 => exact fun _ _ _ h => h
    case hy5 => (refine Or.inl ⟨by rfl, ?_⟩; intro wq hSw; (try dsimp only at hSw); go_simp; (try with_reducible rfl))
    (try simp only [Act.put, List.setIfInBounds_toArray, List.set_cons_zero, List.set_cons_succ])
    refine wpAnyH_take (i := 5) (oi := ?oi6) (v := ?v6) ?hi6 (by kernel_rfl) (by kernel_rfl) (by kernel_rfl) ?hQ6 ?hy6 (by assumption) ?_
    case hi6 => (simp only [List.getElem?_toArray, List.getElem?_cons_succ, List.getElem?_cons_zero]; rfl)
    case hQ6 => exact fun _ _ _ h => h
    case hy6 => (refine Or.inl ⟨by rfl, ?_⟩; intro wq hSw; (try dsimp only at hSw); go_simp; (try with_reducible rfl))
    (try simp only [Act.put, List.setIfInBounds_toArray, List.set_cons_zero, List.set_cons_succ])
    refine wpAnyH_take (i := 6) (oi := ?oi7) (v := ?v7) ?hi7 (by kernel_rfl) (by kernel_rfl) (by kernel_rfl) ?hQ7 ?hy7 (by assumption) ?_
    case hi7 => (simp only [List.getElem?_toArray, List.getElem?_cons_succ, List.getElem?_cons_zero]; rfl)
    case hQ7 => exact fun _ _ _ h => h
    case hy7 => (refine Or.inl ⟨by rfl, ?_⟩; intro wq hSw; (try dsimp only at hSw); go_simp; (try with_reducible rfl))
    (try simp only [Act.put, List.setIfInBounds_toArray, List.set_cons_zero, List.set_cons_succ])
    refine wpAnyH_take (i := 7) (oi := ?oi8) (v := ?v8) ?hi8 (by kernel_rfl) (by kernel_rfl) (by kernel_rfl) ?hQ8 ?hy8 (by assumption) ?_
    case hi8 => (simp only [List.getElem?_toArray, List.getElem?_cons_succ, List.getElem?_cons_zero]; rfl)
    case hQ8 => exact fun _ _ _ h => h
    case hy8 => (refine Or.inl ⟨by rfl, ?_⟩; intro wq hSw; (try dsimp only at hSw); go_simp; (try with_reducible rfl))
    (try simp only [Act.put, List.setIfInBounds_toArray, List.set_cons_zero, List.set_cons_succ])
    refine wpAnyH_take (i := 8) (oi := ?oi9) (v := ?v9) ?hi9 (by kernel_rfl) (by kernel_rfl) (by kernel_rfl) ?hQ9 ?hy9 (by assumption) ?_
    case hi9 => (simp only [List.getElem?_toArray, List.getElem?_cons_succ, List.getElem?_cons_zero]; rfl)
    case hQ9 => exact fun _ _ _ h => h
    case hy9 => (refine Or.inl ⟨by rfl, ?_⟩; intro wq hSw; (try dsimp only at hSw); go_simp; (try with_reducible rfl))
    (try simp only [Act.put, List.setIfInBounds_toArray, List.set_cons_zero, List.set_cons_succ])
    refine wpAnyH_take (i := 9) (oi := ?oi10) (v := ?v10) ?hi10 (by kernel_rfl) (by kernel_rfl) (by kernel_rfl) ?hQ10 ?hy10 (by assumption) ?_
    case hi10 => (simp only [List.getElem?_toArray, List.getElem?_cons_succ, List.getElem?_cons_zero]; rfl)
    case hQ10 => exact fun _ _ _ h => h
    case hy10 => (refine Or.inl ⟨by rfl, ?_⟩; intro wq hSw; (try dsimp only at hSw); go_simp; (try with_reducible rfl))
    (try simp only [Act.put, List.setIfInBounds_toArray, List.set_cons_zero, List.set_cons_succ])
    refine wpAnyH_take (i := 10) (oi := ?oi11) (v := ?v11) ?hi11 (by kernel_rfl) (by kernel_rfl) (by kernel_rfl) ?hQ11 ?hy11 (by assumption) ?_
    case hi11 => (simp only [List.getElem?_toArray, List.getElem?_cons_succ, List.getElem?_cons_zero]; rfl)
    case hQ11 => exact fun _ _ _ h => h
    case hy11 => (refine Or.inl ⟨by rfl, ?_⟩; intro wq hSw; (try dsimp only at hSw); go_simp; (try with_reducible rfl))
    (try simp only [Act.put, List.setIfInBounds_toArray, List.set_cons_zero, List.set_cons_succ])
    refine wpAnyH_take (i := 13) (oi := ?oi12) (v := ?v12) ?hi12 (by kernel_rfl) (by kernel_rfl) (by kernel_rfl) ?hQ12 ?hy12 (by assumption) ?_
    case hi12 => (simp only [List.getElem?_toArray, List.getElem?_cons_succ, List.getElem?_cons_zero]; rfl)
    case hQ12 => exact fun _ _ _ h => h
    case hy12 => (refine Or.inl ⟨by rfl, ?_⟩; intro wq hSw; (try dsimp only at hSw); go_simp; (try with_reducible rfl))
    (try simp only [Act.put, List.setIfInBounds_toArray, List.set_cons_zero, List.set_cons_succ])
    refine wpAnyH_take (i := 14) (oi := ?oi13) (v := ?v13) ?hi13 (by kernel_rfl) (by kernel_rfl) (by kernel_rfl) ?hQ13 ?hy13 (by assumption) ?_
    case hi13 => (simp only [List.getElem?_toArray, List.getElem?_cons_succ, List.getElem?_cons_zero]; rfl)
    case hQ13 => exact fun _ _ _ h => h
    case hy13 => (refine Or.inl ⟨by rfl, ?_⟩; intro wq hSw; (try dsimp only at hSw); go_simp; (try with_reducible rfl))
    (try simp only [Act.put, List.setIfInBounds_toArray, List.set_cons_zero, List.set_cons_succ])
    refine wpAnyH_take (i := 15) (oi := ?oi14) (v := ?v14) ?hi14 (by kernel_rfl) (by kernel_rfl) (by kernel_rfl) ?hQ14 ?hy14 (by assumption) ?_
    case hi14 => (simp only [List.getElem?_toArray, List.getElem?_cons_succ, List.getElem?_cons_zero]; rfl)
    case hQ14 => exact fun _ _ _ h => h
    case hy14 => (refine Or.inl ⟨by rfl, ?_⟩; intro wq hSw; (try dsimp only at hSw); go_simp; (try with_reducible rfl))
    (try simp only [Act.put, List.setIfInBounds_toArray, List.set_cons_zero, List.set_cons_succ])
    refine wpAnyH_take (i := 16) (oi := ?oi15) (v := ?v15) ?hi15 (by kernel_rfl) (by kernel_rfl) (by kernel_rfl) ?hQ15 ?hy15 (by assumption) ?_
    case hi15 => (simp only [List.getElem?_toArray, List.getElem?_cons_succ, List.getElem?_cons_zero]; rfl)
    case hQ15 => exact fun _ _ _ h => h
    case hy15 => (refine Or.inl ⟨by rfl, ?_⟩; intro wq hSw; (try dsimp only at hSw); go_simp; (try with_reducible rfl))
    (try simp only [Act.put, List.setIfInBounds_toArray, List.set_cons_zero, List.set_cons_succ])
    refine wpAnyH_take (i := 17) (oi := ?oi16) (v := ?v16) ?hi16 (by kernel_rfl) (by kernel_rfl) (by kernel_rfl) ?hQ16 ?hy16 (by assumption) ?_
    case hi16 => (simp only [List.getElem?_toArray, List.getElem?_cons_succ, List.getElem?_cons_zero]; rfl)
    case hQ16 => exact fun _ _ _ h => h
    case hy16 => (refine Or.inl ⟨by rfl, ?_⟩; intro wq hSw; (try dsimp only at hSw); go_simp; (try with_reducible rfl))
    (try simp only [Act.put, List.setIfInBounds_toArray, List.set_cons_zero, List.set_cons_succ])
    refine wpAnyH_take (i := 18) (oi := ?oi17) (v := ?v17) ?hi17 (by kernel_rfl) (by kernel_rfl) (by kernel_rfl) ?hQ17 ?hy17 (by assumption) ?_
    case hi17 => (simp only [List.getElem?_toArray, List.getElem?_cons_succ, List.getElem?_cons_zero]; rfl)
    case hQ17 => exact fun _ _ _ h => h
    case hy17 => (refine Or.inl ⟨by rfl, ?_⟩; intro wq hSw; (try dsimp only at hSw); go_simp; (try with_reducible rfl))
    (try simp only [Act.put, List.setIfInBounds_toArray, List.set_cons_zero, List.set_cons_succ])
    refine wpAnyH_take (i := 19) (oi := ?oi18) (v := ?v18) ?hi18 (by kernel_rfl) (by kernel_rfl) (by kernel_rfl) ?hQ18 ?hy18 (by assumption) ?_
    case hi18 => (simp only [List.getElem?_toArray, List.getElem?_cons_succ, List.getElem?_cons_zero]; rfl)
    case hQ18 => exact fun _ _ _ h => h
    case hy18 => (refine Or.inl ⟨by rfl, ?_⟩; intro wq hSw; (try dsimp only at hSw); go_simp; (try with_reducible rfl))
    (try simp only [Act.put, List.setIfInBounds_toArray, List.set_cons_zero, List.set_cons_succ])
    refine wpAnyH_take (i := 20) (oi := ?oi19) (v := ?v19) ?hi19 (by kernel_rfl) (by kernel_rfl) (by kernel_rfl) ?hQ19 ?hy19 (by assumption) ?_
    case hi19 => (simp only [List.getElem?_toArray, List.getElem?_cons_succ, List.getElem?_cons_zero]; rfl)
    case hQ19 => exact fun _ _ _ h => h
    case hy19 => (refine Or.inl ⟨by rfl, ?_⟩; intro wq hSw; (try dsimp only at hSw); go_simp; (try with_reducible rfl))
    (try simp only [Act.put, List.setIfInBounds_toArray, List.set_cons_zero, List.set_cons_succ])
    refine wpAnyH_take (i := 21) (oi := ?oi20) (v := ?v20) ?hi20 (by kernel_rfl) (by kernel_rfl) (by kernel_rfl) ?hQ20 ?hy20 (by assumption) ?_
    case hi20 => (simp only [List.getElem?_toArray, List.getElem?_cons_succ, List.getElem?_cons_zero]; rfl)
    case hQ20 => exact fun _ _ _ h => h
    case hy20 => (refine Or.inl ⟨by rfl, ?_⟩; intro wq hSw; (try dsimp only at hSw); go_simp; (try with_reducible rfl))
    (try simp only [Act.put, List.setIfInBounds_toArray, List.set_cons_zero, List.set_cons_succ])
    refine wpAnyH_take (i := 22) (oi := ?oi21) (v := ?v21) ?hi21 (by kernel_rfl) (by kernel_rfl) (by kernel_rfl) ?hQ21 ?hy21 (by assumption) ?_
    case hi21 => (simp only [List.getElem?_toArray, List.getElem?_cons_succ, List.getElem?_cons_zero]; rfl)
    case hQ21 => exact fun _ _ _ h => h
    case hy21 => (refine Or.inl ⟨by rfl, ?_⟩; intro wq hSw; (try dsimp only at hSw); go_simp; (try with_reducible rfl))
    (try simp only [Act.put, List.setIfInBounds_toArray, List.set_cons_zero, List.set_cons_succ])
    refine wpAnyH_take (i := 23) (oi := ?oi22) (v := ?v22) ?hi22 (by kernel_rfl) (by kernel_rfl) (by kernel_rfl) ?hQ22 ?hy22 (by assumption) ?_
    case hi22 => (simp only [List.getElem?_toArray, List.getElem?_cons_succ, List.getElem?_cons_zero]; rfl)
    case hQ22 => exact fun _ _ _ h => h
    case hy22 => (refine Or.inl ⟨by rfl, ?_⟩; intro wq hSw; (try dsimp only at hSw); go_simp; (try with_reducible rfl))
    (try simp only [Act.put, List.setIfInBounds_toArray, List.set_cons_zero, List.set_cons_succ])
    refine wpAnyH_ready (rs := [11]) (by kernel_rfl) (by simp) ?_
    refine AllReadyH.cons (o := ?oi23) ?hi23 ?ti23 AllReadyH.nil
    case hi23 => (simp only [List.getElem?_toArray, List.getElem?_cons_succ, List.getElem?_cons_zero]; rfl)
    case ti23 =>
      intro KQ hKQ
      go_simp
      (go_at_call 24; refine (rectX_any _ _ _ _ _).mono ?_; rintro e w1 ⟨rfl, hb1⟩; obtain ⟨z, rfl⟩ := hb1.get; clear hb1)
      refine hKQ.out _ _ (by simp [go_sem, ↓IntWalk.iteOmega, *]) (fun hHeld2 => ?_)
      clear hHeld hKQ KQ; have hHeld := hHeld2; clear hHeld2
      (try simp only [Act.put, List.setIfInBounds_toArray, List.set_cons_zero, List.set_cons_succ])
      refine wpAnyH_ready (rs := [12]) (by kernel_rfl) (by simp) ?_
      refine AllReadyH.cons (o := ?oi24) ?hi24 ?ti24 AllReadyH.nil
      case hi24 => (simp only [List.getElem?_toArray, List.getElem?_cons_succ, List.getElem?_cons_zero]; rfl)
      case ti24 =>
        intro KQ hKQ
        go_simp
        (go_at_call 17; refine (HS2.out _ _ (hT.ext (by repeat (first | exact Ext.refl' _ | assumption | apply Ext.ex' | apply Ext.al | apply Ext.drN | apply Ext.dr)))).mono ?_; rintro e w1 ⟨A2, c2, rfl, hb1, hP2⟩; obtain ⟨z, rfl⟩ := hb1.get; clear hb1)
        refine hKQ.out _ _ (by simp [go_sem, ↓IntWalk.iteOmega, *]) (fun hHeld2 => ?_)
        clear hHeld hKQ KQ; have hHeld := hHeld2; clear hHeld2
        (try simp only [Act.put, List.setIfInBounds_toArray, List.set_cons_zero, List.set_cons_succ])
        refine wpAnyH_ready (rs := [24]) (by kernel_rfl) (by simp) ?_
        refine AllReadyH.cons (o := ?oi25) ?hi25 ?ti25 AllReadyH.nil
        case hi25 => (simp only [List.getElem?_toArray, List.getElem?_cons_succ, List.getElem?_cons_zero]; rfl)
        case ti25 =>
          intro KQ hKQ
          go_simp
          (go_at_call 24; refine (rectX_any _ _ _ _ _).mono ?_; rintro e w1 ⟨rfl, hb1⟩; obtain ⟨z, rfl⟩ := hb1.get; clear hb1)
          refine hKQ.out _ _ (by simp [go_sem, ↓IntWalk.iteOmega, *]) (fun hHeld2 => ?_)
          clear hHeld hKQ KQ; have hHeld := hHeld2; clear hHeld2
          (try simp only [Act.put, List.setIfInBounds_toArray, List.set_cons_zero, List.set_cons_succ])
          refine wpAnyH_ready (rs := [25]) (by kernel_rfl) (by simp) ?_
          refine AllReadyH.cons (o := ?oi26) ?hi26 ?ti26 AllReadyH.nil
          case hi26 => (simp only [List.getElem?_toArray, List.getElem?_cons_succ, List.getElem?_cons_zero]; rfl)
          case ti26 =>
            intro KQ hKQ
            go_simp
            (go_at_call 17; refine (HS3.out _ _ (hT.ext (by repeat (first | exact Ext.refl' _ | assumption | apply Ext.ex' | apply Ext.al | apply Ext.drN | apply Ext.dr)))).mono ?_; rintro e w1 ⟨A3, c3, rfl, hb1, hP3⟩; obtain ⟨z, rfl⟩ := hb1.get; clear hb1)
            refine hKQ.out _ _ (by simp [go_sem, ↓IntWalk.iteOmega, *]) (fun hHeld2 => ?_)
            clear hHeld hKQ KQ; have hHeld := hHeld2; clear hHeld2
            (try simp only [Act.put, List.setIfInBounds_toArray, List.set_cons_zero, List.set_cons_succ])
            refine wpAnyH_take (i := 26) (oi := ?oi27) (v := ?v27) ?hi27 (by kernel_rfl) (by kernel_rfl) (by kernel_rfl) ?hQ27 ?hy27 (by assumption) ?_
            case hi27 => (simp only [List.getElem?_toArray, List.getElem?_cons_succ, List.getElem?_cons_zero]; rfl)
            case hQ27 => exact fun _ _ _ h => h
            case hy27 => (refine Or.inl ⟨by rfl, ?_⟩; intro wq hSw; (try dsimp only at hSw); go_simp; (try with_reducible rfl))
            (try simp only [Act.put, List.setIfInBounds_toArray, List.set_cons_zero, List.set_cons_succ])
            refine wpAnyH_take (i := 27) (oi := ?oi28) (v := ?v28) ?hi28 (by kernel_rfl) (by kernel_rfl) (by kernel_rfl) ?hQ28 ?hy28 (by assumption) ?_
            case hi28 => (simp only [List.getElem?_toArray, List.getElem?_cons_succ, List.getElem?_cons_zero]; rfl)
            case hQ28 => exact fun _ _ _ h => h
            case hy28 => (refine Or.inl ⟨by rfl, ?_⟩; intro wq hSw; (try dsimp only at hSw); go_simp; (try with_reducible rfl))
            (try simp only [Act.put, List.setIfInBounds_toArray, List.set_cons_zero, List.set_cons_succ])
            refine wpAnyH_done (by kernel_rfl) ?_ _
            go_wp2
            go_loopw [84] (fun i wr => ∃ k : Nat, k ≤ zs.length ∧ i = .int .i64 k ∧ Ext w wr ∧ Rd wr 1 A1 zs.length (ic zs) ∧ Rd wr 1 A2 zl.length (ic zl) ∧ Rd wr 1 A3 zh.length (ic zh)) (fun i _ => zs.length - (intOf i).toNat)
            case atStart => exact ⟨0, Nat.zero_le _, rfl, hE0.tr (by repeat (first | exact Ext.refl' _ | assumption | apply Ext.ex' | apply Ext.al | apply Ext.drN | apply Ext.dr)), hP1.ext (by repeat (first | exact Ext.refl' _ | assumption | apply Ext.ex' | apply Ext.al | apply Ext.drN | apply Ext.dr)), hP2.ext (by repeat (first | exact Ext.refl' _ | assumption | apply Ext.ex' | apply Ext.al | apply Ext.drN | apply Ext.dr)), hP3.ext (by repeat (first | exact Ext.refl' _ | assumption | apply Ext.ex' | apply Ext.al | apply Ext.drN | apply Ext.dr))⟩
            case round =>
              obtain ⟨k, hk, rfl, hE, hP1, hP2, hP3⟩ := hrel
              by_cases hlt : k < zs.length
              · obtain ⟨b, o, rfl, hb, hc1⟩ := hP1.int hlt
                have hin := (HPI.out zs[k]).1 (List.getElem_mem hlt)
                generalize zs[k] = zz at hc1 hin
                have H2 := Lib.hid (fun w h => containsX_any A2 c2 zl zz w h (by omega))
                have H3 := Lib.hid (fun w h => containsX_any A3 c3 zh zz w h (by omega))
                by_cases hm : zz ∈ zl
                · rw [decide_eq_true hm] at H2
                  clear hin hm
                  go_wp2_with (go_at_call 25; (with_reducible refine Calls.mono (H2.out _ (hP2.ext (by repeat (first | exact Ext.refl' _ | assumption | apply Ext.ex' | apply Ext.al | apply Ext.drN | apply Ext.dr)))) ?_); rintro e w1 ⟨rfl, hb1⟩; obtain ⟨y1, rfl⟩ := hb1.get; clear hb1)
                  go_roundw
                  case rel => exact ⟨k + 1, by omega, by go_num, hE.tr (by repeat (first | exact Ext.refl' _ | assumption | apply Ext.ex' | apply Ext.al | apply Ext.drN | apply Ext.dr)), hP1.ext (by repeat (first | exact Ext.refl' _ | assumption | apply Ext.ex' | apply Ext.al | apply Ext.drN | apply Ext.dr)), hP2.ext (by repeat (first | exact Ext.refl' _ | assumption | apply Ext.ex' | apply Ext.al | apply Ext.drN | apply Ext.dr)), hP3.ext (by repeat (first | exact Ext.refl' _ | assumption | apply Ext.ex' | apply Ext.al | apply Ext.drN | apply Ext.dr))⟩
                  case measure => simp [intOf]; omega
                · have hm3 : zz ∈ zh := by rcases hin with h | h; exact absurd h hm; exact h
                  rw [decide_eq_false hm] at H2
                  rw [decide_eq_true hm3] at H3
                  clear hin hm hm3
                  go_wp2_with (first | (go_at_call 25; (with_reducible refine Calls.mono (H2.out _ (hP2.ext (by repeat (first | exact Ext.refl' _ | assumption | apply Ext.ex' | apply Ext.al | apply Ext.drN | apply Ext.dr)))) ?_); rintro e w1 ⟨rfl, hb1⟩; obtain ⟨y1, rfl⟩ := hb1.get; clear hb1) | (go_at_call 25; (with_reducible refine Calls.mono (H3.out _ (hP3.ext (by repeat (first | exact Ext.refl' _ | assumption | apply Ext.ex' | apply Ext.al | apply Ext.drN | apply Ext.dr)))) ?_); rintro e w1 ⟨rfl, hb1⟩; obtain ⟨y2, rfl⟩ := hb1.get; clear hb1))
                  go_roundw
                  case rel => exact ⟨k + 1, by omega, by go_num, hE.tr (by repeat (first | exact Ext.refl' _ | assumption | apply Ext.ex' | apply Ext.al | apply Ext.drN | apply Ext.dr)), hP1.ext (by repeat (first | exact Ext.refl' _ | assumption | apply Ext.ex' | apply Ext.al | apply Ext.drN | apply Ext.dr)), hP2.ext (by repeat (first | exact Ext.refl' _ | assumption | apply Ext.ex' | apply Ext.al | apply Ext.drN | apply Ext.dr)), hP3.ext (by repeat (first | exact Ext.refl' _ | assumption | apply Ext.ex' | apply Ext.al | apply Ext.drN | apply Ext.dr))⟩
                  case measure => simp [intOf]; omega
              · skip
                go_wp2_with (first | (at_builtin; refine wpList_app _ rfl (.tmp 99) (.tmp 100) rfl elInt _ (Ext.al1 _ _) _ 0 [] rfl (own_litz _ _ _ (by simp)) A2 zl.length c2 (ic zl) rfl (hP2.ext (by repeat (first | exact Ext.refl' _ | assumption | apply Ext.ex' | apply Ext.al | apply Ext.drN | apply Ext.dr))) (oneCell_ic zl) (by unfold maxLen; omega) (by omega) ?_; intro v1 x1 ho1 _) | (at_builtin; refine wpList_app _ rfl (.tmp 101) (.tmp 102) rfl elInt _ (Ext.ex _ _) _ _ _ rfl ho1 A3 zh.length c3 (ic zh) rfl (hP3.ext (by repeat (first | exact Ext.refl' _ | assumption | apply Ext.ex' | apply Ext.al | apply Ext.drN | apply Ext.dr))) (oneCell_ic zh) (by unfold maxLen; omega) (by omega) ?_; intro v2 x2 ho2 _; obtain ⟨A4, c4, rfl, _, _⟩ := Own.form ho2))
                have hP4 := Rd.of_own ho2
                have hZ : (zl ++ zh).length = zl.length + zh.length := by simp
                rw [show 0 + zl.length + zh.length = zl.length + zh.length by omega, show [] ++ ic zl ++ ic zh = ic (zl ++ zh) by simp [ic]] at hP4
                clear ho1 ho2
                go_wp2
                go_loopw [105] (fun i wr => ∃ k : Nat, k ≤ zl.length + zh.length ∧ i = .int .i64 k ∧ Ext w wr ∧ Rd wr 1 A1 zs.length (ic zs) ∧ Rd wr 1 A4 (zl.length + zh.length) (ic (zl ++ zh))) (fun i _ => zl.length + zh.length - (intOf i).toNat)
                case atStart => exact ⟨0, Nat.zero_le _, rfl, hE.tr (by repeat (first | exact Ext.refl' _ | assumption | apply Ext.ex' | apply Ext.al | apply Ext.drN | apply Ext.dr)), hP1.ext (by repeat (first | exact Ext.refl' _ | assumption | apply Ext.ex' | apply Ext.al | apply Ext.drN | apply Ext.dr)), hP4.ext (by repeat (first | exact Ext.refl' _ | assumption | apply Ext.ex' | apply Ext.al | apply Ext.drN | apply Ext.dr))⟩
                case round =>
                  obtain ⟨k, hk, rfl, hE, hP1, hP4⟩ := hrel
                  by_cases hlt : k < zl.length + zh.length
                  · have hlt2 : k < (zl ++ zh).length := by rw [hZ]; exact hlt
                    have h4 := hP4
                    rw [← hZ] at h4
                    obtain ⟨b, o, rfl, hb, hc1⟩ := h4.int hlt2
                    clear h4
                    have hin := (HPI.out (zl ++ zh)[k]).2 (List.mem_append.1 (List.getElem_mem hlt2))
                    clear hZ
                    generalize (zl ++ zh)[k] = zz at hc1 hin
                    clear hlt2
                    have H1 := Lib.hid (fun w h => containsX_any A1 c1 zs zz w h (by omega))
                    rw [decide_eq_true hin] at H1
                    clear hin
                    go_wp2_with (go_at_call 25; (with_reducible refine Calls.mono (H1.out _ (hP1.ext (by repeat (first | exact Ext.refl' _ | assumption | apply Ext.ex' | apply Ext.al | apply Ext.drN | apply Ext.dr)))) ?_); rintro e w1 ⟨rfl, hb1⟩; obtain ⟨y1, rfl⟩ := hb1.get; clear hb1)
                    go_roundw
                    case rel => exact ⟨k + 1, by omega, by go_num, hE.tr (by repeat (first | exact Ext.refl' _ | assumption | apply Ext.ex' | apply Ext.al | apply Ext.drN | apply Ext.dr)), hP1.ext (by repeat (first | exact Ext.refl' _ | assumption | apply Ext.ex' | apply Ext.al | apply Ext.drN | apply Ext.dr)), hP4.ext (by repeat (first | exact Ext.refl' _ | assumption | apply Ext.ex' | apply Ext.al | apply Ext.drN | apply Ext.dr))⟩
                    case measure => simp [intOf]; omega
                  · go_wp2_with (go_at_call 9; refine (works_any _).mono ?_; rintro e w1 ⟨rfl, hb1⟩; obtain ⟨z, rfl⟩ := hb1.get; clear hb1)
                    go_ret
                    exact ⟨rfl, hE.tr (by repeat (first | exact Ext.refl' _ | assumption | apply Ext.ex' | apply Ext.al | apply Ext.drN | apply Ext.dr))⟩
end Go.Proofs.Ytgobmiahhmajdaa
