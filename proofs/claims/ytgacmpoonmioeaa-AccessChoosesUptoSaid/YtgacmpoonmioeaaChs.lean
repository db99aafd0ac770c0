/- The reference of predicates: plain, mirrored, condition. -/
import Derived.Test.YtgacmpoonmioeaaChr
import Derived.Test.YtgacmpoonmioeaaFrm
import Derived.Test.YtgacmpoonmioeaaFrq
set_option linter.unusedSimpArgs false
set_option linter.unusedVariables false
namespace Go.Proofs.Ytgacmpoonmioeaa
open Go.RowKit


def plB (op : Int) (v : Va) : Bool := op == 1 && vvB v && !(v.k == 0)
theorem plB_iff {op : Int} {v : Va} : plB op v = true ↔ op = 1 ∧ v.k ≠ 0 ∧ vvB v = true := by
  unfold plB
  simp only [Bool.and_eq_true, beq_iff_eq, Bool.not_eq_true', beq_eq_false_iff_ne]
  constructor
  · rintro ⟨⟨h1, h2⟩, h3⟩
    exact ⟨h1, h3, h2⟩
  · rintro ⟨h1, h2, h3⟩
    exact ⟨⟨h1, h3⟩, h2⟩
theorem rplain_any (o i : Int) (v : Va) (nm : ByteArray) (A : Option Addr) (n c : Nat) (b : Bool) (hb : plB o v = b) (w : World) (hv : v.t.size ≤ 9223372036854775807) :
    Calls Try.prog 55 #[exag o i v nm A n c] w fun e w' => e = .returned (.bool b) ∧ Ext w w' := by
  have HV := Lib.hid (fun w => rvv_any v w hv)
  unfold plB at hb
  have HB := Lib.hid hb
  clear hb
  rcases h1 : (o == 1) with _ | _
  · have hb : b = false := by rw [← HB.out, h1]; rfl
    subst hb
    go_enter Try.func55, Try.ntmps55
    go_wp2
    go_ret
    exact ⟨rfl, by repeat (first | exact Ext.refl' _ | assumption | apply Ext.ex' | apply Ext.al | apply Ext.drN | apply Ext.dr)⟩
  rcases h2 : vvB v with _ | _
  · have hb : b = false := by rw [← HB.out, h2, Bool.and_false]; rfl
    rw [h2] at HV
    subst hb
    clear h2 HB
    go_enter Try.func55, Try.ntmps55
    go_wp2_with fail
    refine (HV.out _).mono ?_
    rintro e w1 ⟨rfl, hb1⟩
    obtain ⟨x1, rfl⟩ := hb1.get
    clear hb1
    go_wp2
    go_ret
    exact ⟨rfl, by repeat (first | exact Ext.refl' _ | assumption | apply Ext.ex' | apply Ext.al | apply Ext.drN | apply Ext.dr)⟩
  rw [h2] at HV
  have hb : (!(v.k == 0)) = b := by rw [← HB.out, h1, h2]; rfl
  clear h2 HB
  rcases h3 : (v.k == 0) with _ | _
  · rw [h3] at hb
    subst hb
    have h4 : (v.k != 0) = true := by simpa using h3
    go_enter Try.func55, Try.ntmps55
    go_wp2_with fail
    refine (HV.out _).mono ?_
    rintro e w1 ⟨rfl, hb1⟩
    obtain ⟨x1, rfl⟩ := hb1.get
    clear hb1
    go_wp2
    go_ret
    exact ⟨rfl, by repeat (first | exact Ext.refl' _ | assumption | apply Ext.ex' | apply Ext.al | apply Ext.drN | apply Ext.dr)⟩
  · rw [h3] at hb
    subst hb
    have h4 : (v.k != 0) = false := by simpa using h3
    go_enter Try.func55, Try.ntmps55
    go_wp2_with fail
    refine (HV.out _).mono ?_
    rintro e w1 ⟨rfl, hb1⟩
    obtain ⟨x1, rfl⟩ := hb1.get
    clear hb1
    go_wp2
    go_ret
    exact ⟨rfl, by repeat (first | exact Ext.refl' _ | assumption | apply Ext.ex' | apply Ext.al | apply Ext.drN | apply Ext.dr)⟩
set_option maxHeartbeats 800000 in
theorem rmirrored_any (op : Int) (w : World) : Calls Try.prog 56 #[.int .i64 op] w fun e w' => e = .returned (.int .i64 (mirF op)) ∧ Ext w w' := by
  go_enter Try.func56, Try.ntmps56
  go_wp2
  all_goals go_ret
  all_goals refine ⟨?_, by repeat (first | exact Ext.refl' _ | assumption | apply Ext.ex' | apply Ext.al | apply Ext.drN | apply Ext.dr)⟩
  all_goals simp_all [mirF]
theorem condF_yes {o i : Int} {v : Va} {nm : ByteArray} {a b : Ex} (hc : isCmp o = true) (h2 : a.op = 2) (hp : plB b.op b.v = true) : condF (.mk o i v nm [a, b]) = some ⟨o, a.i, b.v⟩ := by
  obtain ⟨h3, h4, h5⟩ := plB_iff.1 hp
  rw [condF_two hc, if_neg (by omega), cd_of h2 h3 h4 h5]
theorem condF_mir {o i : Int} {v : Va} {nm : ByteArray} {a b : Ex} (hc : isCmp o = true) (h1 : ¬ a.op = 2) (h2 : b.op = 2) (hp : plB a.op a.v = true) : condF (.mk o i v nm [a, b]) = some ⟨mirF o, b.i, a.v⟩ := by
  obtain ⟨h3, h4, h5⟩ := plB_iff.1 hp
  rw [condF_two hc, if_pos h3, cd_of h2 h3 h4 h5]
theorem condF_none {o i : Int} {v : Va} {nm : ByteArray} {a b : Ex} (hc : isCmp o = true) (h1 : ¬ (a.op = 2 ∧ plB b.op b.v = true)) (h2 : ¬ (b.op = 2 ∧ plB a.op a.v = true)) : condF (.mk o i v nm [a, b]) = none := by
  rw [condF_two hc]
  split
  · exact cd_no fun h => h2 ⟨h.1, plB_iff.2 ⟨h.2.1, h.2.2.1, h.2.2.2⟩⟩
  · exact cd_no fun h => h1 ⟨h.1, plB_iff.2 ⟨h.2.1, h.2.2.1, h.2.2.2⟩⟩
theorem CPost.mk {w w' : World} {r : Option Cd} {b : Bool} {c : Cd} (hr : r = if b then some c else none) (hE : Ext w w') (hz : b = false → c = cdz := by simp) : CPost w r (.returned (.tuple #[cdag c, .bool b])) w' := by
  subst hr
  cases b
  · exact ⟨by rw [hz rfl]; rfl, hE⟩
  · exact ⟨rfl, hE⟩
set_option maxRecDepth 100000 in
set_option maxHeartbeats 8000000 in
theorem rcondition_two (o i : Int) (v : Va) (nm : ByteArray) (A : Option Addr) (a b : Ex) (c : Nat) (css : List (List Value)) (w : World) (hR : Rd w 7 A 2 css.flatten) (hs : REs w [a, b] css) (hcmp : isCmp o = true) :
    Calls Try.prog 41 #[exag o i v nm A 2 c] w (CPost w (condF (.mk o i v nm [a, b]))) := by
  obtain ⟨b0, o0, rfl, hb0, A1, c1, css1, p0, p1, p2, p3, p4, p5, p6, p7, p8, p9, p10, p11, p12⟩ := RE.arg (args := [a, b]) hR hs (k := 0) (by simp)
  obtain ⟨b1, o1, he, hb1, A2, c2, css2, q0, q1, q2, q3, q4, q5, q6, q7, q8, q9, q10, q11, q12⟩ := RE.arg (args := [a, b]) hR hs (k := 1) (by simp)
  simp only [Option.some.injEq, Addr.mk.injEq, and_true] at he
  obtain ⟨rfl, rfl⟩ := he
  simp only [List.getElem_cons_zero, List.getElem_cons_succ, Nat.zero_mul, Nat.add_zero, Nat.one_mul] at p0 p1 p2 p3 p4 p5 p6 p7 p8 p9 p10 p11 p12 q0 q1 q2 q3 q4 q5 q6 q7 q8 q9 q10 q11 q12
  have HPLA : Hid (∀ (pa : Bool), plB a.op a.v = pa → ∀ W, Calls Try.prog 55 #[exag a.op a.i a.v a.nm A1 a.args.length c1] W fun e w' => e = .returned (.bool pa) ∧ Ext W w') := Lib.hid fun pa h W => rplain_any a.op a.i a.v a.nm A1 a.args.length c1 pa h W p7
  have HPLB : Hid (∀ (pb : Bool), plB b.op b.v = pb → ∀ W, Calls Try.prog 55 #[exag b.op b.i b.v b.nm A2 b.args.length c2] W fun e w' => e = .returned (.bool pb) ∧ Ext W w') := Lib.hid fun pb h W => rplain_any b.op b.i b.v b.nm A2 b.args.length c2 pb h W q7
  clear p7 p8 p9 p10 p11 p12 q7 q8 q9 q10 q11 q12 hR hs
  obtain ⟨r, hr⟩ : ∃ r, condF (.mk o i v nm [a, b]) = r := ⟨_, rfl⟩
  have HF := Lib.hid hr.symm
  rw [hr]
  clear hr
  have hsw : (o == 7) = true ∨ ((o == 7) = false ∧ (o == 9) = true) ∨ ((o == 7) = false ∧ (o == 9) = false ∧ (o == 10) = true) ∨ ((o == 7) = false ∧ (o == 9) = false ∧ (o == 10) = false ∧ (o == 11) = true) ∨ ((o == 7) = false ∧ (o == 9) = false ∧ (o == 10) = false ∧ (o == 11) = false ∧ (o == 12) = true) := by
    have h := hcmp
    simp only [isCmp, Bool.or_eq_true] at h; revert h
    cases o == 7 <;> cases o == 9 <;> cases o == 10 <;> cases o == 11 <;> cases o == 12 <;> simp
  rcases hsw with h7 | ⟨h7, h9⟩ | ⟨h7, h9, h10⟩ | ⟨h7, h9, h10, h11⟩ | ⟨h7, h9, h10, h11, h12⟩
  all_goals (
    go_enter Try.func41, Try.ntmps41
    rcases h2 : (a.op == 2) with _ | _
    · have h2n : ¬ a.op = 2 := by simpa using h2
      rcases h3 : (b.op == 2) with _ | _
      · have HR : Hid (r = none) := Lib.hid (by rw [HF.out]; exact condF_none hcmp (fun h => h2n h.1) (fun h => by simp [h.1] at h3))
        clear h2n
        go_wp2
        refine bodyPost_ret (v := .tuple #[cdag (cdz), .bool false]) ?_ rfl (CPost.mk HR.out (by repeat (first | exact Ext.refl' _ | assumption | apply Ext.ex' | apply Ext.al | apply Ext.drN | apply Ext.dr)))
        simp [results, Try.results41, go_sem, ↓IntWalk.iteOmega, cdz]
      · have h3y : b.op = 2 := by simpa using h3
        rcases hpa : plB a.op a.v with _ | _
        · have HR : Hid (r = none) := Lib.hid (by rw [HF.out]; exact condF_none hcmp (fun h => h2n h.1) (fun h => by rw [hpa] at h; cases h.2))
          have HPA := Lib.hid fun w => HPLA.out false hpa w
          clear h2n h3y hpa
          go_wp2_with fail
          refine (HPA.out _).mono ?_
          rintro e w1 ⟨rfl, hb1⟩
          obtain ⟨x1, rfl⟩ := hb1.get
          clear hb1
          go_wp2
          refine bodyPost_ret (v := .tuple #[cdag (cdz), .bool false]) ?_ rfl (CPost.mk HR.out (by repeat (first | exact Ext.refl' _ | assumption | apply Ext.ex' | apply Ext.al | apply Ext.drN | apply Ext.dr)))
          simp [results, Try.results41, go_sem, ↓IntWalk.iteOmega, cdz]
        · have HR : Hid (r = some ⟨mirF o, b.i, a.v⟩) := Lib.hid (by rw [HF.out]; exact condF_mir hcmp h2n h3y hpa)
          have HPA := Lib.hid fun w => HPLA.out true hpa w
          clear h2n h3y hpa
          go_wp2_with fail
          refine (HPA.out _).mono ?_
          rintro e w1 ⟨rfl, hb1⟩
          obtain ⟨x1, rfl⟩ := hb1.get
          clear hb1
          go_wp2_with fail
          refine wp_region_held_drew (S := (fun w' => w'.cell? ⟨w.heap.size, 0, none⟩ = some (.int .i64 o) ∧ w'.cell? ⟨w.heap.size + 1 + 1, 2, none⟩ = some (.int .i64 a.v.k) ∧ w'.cell? ⟨w.heap.size + 1 + 1, 3, none⟩ = some (.int .i64 a.v.i) ∧ w'.cell? ⟨w.heap.size + 1 + 1, 4, none⟩ = some (.string a.v.t) ∧ w'.cell? ⟨w.heap.size + 1 + 1 + 1, 1, none⟩ = some (.int .i64 b.i))) (by kernel_rfl) (by simp [go_sem, ↓IntWalk.iteOmega, *]) (fun hHeld => ?_)
          refine wpAnyH_take (i := 0) (oi := ?oi1) (v := ?v1) ?hi1 (by kernel_rfl) (by kernel_rfl) (by kernel_rfl) ?hQ1 ?hy1 (by assumption) ?_
          case hi1 => (simp only [List.getElem?_toArray, List.getElem?_cons_succ, List.getElem?_cons_zero]; try rfl)
          case hQ1 => exact fun _ _ _ h => h
          case hy1 => (refine Or.inl ⟨by rfl, ?_⟩; intro wq hSw; (try dsimp only at hSw); go_simp; (try with_reducible rfl))
          (try simp only [Act.put, List.setIfInBounds_toArray, List.set_cons_zero, List.set_cons_succ])
          refine wpAnyH_take (i := 1) (oi := ?oi2) (v := ?v2) ?hi2 (by kernel_rfl) (by kernel_rfl) (by kernel_rfl) ?hQ2 ?hy2 (by assumption) ?_
          case hi2 => (simp only [List.getElem?_toArray, List.getElem?_cons_succ, List.getElem?_cons_zero]; try rfl)
          case hQ2 => exact fun _ _ _ h => h
          case hy2 => (refine Or.inl ⟨by rfl, ?_⟩; intro wq hSw; (try dsimp only at hSw); go_simp; (try with_reducible rfl))
          (try simp only [Act.put, List.setIfInBounds_toArray, List.set_cons_zero, List.set_cons_succ])
          refine wpAnyH_take (i := 3) (oi := ?oi3) (v := ?v3) ?hi3 (by kernel_rfl) (by kernel_rfl) (by kernel_rfl) ?hQ3 ?hy3 (by assumption) ?_
          case hi3 => (simp only [List.getElem?_toArray, List.getElem?_cons_succ, List.getElem?_cons_zero]; try rfl)
          case hQ3 => exact fun _ _ _ h => h
          case hy3 => (refine Or.inl ⟨by rfl, ?_⟩; intro wq hSw; (try dsimp only at hSw); go_simp; (try with_reducible rfl))
          (try simp only [Act.put, List.setIfInBounds_toArray, List.set_cons_zero, List.set_cons_succ])
          refine wpAnyH_take (i := 4) (oi := ?oi4) (v := ?v4) ?hi4 (by kernel_rfl) (by kernel_rfl) (by kernel_rfl) ?hQ4 ?hy4 (by assumption) ?_
          case hi4 => (simp only [List.getElem?_toArray, List.getElem?_cons_succ, List.getElem?_cons_zero]; try rfl)
          case hQ4 => exact fun _ _ _ h => h
          case hy4 => (refine Or.inl ⟨by rfl, ?_⟩; intro wq hSw; (try dsimp only at hSw); go_simp; (try with_reducible rfl))
          (try simp only [Act.put, List.setIfInBounds_toArray, List.set_cons_zero, List.set_cons_succ])
          refine wpAnyH_take (i := 5) (oi := ?oi5) (v := ?v5) ?hi5 (by kernel_rfl) (by kernel_rfl) (by kernel_rfl) ?hQ5 ?hy5 (by assumption) ?_
          case hi5 => (simp only [List.getElem?_toArray, List.getElem?_cons_succ, List.getElem?_cons_zero]; try rfl)
          case hQ5 => exact fun _ _ _ h => h
          case hy5 => (refine Or.inl ⟨by rfl, ?_⟩; intro wq hSw; (try dsimp only at hSw); go_simp; (try with_reducible rfl))
          (try simp only [Act.put, List.setIfInBounds_toArray, List.set_cons_zero, List.set_cons_succ])
          refine wpAnyH_take (i := 6) (oi := ?oi6) (v := ?v6) ?hi6 (by kernel_rfl) (by kernel_rfl) (by kernel_rfl) ?hQ6 ?hy6 (by assumption) ?_
          case hi6 => (simp only [List.getElem?_toArray, List.getElem?_cons_succ, List.getElem?_cons_zero]; try rfl)
          case hQ6 => exact fun _ _ _ h => h
          case hy6 => (refine Or.inl ⟨by rfl, ?_⟩; intro wq hSw; (try dsimp only at hSw); go_simp; (try with_reducible rfl))
          (try simp only [Act.put, List.setIfInBounds_toArray, List.set_cons_zero, List.set_cons_succ])
          refine wpAnyH_ready (rs := [2]) (by kernel_rfl) (by simp) ?_
          refine AllReadyH.cons (o := ?oi7) ?hi7 ?ti7 AllReadyH.nil
          case hi7 => (simp only [List.getElem?_toArray, List.getElem?_cons_succ, List.getElem?_cons_zero]; try rfl)
          case ti7 =>
            intro KQ hKQ
            go_simp
            go_at_call 56
            refine Calls.mono (rmirrored_any _ _) ?_
            rintro e w1 ⟨rfl, hb1⟩
            obtain ⟨x2, rfl⟩ := hb1.get
            clear hb1
            refine hKQ.out _ _ (by simp [go_sem, ↓IntWalk.iteOmega, *]) (fun hHeld2 => ?_)
            clear hHeld hKQ KQ; have hHeld := hHeld2; clear hHeld2
            (try simp only [Act.put, List.setIfInBounds_toArray, List.set_cons_zero, List.set_cons_succ])
            refine wpAnyH_take (i := 7) (oi := ?oi8) (v := ?v8) ?hi8 (by kernel_rfl) (by kernel_rfl) (by kernel_rfl) ?hQ8 ?hy8 (by assumption) ?_
            case hi8 => (simp only [List.getElem?_toArray, List.getElem?_cons_succ, List.getElem?_cons_zero]; try rfl)
            case hQ8 => exact fun _ _ _ h => h
            case hy8 => (refine Or.inl ⟨by rfl, ?_⟩; intro wq hSw; (try dsimp only at hSw); go_simp; (try with_reducible rfl))
            (try simp only [Act.put, List.setIfInBounds_toArray, List.set_cons_zero, List.set_cons_succ])
            refine wpAnyH_ready (rs := [8]) (by kernel_rfl) (by simp) ?_
            refine AllReadyH.cons (o := ?oi9) ?hi9 ?ti9 AllReadyH.nil
            case hi9 => (simp only [List.getElem?_toArray, List.getElem?_cons_succ, List.getElem?_cons_zero]; try rfl)
            case ti9 =>
              intro KQ hKQ
              go_simp
              (repeat (simp only [go_sem, ↓IntWalk.iteOmega, ↓reduceIte, Bool.false_eq_true]; (try go_simp)))
              refine hKQ.out _ _ (by simp [go_sem, ↓IntWalk.iteOmega, *]) (fun hHeld2 => ?_)
              clear hHeld hKQ KQ; have hHeld := hHeld2; clear hHeld2
              (try simp only [Act.put, List.setIfInBounds_toArray, List.set_cons_zero, List.set_cons_succ])
              refine wpAnyH_take (i := 9) (oi := ?oi10) (v := ?v10) ?hi10 (by kernel_rfl) (by kernel_rfl) (by kernel_rfl) ?hQ10 ?hy10 (by assumption) ?_
              case hi10 => (simp only [List.getElem?_toArray, List.getElem?_cons_succ, List.getElem?_cons_zero]; try rfl)
              case hQ10 => exact fun _ _ _ h => h
              case hy10 => (refine Or.inl ⟨by rfl, ?_⟩; intro wq hSw; (try dsimp only at hSw); go_simp; (try with_reducible rfl))
              (try simp only [Act.put, List.setIfInBounds_toArray, List.set_cons_zero, List.set_cons_succ])
              refine wpAnyH_done (by kernel_rfl) ?_ _
              go_wp2
              refine bodyPost_ret (v := .tuple #[cdag (⟨mirF o, b.i, a.v⟩), .bool true]) ?_ rfl (CPost.mk HR.out (by repeat (first | exact Ext.refl' _ | assumption | apply Ext.ex' | apply Ext.al | apply Ext.drN | apply Ext.dr)))
              simp [results, Try.results41, go_sem, ↓IntWalk.iteOmega, cdz]
    · have h2y : a.op = 2 := by simpa using h2
      rcases hpb : plB b.op b.v with _ | _
      · have HPB := Lib.hid fun w => HPLB.out false hpb w
        have hpa : plB a.op a.v = false := by rw [h2y]; rfl
        have HR : Hid (r = none) := Lib.hid (by rw [HF.out]; exact condF_none hcmp (fun h => by rw [hpb] at h; cases h.2) (fun h => by rw [hpa] at h; cases h.2))
        have HPA := Lib.hid fun w => HPLA.out false hpa w
        clear h2y hpb hpa
        go_wp2_with fail
        refine (HPB.out _).mono ?_
        rintro e w1 ⟨rfl, hb1⟩
        obtain ⟨x1, rfl⟩ := hb1.get
        clear hb1
        rcases h3 : (b.op == 2) with _ | _
        · go_wp2
          refine bodyPost_ret (v := .tuple #[cdag (cdz), .bool false]) ?_ rfl (CPost.mk HR.out (by repeat (first | exact Ext.refl' _ | assumption | apply Ext.ex' | apply Ext.al | apply Ext.drN | apply Ext.dr)))
          simp [results, Try.results41, go_sem, ↓IntWalk.iteOmega, cdz]
        · go_wp2_with fail
          refine (HPA.out _).mono ?_
          rintro e w1 ⟨rfl, hb1⟩
          obtain ⟨x2, rfl⟩ := hb1.get
          clear hb1
          go_wp2
          refine bodyPost_ret (v := .tuple #[cdag (cdz), .bool false]) ?_ rfl (CPost.mk HR.out (by repeat (first | exact Ext.refl' _ | assumption | apply Ext.ex' | apply Ext.al | apply Ext.drN | apply Ext.dr)))
          simp [results, Try.results41, go_sem, ↓IntWalk.iteOmega, cdz]
      · have HPB := Lib.hid fun w => HPLB.out true hpb w
        have HR : Hid (r = some ⟨o, a.i, b.v⟩) := Lib.hid (by rw [HF.out]; exact condF_yes hcmp h2y hpb)
        clear h2y hpb
        go_wp2_with fail
        refine (HPB.out _).mono ?_
        rintro e w1 ⟨rfl, hb1⟩
        obtain ⟨x1, rfl⟩ := hb1.get
        clear hb1
        go_wp2
        refine bodyPost_ret (v := .tuple #[cdag (⟨o, a.i, b.v⟩), .bool true]) ?_ rfl (CPost.mk HR.out (by repeat (first | exact Ext.refl' _ | assumption | apply Ext.ex' | apply Ext.al | apply Ext.drN | apply Ext.dr)))
        simp [results, Try.results41, go_sem, ↓IntWalk.iteOmega, cdz])

end Go.Proofs.Ytgacmpoonmioeaa
