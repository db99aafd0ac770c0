/- ordered (a merge sort) and differ of the reference. -/
import Derived.Test.YtpifjhoelnacgaaGreatCfH
import Derived.Deep.RegionHeld3
set_option linter.unusedSimpArgs false
set_option linter.unusedVariables false
namespace Go.Proofs.YtpifjhoelnacgaaGreat
open Go.RowKit


theorem vev_length (l : List VR) : (vev l).length = l.length * 9 := by unfold vev; rw [evl_length]; simp
theorem Rd.takeVe {w : World} {b o : Nat} {l : List VR} (h : Rd w 9 (some ⟨b, o, none⟩) l.length (vev l)) (k : Nat) : Rd w 9 (some ⟨b, o, none⟩) (l.take k).length (vev (l.take k)) := by
  refine ⟨vev_length _, fun h0 => ?_⟩
  have hl : (l.take k).length ≤ l.length := by simp; omega
  obtain ⟨b', o', he, hb, hc⟩ := h.2 (by omega)
  refine ⟨b', o', he, hb, fun j u hu => hc j u ?_⟩
  rw [← List.take_append_drop k l, vev_append, List.getElem?_append_left (List.getElem?_eq_some_iff.1 hu).1]
  exact hu
theorem Rd.dropVe {w : World} {b o : Nat} {l : List VR} (h : Rd w 9 (some ⟨b, o, none⟩) l.length (vev l)) (k : Nat) (hk : k ≤ l.length) : Rd w 9 (some ⟨b, o + k * 9, none⟩) (l.drop k).length (vev (l.drop k)) := by
  refine ⟨vev_length _, fun h0 => ?_⟩
  have hl : (l.drop k).length ≤ l.length := by simp
  obtain ⟨b', o', he, hb, hc⟩ := h.2 (by omega)
  simp only [Option.some.injEq, Addr.mk.injEq, and_true] at he
  obtain ⟨rfl, rfl⟩ := he
  refine ⟨b, o + k * 9, rfl, hb, fun j u hu => ?_⟩
  have := hc (k * 9 + j) u (by
    rw [← List.take_append_drop k l, vev_append, List.getElem?_append_right (by rw [vev_length]; simp; omega), vev_length]
    rw [show k * 9 + j - (l.take k).length * 9 = j by simp; omega]
    exact hu)
  rw [show o + k * 9 + j = o + (k * 9 + j) by omega]
  exact this
theorem Rd.tailVe {w : World} {b o : Nat} {x : VR} {l : List VR} (h : Rd w 9 (some ⟨b, o, none⟩) (l.length + 1) (vev (x :: l))) : Rd w 9 (some ⟨b, o + 9, none⟩) l.length (vev l) := by
  have := Rd.dropVe (l := x :: l) h 1 (by simp)
  simpa using this
theorem Rd.tail1 {w : World} {A : Option Addr} {l : List VR} (h : l.length = 0) : Rd w 9 A l.length (vev l) := by
  obtain rfl := List.eq_nil_of_length_eq_zero h
  exact Rd.nil
/-- merging two sorted lists: what is left of them and what was put out -/
def MrgS (w W1 : World) (n : Nat) (ra rb : List VR) (va vb vo : Value) (wr : World) : Prop :=
  ∃ (xs ys acc : List VR) (Aa : Option Addr) (ca : Nat) (Ab : Option Addr) (cb : Nat), va = .slice Aa xs.length ca ∧ vb = .slice Ab ys.length cb ∧ xs.length ≤ ca ∧ ys.length ≤ cb ∧ ca ≤ maxLen ∧ cb ≤ maxLen ∧ Rd W1 9 Aa xs.length (vev xs) ∧ Rd W1 9 Ab ys.length (vev ys) ∧ wr.ownsRow W1.heap.size 41 9 vo acc.length (vev acc) ∧ Ext W1 wr ∧ acc.length + xs.length + ys.length = n ∧ Hid (mrgV ra rb = acc ++ mrgV xs ys) ∧ Hid (∀ p ∈ xs, VROk w p) ∧ Hid (∀ p ∈ ys, VROk w p)
theorem MrgS.mk {w W1 : World} {n : Nat} {ra rb : List VR} {va vb vo : Value} {wr : World} (h : ∃ (xs ys acc : List VR) (Aa : Option Addr) (ca : Nat) (Ab : Option Addr) (cb : Nat), va = .slice Aa xs.length ca ∧ vb = .slice Ab ys.length cb ∧ xs.length ≤ ca ∧ ys.length ≤ cb ∧ ca ≤ maxLen ∧ cb ≤ maxLen ∧ Rd W1 9 Aa xs.length (vev xs) ∧ Rd W1 9 Ab ys.length (vev ys) ∧ wr.ownsRow W1.heap.size 41 9 vo acc.length (vev acc) ∧ Ext W1 wr ∧ acc.length + xs.length + ys.length = n ∧ Hid (mrgV ra rb = acc ++ mrgV xs ys) ∧ Hid (∀ p ∈ xs, VROk w p) ∧ Hid (∀ p ∈ ys, VROk w p)) : MrgS w W1 n ra rb va vb vo wr := h
def lenV : Value → Nat
  | .slice _ n _ => n
  | _ => 0
set_option maxRecDepth 100000 in
set_option maxHeartbeats 8000000 in
theorem ordered_any : ∀ (m : Nat) (l : List VR), l.length ≤ m → ∀ (A : Option Addr) (c : Nat) (w : World), l.length ≤ c → c ≤ maxLen → Rd w 9 A l.length (vev l) → (∀ p ∈ l, VROk w p) → l.length ≤ 262144 →
    Calls Tryz.prog 42 #[.slice A l.length c] w fun e w' => ∃ A' c' r, e = .returned (.slice A' r.length c') ∧ r.length ≤ c' ∧ c' ≤ maxLen ∧ Ext w w' ∧ Rd w' 9 A' r.length (vev r) ∧ Ordd l r := by
  intro m
  induction m with
  | zero =>
    intro l hm A c w hc hcm hR hok hl
    have hs : l.length < 2 := by omega
    have HO := Lib.hid (Ordd.short hs)
    clear hok
    go_enter Tryz.func42, Tryz.ntmps42
    go_wp2
    go_ret
    exact ⟨A, c, l, rfl, hc, hcm, by repeat (first | exact Ext.refl' _ | assumption | apply Ext.ex' | apply Ext.al | apply Ext.drN | apply Ext.dr), hR, HO.out⟩
  | succ m ih =>
    intro l hm A c w hc hcm hR hok hl
    by_cases hs : l.length < 2
    · have HO := Lib.hid (Ordd.short hs)
      clear hok ih
      go_enter Tryz.func42, Tryz.ntmps42
      go_wp2
      go_ret
      exact ⟨A, c, l, rfl, hc, hcm, by repeat (first | exact Ext.refl' _ | assumption | apply Ext.ex' | apply Ext.al | apply Ext.drN | apply Ext.dr), hR, HO.out⟩
    · obtain ⟨b, o, rfl, hbw, _⟩ := hR.2 (by omega)
      have h1 : (l.take (l.length / 2)).length = l.length / 2 := by simp; omega
      have h2 : (l.drop (l.length / 2)).length = l.length - l.length / 2 := by simp
      have IH1 : Hid (∀ W, Ext w W → Calls Tryz.prog 42 #[.slice (some ⟨b, o, none⟩) (l.length / 2) c] W fun e w' => ∃ A' c' r, e = .returned (.slice A' r.length c') ∧ r.length ≤ c' ∧ c' ≤ maxLen ∧ Ext W w' ∧ Rd w' 9 A' r.length (vev r) ∧ Ordd (l.take (l.length / 2)) r) := Lib.hid (fun W hE => by
        have := ih (l.take (l.length / 2)) (by omega) (some ⟨b, o, none⟩) c W (by omega) hcm ((hR.takeVe _).ext hE) (fun p hp => (hok p (List.mem_of_mem_take hp)).ext hE) (by omega)
        rwa [h1] at this)
      have IH2 : Hid (∀ W, Ext w W → Calls Tryz.prog 42 #[.slice (some ⟨b, o + l.length / 2 * 9, none⟩) (l.length - l.length / 2) (c - l.length / 2)] W fun e w' => ∃ A' c' r, e = .returned (.slice A' r.length c') ∧ r.length ≤ c' ∧ c' ≤ maxLen ∧ Ext W w' ∧ Rd w' 9 A' r.length (vev r) ∧ Ordd (l.drop (l.length / 2)) r) := Lib.hid (fun W hE => by
        have := ih (l.drop (l.length / 2)) (by omega) (some ⟨b, o + l.length / 2 * 9, none⟩) (c - l.length / 2) W (by omega) (by omega) ((hR.dropVe _ (by omega)).ext hE) (fun p hp => (hok p (List.mem_of_mem_drop hp)).ext hE) (by omega)
        rwa [h2] at this)
      have HOK := Lib.hid hok
      clear ih hok h1 h2
      obtain ⟨h, hh⟩ : ∃ h, l.length / 2 = h := ⟨_, rfl⟩
      rw [hh] at IH1 IH2
      have hh1 : 1 ≤ h := by omega
      have hh2 : h < l.length := by omega
      have hh3 : h < c := by omega
      have hle1 : h ≤ c := by omega
      have hle2 : h ≤ l.length := by omega
      have hle3 : ¬ c = h := by omega
      have HWP : Hid ((l.length : Int) / 2 = (h : Int)) := Lib.hid (by omega)
      have HWQ : Hid (IntKind.i64.wrap ((l.length : Int) / 2) = (h : Int)) := Lib.hid (by rw [HWP.out]; exact IntWalk.i64_in _ (by omega))
      clear hh hs hm
      go_enter Tryz.func42, Tryz.ntmps42
      go_wp2_with fail
      refine wp_region_held_drew (S := (fun _ => True)) (by kernel_rfl) (by trivial) (fun hHeld => ?_)
      refine wpAnyH_take (i := 0) (oi := ?oi1) (v := ?v1) ?hi1 (by kernel_rfl) (by kernel_rfl) (by kernel_rfl) ?hQ1 ?hy1 (by assumption) ?_
      case hi1 => (simp only [List.getElem?_toArray, List.getElem?_cons_succ, List.getElem?_cons_zero]; try rfl)
      case hQ1 => exact fun _ _ _ h => h
      case hy1 => (refine Or.inl ⟨by rfl, ?_⟩; intro wq hSw; (try dsimp only at hSw); go_simp; (try simp only [HWQ.out]); (try simp only [HWP.out]); (try rw [if_pos hle1]); (try rw [if_pos hle2]); (try rw [if_neg hle3]);  (try with_reducible rfl))
      (try simp only [Act.put, List.setIfInBounds_toArray, List.set_cons_zero, List.set_cons_succ])
      refine wpAnyH_take (i := 1) (oi := ?oi2) (v := ?v2) ?hi2 (by kernel_rfl) (by kernel_rfl) (by kernel_rfl) ?hQ2 ?hy2 (by assumption) ?_
      case hi2 => (simp only [List.getElem?_toArray, List.getElem?_cons_succ, List.getElem?_cons_zero]; try rfl)
      case hQ2 => exact fun _ _ _ h => h
      case hy2 => (refine Or.inl ⟨by rfl, ?_⟩; intro wq hSw; (try dsimp only at hSw); go_simp; (try simp only [HWQ.out]); (try simp only [HWP.out]); (try rw [if_pos hle1]); (try rw [if_pos hle2]); (try rw [if_neg hle3]);  (try with_reducible rfl))
      (try simp only [Act.put, List.setIfInBounds_toArray, List.set_cons_zero, List.set_cons_succ])
      refine wpAnyH_take (i := 2) (oi := ?oi3) (v := ?v3) ?hi3 (by kernel_rfl) (by kernel_rfl) (by kernel_rfl) ?hQ3 ?hy3 (by assumption) ?_
      case hi3 => (simp only [List.getElem?_toArray, List.getElem?_cons_succ, List.getElem?_cons_zero]; try rfl)
      case hQ3 => exact fun _ _ _ h => h
      case hy3 => (refine Or.inl ⟨by rfl, ?_⟩; intro wq hSw; (try dsimp only at hSw); go_simp; (try simp only [HWQ.out]); (try simp only [HWP.out]); (try rw [if_pos hle1]); (try rw [if_pos hle2]); (try rw [if_neg hle3]);  (try with_reducible rfl))
      (try simp only [Act.put, List.setIfInBounds_toArray, List.set_cons_zero, List.set_cons_succ])
      refine wpAnyH_take (i := 3) (oi := ?oi4) (v := ?v4) ?hi4 (by kernel_rfl) (by kernel_rfl) (by kernel_rfl) ?hQ4 ?hy4 (by assumption) ?_
      case hi4 => (simp only [List.getElem?_toArray, List.getElem?_cons_succ, List.getElem?_cons_zero]; try rfl)
      case hQ4 => exact fun _ _ _ h => h
      case hy4 => (refine Or.inl ⟨by rfl, ?_⟩; intro wq hSw; (try dsimp only at hSw); go_simp; (try simp only [HWQ.out]); (try simp only [HWP.out]); (try rw [if_pos hle1]); (try rw [if_pos hle2]); (try rw [if_neg hle3]);  (try with_reducible rfl))
      (try simp only [Act.put, List.setIfInBounds_toArray, List.set_cons_zero, List.set_cons_succ])
      refine wpAnyH_take (i := 4) (oi := ?oi5) (v := ?v5) ?hi5 (by kernel_rfl) (by kernel_rfl) (by kernel_rfl) ?hQ5 ?hy5 (by assumption) ?_
      case hi5 => (simp only [List.getElem?_toArray, List.getElem?_cons_succ, List.getElem?_cons_zero]; try rfl)
      case hQ5 => exact fun _ _ _ h => h
      case hy5 => (refine Or.inl ⟨by rfl, ?_⟩; intro wq hSw; (try dsimp only at hSw); go_simp; (try simp only [HWQ.out]); (try simp only [HWP.out]); (try rw [if_pos hle1]); (try rw [if_pos hle2]); (try rw [if_neg hle3]);  (try with_reducible rfl))
      (try simp only [Act.put, List.setIfInBounds_toArray, List.set_cons_zero, List.set_cons_succ])
      refine wpAnyH_take (i := 6) (oi := ?oi6) (v := ?v6) ?hi6 (by kernel_rfl) (by kernel_rfl) (by kernel_rfl) ?hQ6 ?hy6 (by assumption) ?_
      case hi6 => (simp only [List.getElem?_toArray, List.getElem?_cons_succ, List.getElem?_cons_zero]; try rfl)
      case hQ6 => exact fun _ _ _ h => h
      case hy6 => (refine Or.inl ⟨by rfl, ?_⟩; intro wq hSw; (try dsimp only at hSw); go_simp; (try simp only [HWQ.out]); (try simp only [HWP.out]); (try rw [if_pos hle1]); (try rw [if_pos hle2]); (try rw [if_neg hle3]);  (try with_reducible rfl))
      (try simp only [Act.put, List.setIfInBounds_toArray, List.set_cons_zero, List.set_cons_succ])
      refine wpAnyH_take (i := 7) (oi := ?oi7) (v := ?v7) ?hi7 (by kernel_rfl) (by kernel_rfl) (by kernel_rfl) ?hQ7 ?hy7 (by assumption) ?_
      case hi7 => (simp only [List.getElem?_toArray, List.getElem?_cons_succ, List.getElem?_cons_zero]; try rfl)
      case hQ7 => exact fun _ _ _ h => h
      case hy7 => (refine Or.inl ⟨by rfl, ?_⟩; intro wq hSw; (try dsimp only at hSw); go_simp; (try simp only [HWQ.out]); (try simp only [HWP.out]); (try rw [if_pos hle1]); (try rw [if_pos hle2]); (try rw [if_neg hle3]);  (try with_reducible rfl))
      (try simp only [Act.put, List.setIfInBounds_toArray, List.set_cons_zero, List.set_cons_succ])
      refine wpAnyH_take (i := 8) (oi := ?oi8) (v := ?v8) ?hi8 (by kernel_rfl) (by kernel_rfl) (by kernel_rfl) ?hQ8 ?hy8 (by assumption) ?_
      case hi8 => (simp only [List.getElem?_toArray, List.getElem?_cons_succ, List.getElem?_cons_zero]; try rfl)
      case hQ8 => exact fun _ _ _ h => h
      case hy8 => (refine Or.inl ⟨by rfl, ?_⟩; intro wq hSw; (try dsimp only at hSw); go_simp; (try simp only [HWQ.out]); (try simp only [HWP.out]); (try rw [if_pos hle1]); (try rw [if_pos hle2]); (try rw [if_neg hle3]);  (try with_reducible rfl))
      (try simp only [Act.put, List.setIfInBounds_toArray, List.set_cons_zero, List.set_cons_succ])
      refine wpAnyH_take (i := 9) (oi := ?oi9) (v := ?v9) ?hi9 (by kernel_rfl) (by kernel_rfl) (by kernel_rfl) ?hQ9 ?hy9 (by assumption) ?_
      case hi9 => (simp only [List.getElem?_toArray, List.getElem?_cons_succ, List.getElem?_cons_zero]; try rfl)
      case hQ9 => exact fun _ _ _ h => h
      case hy9 => (refine Or.inl ⟨by rfl, ?_⟩; intro wq hSw; (try dsimp only at hSw); go_simp; (try simp only [HWQ.out]); (try simp only [HWP.out]); (try rw [if_pos hle1]); (try rw [if_pos hle2]); (try rw [if_neg hle3]);  (try with_reducible rfl))
      (try simp only [Act.put, List.setIfInBounds_toArray, List.set_cons_zero, List.set_cons_succ])
      refine wpAnyH_take (i := 10) (oi := ?oi10) (v := ?v10) ?hi10 (by kernel_rfl) (by kernel_rfl) (by kernel_rfl) ?hQ10 ?hy10 (by assumption) ?_
      case hi10 => (simp only [List.getElem?_toArray, List.getElem?_cons_succ, List.getElem?_cons_zero]; try rfl)
      case hQ10 => exact fun _ _ _ h => h
      case hy10 => (refine Or.inl ⟨by rfl, ?_⟩; intro wq hSw; (try dsimp only at hSw); go_simp; (try simp only [HWQ.out]); (try simp only [HWP.out]); (try rw [if_pos hle1]); (try rw [if_pos hle2]); (try rw [if_neg hle3]);  (try with_reducible rfl))
      (try simp only [Act.put, List.setIfInBounds_toArray, List.set_cons_zero, List.set_cons_succ])
      refine wpAnyH_ready (rs := [5]) (by kernel_rfl) (by simp) ?_
      refine AllReadyH.cons (o := ?oi11) ?hi11 ?ti11 AllReadyH.nil
      case hi11 => (simp only [List.getElem?_toArray, List.getElem?_cons_succ, List.getElem?_cons_zero]; try rfl)
      case ti11 =>
        intro KQ hKQ
        go_simp
        go_at_call 42
        refine Calls.mono (IH1.out _ (by repeat (first | exact Ext.refl' _ | assumption | apply Ext.ex' | apply Ext.al | apply Ext.drN | apply Ext.dr))) ?_
        rintro e w1 ⟨A1, c1, ra, rfl, hc1, hm1, hb1, hR1, hO1⟩
        obtain ⟨x1, rfl⟩ := hb1.get
        clear hb1
        refine hKQ.out _ _ (by trivial) (fun hHeld2 => ?_)
        clear hHeld hKQ KQ; have hHeld := hHeld2; clear hHeld2
        (try simp only [Act.put, List.setIfInBounds_toArray, List.set_cons_zero, List.set_cons_succ])
        refine wpAnyH_ready (rs := [11]) (by kernel_rfl) (by simp) ?_
        refine AllReadyH.cons (o := ?oi12) ?hi12 ?ti12 AllReadyH.nil
        case hi12 => (simp only [List.getElem?_toArray, List.getElem?_cons_succ, List.getElem?_cons_zero]; try rfl)
        case ti12 =>
          intro KQ hKQ
          go_simp
          go_at_call 42
          refine Calls.mono (IH2.out _ (by repeat (first | exact Ext.refl' _ | assumption | apply Ext.ex' | apply Ext.al | apply Ext.drN | apply Ext.dr))) ?_
          rintro e w1 ⟨A2, c2, rb, rfl, hc2, hm2, hb1, hR2, hO2⟩
          obtain ⟨x2, rfl⟩ := hb1.get
          clear hb1
          refine hKQ.out _ _ (by trivial) (fun hHeld2 => ?_)
          clear hHeld hKQ KQ; have hHeld := hHeld2; clear hHeld2
          (try simp only [Act.put, List.setIfInBounds_toArray, List.set_cons_zero, List.set_cons_succ])
          refine wpAnyH_take (i := 12) (oi := ?oi13) (v := ?v13) ?hi13 (by kernel_rfl) (by kernel_rfl) (by kernel_rfl) ?hQ13 ?hy13 (by assumption) ?_
          case hi13 => (simp only [List.getElem?_toArray, List.getElem?_cons_succ, List.getElem?_cons_zero]; try rfl)
          case hQ13 => exact fun _ _ _ h => h
          case hy13 => (refine Or.inl ⟨by rfl, ?_⟩; intro wq hSw; (try dsimp only at hSw); go_simp; (try simp only [HWQ.out]); (try simp only [HWP.out]); (try rw [if_pos hle1]); (try rw [if_pos hle2]); (try rw [if_neg hle3]);  (try with_reducible rfl))
          (try simp only [Act.put, List.setIfInBounds_toArray, List.set_cons_zero, List.set_cons_succ])
          refine wpAnyH_take (i := 13) (oi := ?oi14) (v := ?v14) ?hi14 (by kernel_rfl) (by kernel_rfl) (by kernel_rfl) ?hQ14 ?hy14 (by assumption) ?_
          case hi14 => (simp only [List.getElem?_toArray, List.getElem?_cons_succ, List.getElem?_cons_zero]; try rfl)
          case hQ14 => exact fun _ _ _ h => h
          case hy14 => (refine Or.inl ⟨by rfl, ?_⟩; intro wq hSw; (try dsimp only at hSw); go_simp; (try simp only [HWQ.out]); (try simp only [HWP.out]); (try rw [if_pos hle1]); (try rw [if_pos hle2]); (try rw [if_neg hle3]);  (try with_reducible rfl))
          (try simp only [Act.put, List.setIfInBounds_toArray, List.set_cons_zero, List.set_cons_succ])
          refine wpAnyH_done (by kernel_rfl) ?_ _
          obtain ⟨W1, hW1⟩ : ∃ W1, ext (ext w.drew x1) x2 = W1 := ⟨_, rfl⟩
          have hEW : Ext w W1 := by rw [← hW1]; exact (by repeat (first | exact Ext.refl' _ | assumption | apply Ext.ex' | apply Ext.al | apply Ext.drN | apply Ext.dr))
          replace hR1 : Rd W1 9 A1 ra.length (vev ra) := by rw [← hW1]; exact hR1.ext (by repeat (first | exact Ext.refl' _ | assumption | apply Ext.ex' | apply Ext.al | apply Ext.drN | apply Ext.dr))
          replace hR2 : Rd W1 9 A2 rb.length (vev rb) := by rw [← hW1]; exact hR2
          have HOKa : Hid (∀ p ∈ ra, VROk w p) := Lib.hid (fun p hp => HOK.out p (List.mem_of_mem_take (hO1.1.mem_iff.1 hp)))
          have HOKb : Hid (∀ p ∈ rb, VROk w p) := Lib.hid (fun p hp => HOK.out p (List.mem_of_mem_drop (hO2.1.mem_iff.1 hp)))
          have HM := Lib.hid (Ordd.mrg hO1 hO2)
          have HLA : Hid (ra.length + rb.length = l.length) := Lib.hid (by
            have h1 := hO1.length
            have h2 := hO2.length
            rw [List.length_take] at h1
            rw [List.length_drop] at h2
            omega)
          rw [hW1]
          clear hW1 hHeld HOK hO1 hO2 IH1 IH2 hR hbw HWP HWQ hle3
          go_wp2
          go_loopw [3, 4, 5] (fun va vb vo wr => MrgS w W1 l.length ra rb va vb vo wr) (fun va vb _ _ => lenV va + lenV vb)
          case atStart => unfold MrgS; exact ⟨ra, rb, [], A1, c1, A2, c2, rfl, rfl, hc1, hc2, hm1, hm2, hR1, hR2, World.ownsRow_nil _ _ _ _, Ext.refl' _, by have := HLA.out; simp only [List.length_nil]; omega, Lib.hid rfl, HOKa, HOKb⟩
          case round =>
            clear hR1 hR2 HOKa HOKb hc1 hc2 hm1 hm2
            unfold MrgS at hrel
            obtain ⟨xs, ys, acc, Aa, ca, Ab, cb, rfl, rfl, hca, hcb, hcma, hcmb, hRa, hRb, hrow, hE, hsum, HI, HOKa, HOKb⟩ := hrel
            obtain ⟨A4, kc, rfl, hkc, hkm⟩ := row_formH hrow
            have hEwr := hEW.tr hE
            rcases xs with _ | ⟨⟨U, ru⟩, xs⟩
            · have HX : Hid (mrgV ra rb = acc ++ [] ++ ys) := Lib.hid (by rw [HI.out, mrgV_nil]; simp)
              simp only [List.length_nil, List.length_cons] at hca hcb hsum hRa hRb ⊢
              go_wp2_with (first | (at_builtin; refine wpList_app _ rfl (.tmp 54) (.tmp 55) rfl elVe W1 (hE.tr (by repeat (first | exact Ext.refl' _ | assumption | apply Ext.ex' | apply Ext.al | apply Ext.drN | apply Ext.dr))) (.slice A4 acc.length kc) acc.length (vev acc) rfl hrow Aa 0 ca (vev []) rfl (hRa.ext hE) (oneCell_evl _) (by unfold maxLen; omega) (by omega) ?_; intro v1 x1 ho1 _) | (at_builtin; refine wpList_app _ rfl (.tmp 56) (.tmp 57) rfl elVe W1 (by repeat (first | exact Ext.refl' _ | assumption | apply Ext.ex' | apply Ext.al | apply Ext.drN | apply Ext.dr)) _ _ _ rfl ho1 Ab ys.length cb (vev ys) rfl (hRb.ext (by repeat (first | exact Ext.refl' _ | assumption | apply Ext.ex' | apply Ext.al | apply Ext.drN | apply Ext.dr))) (oneCell_evl _) (by unfold maxLen; omega) (by omega) ?_; intro v2 x2 ho2 _; obtain ⟨A5, k5, rfl, h5, h5m⟩ := row_formH ho2))
              have hR5 := Rd.of_own ho2
              have hl5 : (mrgV ra rb).length = acc.length + 0 + ys.length := by rw [HX.out]; simp; try omega
              go_ret
              exact ⟨A5, k5, mrgV ra rb, by rw [hl5]; first | rfl | exact congrArg (fun z => Ending.returned (Value.slice A5 z k5)) (show l.length = _ by omega), by rw [hl5]; exact h5, h5m, hEW.tr (by repeat (first | exact Ext.refl' _ | assumption | apply Ext.ex' | apply Ext.al | apply Ext.drN | apply Ext.dr)), by rw [hl5, HX.out, vev_append, vev_append]; exact hR5, HM.out⟩
            · rcases ys with _ | ⟨⟨V, rv⟩, ys⟩
              · have HX : Hid (mrgV ra rb = acc ++ ((U, ru) :: xs) ++ []) := Lib.hid (by rw [HI.out, mrgV_nil']; simp)
                simp only [List.length_nil, List.length_cons] at hca hcb hsum hRa hRb ⊢
                go_wp2_with (first | (at_builtin; refine wpList_app _ rfl (.tmp 54) (.tmp 55) rfl elVe W1 (hE.tr (by repeat (first | exact Ext.refl' _ | assumption | apply Ext.ex' | apply Ext.al | apply Ext.drN | apply Ext.dr))) (.slice A4 acc.length kc) acc.length (vev acc) rfl hrow Aa (xs.length + 1) ca (vev ((U, ru) :: xs)) rfl (hRa.ext hE) (oneCell_evl _) (by unfold maxLen; omega) (by omega) ?_; intro v1 x1 ho1 _) | (at_builtin; refine wpList_app _ rfl (.tmp 56) (.tmp 57) rfl elVe W1 (by repeat (first | exact Ext.refl' _ | assumption | apply Ext.ex' | apply Ext.al | apply Ext.drN | apply Ext.dr)) _ _ _ rfl ho1 Ab 0 cb (vev []) rfl (hRb.ext (by repeat (first | exact Ext.refl' _ | assumption | apply Ext.ex' | apply Ext.al | apply Ext.drN | apply Ext.dr))) (oneCell_evl _) (by unfold maxLen; omega) (by omega) ?_; intro v2 x2 ho2 _; obtain ⟨A5, k5, rfl, h5, h5m⟩ := row_formH ho2))
                have hR5 := Rd.of_own ho2
                have hl5 : (mrgV ra rb).length = acc.length + (xs.length + 1) + 0 := by rw [HX.out]; simp; try omega
                go_ret
                exact ⟨A5, k5, mrgV ra rb, by rw [hl5]; first | rfl | exact congrArg (fun z => Ending.returned (Value.slice A5 z k5)) (show l.length = _ by omega), by rw [hl5]; exact h5, h5m, hEW.tr (by repeat (first | exact Ext.refl' _ | assumption | apply Ext.ex' | apply Ext.al | apply Ext.drN | apply Ext.dr)), by rw [hl5, HX.out, vev_append, vev_append]; exact hR5, HM.out⟩
              · obtain ⟨ba, oa, rfl, hsa, hc⟩ := (show Rd wr 9 Aa _ (evl (((U, ru) :: xs).map (·.1))) from hRa.ext hE).ve (by simp) (k := 0) (by simp)
                obtain ⟨bb, ob, rfl, hsb, hd⟩ := (show Rd wr 9 Ab _ (evl (((V, rv) :: ys).map (·.1))) from hRb.ext hE).ve (by simp) (k := 0) (by simp)
                simp only [List.map_cons, List.getElem_cons_zero, Nat.zero_mul, Nat.add_zero] at hc hd
                have c0 := hc 0 _ rfl
                have c1 := hc 1 _ rfl
                have c2 := hc 2 _ rfl
                have c3 := hc 3 _ rfl
                have c4 := hc 4 _ rfl
                have c5 := hc 5 _ rfl
                have c6 := hc 6 _ rfl
                have c7 := hc 7 _ rfl
                have c8 := hc 8 _ rfl
                have d0 := hd 0 _ rfl
                have d1 := hd 1 _ rfl
                have d2 := hd 2 _ rfl
                have d3 := hd 3 _ rfl
                have d4 := hd 4 _ rfl
                have d5 := hd 5 _ rfl
                have d6 := hd 6 _ rfl
                have d7 := hd 7 _ rfl
                have d8 := hd 8 _ rfl
                simp only [Nat.add_zero] at c0 d0
                clear hc hd
                have HOD : Hid (∀ W, Ext w W → Calls Tryz.prog 43 #[evg V, evg U] W fun e w' => e = .returned (.int .i64 (ordK (kyR (V, rv)) (kyR (U, ru)))) ∧ Ext W w') := Lib.hid (fun W hEx => order_any (V, rv) (U, ru) W ((HOKb.out _ (by simp)).ext hEx) ((HOKa.out _ (by simp)).ext hEx))
                have HOKa2 : Hid (∀ p ∈ xs, VROk w p) := Lib.hid (fun p hp => HOKa.out p (by simp [hp]))
                have HOKb2 : Hid (∀ p ∈ ys, VROk w p) := Lib.hid (fun p hp => HOKb.out p (by simp [hp]))
                have HZ := Lib.hid (ordK_lt (a := kyR (V, rv)) (b := kyR (U, ru)))
                generalize ordK (kyR (V, rv)) (kyR (U, ru)) = z at HOD HZ
                simp only [List.length_cons] at hca hcb hsum ⊢
                by_cases hk : ltK (kyR (V, rv)) (kyR (U, ru))
                · have hz : z < 0 := HZ.out.2 hk
                  clear HZ
                  have HN : Hid (mrgV ra rb = acc ++ [(V, rv)] ++ mrgV ((U, ru) :: xs) ys) := Lib.hid (by rw [HI.out, mrgV_r hk]; simp)
                  clear hk HI
                  go_wp2
                  refine wp_region_ext (by kernel_rfl) (by kernel_rfl) ?_
                  repeat (first | go_big_quiet_step ((go_at_call 43; exact Calls.ext_of (HOD.out _ (by repeat (first | exact Ext.refl' _ | assumption | apply Ext.ex' | apply Ext.al | apply Ext.drN | apply Ext.dr))))) | quiet_step ((go_at_call 43; exact Calls.ext_of (HOD.out _ (by repeat (first | exact Ext.refl' _ | assumption | apply Ext.ex' | apply Ext.al | apply Ext.drN | apply Ext.dr))))))
                  refine wpQuiet_nil ?_
                  intro _ hw'
                  obtain ⟨xq, hw''⟩ := hw'
                  subst hw''
                  obtain ⟨W3, hW3⟩ : ∃ W3, ext wr xq = W3 := ⟨_, rfl⟩
                  have hE3 : Ext wr W3 := by rw [← hW3]; exact Ext.ex _ _
                  rw [hW3]
                  have c0 := hE3.cell' c0
                  have c1 := hE3.cell' c1
                  have c2 := hE3.cell' c2
                  have c3 := hE3.cell' c3
                  have c4 := hE3.cell' c4
                  have c5 := hE3.cell' c5
                  have c6 := hE3.cell' c6
                  have c7 := hE3.cell' c7
                  have c8 := hE3.cell' c8
                  have d0 := hE3.cell' d0
                  have d1 := hE3.cell' d1
                  have d2 := hE3.cell' d2
                  have d3 := hE3.cell' d3
                  have d4 := hE3.cell' d4
                  have d5 := hE3.cell' d5
                  have d6 := hE3.cell' d6
                  have d7 := hE3.cell' d7
                  have d8 := hE3.cell' d8
                  have hsa := Nat.lt_of_lt_of_le hsa hE3.size
                  have hsb := Nat.lt_of_lt_of_le hsb hE3.size
                  have hrow := ownsRow_ext hrow hE3
                  have hEw := hE.tr hE3
                  clear hW3 hE3
                  by_cases hcap : cb = 1
                  · go_wp2_with (at_builtin; refine wpList_app _ rfl (.tmp 38) (.tmp 42) rfl elVe W1 (hEw.tr (by repeat (first | exact Ext.refl' _ | assumption | apply Ext.ex' | apply Ext.al | apply Ext.drN | apply Ext.dr))) (.slice A4 acc.length kc) acc.length (vev acc) rfl (World.ownsRow.alloc (by exact ownsRow_ext hrow (by repeat (first | exact Ext.refl' _ | assumption | apply Ext.ex' | apply Ext.al | apply Ext.drN | apply Ext.dr))) _) _ 1 1 [.int .i64 V.id, .int .i64 V.sch, .slice V.rA V.rn V.rc, .int .i64 V.v.1, .int .i64 V.v.2, .int .i64 V.s.1, .int .i64 V.s.2, .int .i64 V.by_, .int .i64 V.un] rfl (Rd.lit _ #[.int .i64 V.id, .int .i64 V.sch, .slice V.rA V.rn V.rc, .int .i64 V.v.1, .int .i64 V.v.2, .int .i64 V.s.1, .int .i64 V.s.2, .int .i64 V.by_, .int .i64 V.un] _ 1 9 rfl (by simp [size_ext])) (by have := oneCell_evl [V]; rwa [evl_one] at this) (by unfold maxLen; omega) (by omega) ?_; intro v' x' hown' hg')
                    go_roundw
                    case rel => exact MrgS.mk ⟨(U, ru) :: xs, ys, acc ++ [(V, rv)], some ⟨ba, oa, none⟩, ca, _, 0, rfl, rfl, hca, by omega, hcma, by omega, hRa, Rd.tail1 (by omega), by rw [List.length_append, List.length_singleton, vev_append, vev_one]; exact hown', Ext.ex _ _, by simp only [List.length_append, List.length_cons, List.length_nil] at hsum ⊢; omega, HN, HOKa, HOKb2⟩
                    case measure => simp [lenV]
                  · go_wp2_with (at_builtin; refine wpList_app _ rfl (.tmp 38) (.tmp 42) rfl elVe W1 (hEw.tr (by repeat (first | exact Ext.refl' _ | assumption | apply Ext.ex' | apply Ext.al | apply Ext.drN | apply Ext.dr))) (.slice A4 acc.length kc) acc.length (vev acc) rfl (World.ownsRow.alloc (by exact ownsRow_ext hrow (by repeat (first | exact Ext.refl' _ | assumption | apply Ext.ex' | apply Ext.al | apply Ext.drN | apply Ext.dr))) _) _ 1 1 [.int .i64 V.id, .int .i64 V.sch, .slice V.rA V.rn V.rc, .int .i64 V.v.1, .int .i64 V.v.2, .int .i64 V.s.1, .int .i64 V.s.2, .int .i64 V.by_, .int .i64 V.un] rfl (Rd.lit _ #[.int .i64 V.id, .int .i64 V.sch, .slice V.rA V.rn V.rc, .int .i64 V.v.1, .int .i64 V.v.2, .int .i64 V.s.1, .int .i64 V.s.2, .int .i64 V.by_, .int .i64 V.un] _ 1 9 rfl (by simp [size_ext])) (by have := oneCell_evl [V]; rwa [evl_one] at this) (by unfold maxLen; omega) (by omega) ?_; intro v' x' hown' hg')
                    go_roundw
                    case rel => exact MrgS.mk ⟨(U, ru) :: xs, ys, acc ++ [(V, rv)], some ⟨ba, oa, none⟩, ca, _, cb - 1, rfl, rfl, hca, by omega, hcma, by omega, hRa, hRb.tailVe, by rw [List.length_append, List.length_singleton, vev_append, vev_one]; exact hown', Ext.ex _ _, by simp only [List.length_append, List.length_cons, List.length_nil] at hsum ⊢; omega, HN, HOKa, HOKb2⟩
                    case measure => simp [lenV]
                · have hz : ¬ z < 0 := fun e => hk (HZ.out.1 e)
                  clear HZ
                  have HN : Hid (mrgV ra rb = acc ++ [(U, ru)] ++ mrgV xs ((V, rv) :: ys)) := Lib.hid (by rw [HI.out, mrgV_l hk]; simp)
                  clear hk HI
                  go_wp2
                  refine wp_region_ext (by kernel_rfl) (by kernel_rfl) ?_
                  repeat (first | go_big_quiet_step ((go_at_call 43; exact Calls.ext_of (HOD.out _ (by repeat (first | exact Ext.refl' _ | assumption | apply Ext.ex' | apply Ext.al | apply Ext.drN | apply Ext.dr))))) | quiet_step ((go_at_call 43; exact Calls.ext_of (HOD.out _ (by repeat (first | exact Ext.refl' _ | assumption | apply Ext.ex' | apply Ext.al | apply Ext.drN | apply Ext.dr))))))
                  refine wpQuiet_nil ?_
                  intro _ hw'
                  obtain ⟨xq, hw''⟩ := hw'
                  subst hw''
                  obtain ⟨W3, hW3⟩ : ∃ W3, ext wr xq = W3 := ⟨_, rfl⟩
                  have hE3 : Ext wr W3 := by rw [← hW3]; exact Ext.ex _ _
                  rw [hW3]
                  have c0 := hE3.cell' c0
                  have c1 := hE3.cell' c1
                  have c2 := hE3.cell' c2
                  have c3 := hE3.cell' c3
                  have c4 := hE3.cell' c4
                  have c5 := hE3.cell' c5
                  have c6 := hE3.cell' c6
                  have c7 := hE3.cell' c7
                  have c8 := hE3.cell' c8
                  have d0 := hE3.cell' d0
                  have d1 := hE3.cell' d1
                  have d2 := hE3.cell' d2
                  have d3 := hE3.cell' d3
                  have d4 := hE3.cell' d4
                  have d5 := hE3.cell' d5
                  have d6 := hE3.cell' d6
                  have d7 := hE3.cell' d7
                  have d8 := hE3.cell' d8
                  have hsa := Nat.lt_of_lt_of_le hsa hE3.size
                  have hsb := Nat.lt_of_lt_of_le hsb hE3.size
                  have hrow := ownsRow_ext hrow hE3
                  have hEw := hE.tr hE3
                  clear hW3 hE3
                  by_cases hcap : ca = 1
                  · go_wp2_with (at_builtin; refine wpList_app _ rfl (.tmp 46) (.tmp 50) rfl elVe W1 (hEw.tr (by repeat (first | exact Ext.refl' _ | assumption | apply Ext.ex' | apply Ext.al | apply Ext.drN | apply Ext.dr))) (.slice A4 acc.length kc) acc.length (vev acc) rfl (World.ownsRow.alloc (by exact ownsRow_ext hrow (by repeat (first | exact Ext.refl' _ | assumption | apply Ext.ex' | apply Ext.al | apply Ext.drN | apply Ext.dr))) _) _ 1 1 [.int .i64 U.id, .int .i64 U.sch, .slice U.rA U.rn U.rc, .int .i64 U.v.1, .int .i64 U.v.2, .int .i64 U.s.1, .int .i64 U.s.2, .int .i64 U.by_, .int .i64 U.un] rfl (Rd.lit _ #[.int .i64 U.id, .int .i64 U.sch, .slice U.rA U.rn U.rc, .int .i64 U.v.1, .int .i64 U.v.2, .int .i64 U.s.1, .int .i64 U.s.2, .int .i64 U.by_, .int .i64 U.un] _ 1 9 rfl (by simp [size_ext])) (by have := oneCell_evl [U]; rwa [evl_one] at this) (by unfold maxLen; omega) (by omega) ?_; intro v' x' hown' hg')
                    go_roundw
                    case rel => exact MrgS.mk ⟨xs, (V, rv) :: ys, acc ++ [(U, ru)], _, 0, some ⟨bb, ob, none⟩, cb, rfl, rfl, by omega, hcb, by omega, hcmb, Rd.tail1 (by omega), hRb, by rw [List.length_append, List.length_singleton, vev_append, vev_one]; exact hown', Ext.ex _ _, by simp only [List.length_append, List.length_cons, List.length_nil] at hsum ⊢; omega, HN, HOKa2, HOKb⟩
                    case measure => simp [lenV]
                  · go_wp2_with (at_builtin; refine wpList_app _ rfl (.tmp 46) (.tmp 50) rfl elVe W1 (hEw.tr (by repeat (first | exact Ext.refl' _ | assumption | apply Ext.ex' | apply Ext.al | apply Ext.drN | apply Ext.dr))) (.slice A4 acc.length kc) acc.length (vev acc) rfl (World.ownsRow.alloc (by exact ownsRow_ext hrow (by repeat (first | exact Ext.refl' _ | assumption | apply Ext.ex' | apply Ext.al | apply Ext.drN | apply Ext.dr))) _) _ 1 1 [.int .i64 U.id, .int .i64 U.sch, .slice U.rA U.rn U.rc, .int .i64 U.v.1, .int .i64 U.v.2, .int .i64 U.s.1, .int .i64 U.s.2, .int .i64 U.by_, .int .i64 U.un] rfl (Rd.lit _ #[.int .i64 U.id, .int .i64 U.sch, .slice U.rA U.rn U.rc, .int .i64 U.v.1, .int .i64 U.v.2, .int .i64 U.s.1, .int .i64 U.s.2, .int .i64 U.by_, .int .i64 U.un] _ 1 9 rfl (by simp [size_ext])) (by have := oneCell_evl [U]; rwa [evl_one] at this) (by unfold maxLen; omega) (by omega) ?_; intro v' x' hown' hg')
                    go_roundw
                    case rel => exact MrgS.mk ⟨xs, (V, rv) :: ys, acc ++ [(U, ru)], _, ca - 1, some ⟨bb, ob, none⟩, cb, rfl, rfl, by omega, hcb, by omega, hcmb, hRa.tailVe, hRb, by rw [List.length_append, List.length_singleton, vev_append, vev_one]; exact hown', Ext.ex _ _, by simp only [List.length_append, List.length_cons, List.length_nil] at hsum ⊢; omega, HN, HOKa2, HOKb⟩
                    case measure => simp [lenV]


set_option maxRecDepth 100000 in
set_option maxHeartbeats 8000000 in
theorem rdiffer_any (A B : Option Addr) (na nb ca cb : Nat) (la lb : List VR) (w : World) (hna : na = la.length) (hnb : nb = lb.length) (hca : la.length ≤ ca) (hcam : ca ≤ maxLen) (hcb : lb.length ≤ cb) (hcbm : cb ≤ maxLen) (hA : Rd w 9 A na (vev la)) (hB : Rd w 9 B nb (vev lb)) (ha : ∀ p ∈ la, VROk w p) (hb : ∀ p ∈ lb, VROk w p) (nla : la.length ≤ 262144) (nlb : lb.length ≤ 262144) :
    Calls Tryz.prog 28 #[.slice A na ca, .slice B nb cb] w fun e w' => e = .returned (.bool (difB la lb)) ∧ Ext w w' := by
  subst hna hnb
  by_cases hne : la.length = lb.length
  · have HO1 : Hid (∀ W, Ext w W → Calls Tryz.prog 42 #[.slice A la.length ca] W fun e w' => ∃ A' c' r, e = .returned (.slice A' r.length c') ∧ r.length ≤ c' ∧ c' ≤ maxLen ∧ Ext W w' ∧ Rd w' 9 A' r.length (vev r) ∧ Ordd la r) := Lib.hid (fun W hE => ordered_any la.length la (Nat.le_refl _) A ca W hca hcam (hA.ext hE) (fun p hp => (ha p hp).ext hE) nla)
    have HO2 : Hid (∀ W, Ext w W → Calls Tryz.prog 42 #[.slice B lb.length cb] W fun e w' => ∃ A' c' r, e = .returned (.slice A' r.length c') ∧ r.length ≤ c' ∧ c' ≤ maxLen ∧ Ext W w' ∧ Rd w' 9 A' r.length (vev r) ∧ Ordd lb r) := Lib.hid (fun W hE => ordered_any lb.length lb (Nat.le_refl _) B cb W hcb hcbm (hB.ext hE) (fun p hp => (hb p hp).ext hE) nlb)
    have HOKA := Lib.hid ha
    have HOKB := Lib.hid hb
    clear ha hb
    obtain ⟨nn, hnn⟩ : ∃ nn, lb.length = nn := ⟨_, rfl⟩
    have hnm : la.length = nn := hne.trans hnn
    rw [hnn] at HO2 ⊢
    rw [hnm] at HO1 ⊢
    have HN1 := Lib.hid hnn
    have HN2 := Lib.hid hnm
    have hnb : nn ≤ 262144 := by omega
    obtain ⟨dd, hdd⟩ : ∃ dd, difB la lb = dd := ⟨_, rfl⟩
    rw [hdd]
    have HDD0 := Lib.hid hdd
    clear hnn hnm hne nla nlb hca hcb hA hB hdd
    go_enter Tryz.func28, Tryz.ntmps28
    go_wp2_with fail
    refine Calls.mono (HO1.out _ (by repeat (first | exact Ext.refl' _ | assumption | apply Ext.ex' | apply Ext.al | apply Ext.drN | apply Ext.dr))) ?_
    rintro e w1 ⟨A1, k1, ra, rfl, _, _, hb1, hR1, hO1⟩
    obtain ⟨x1, rfl⟩ := hb1.get
    clear hb1
    go_wp2_with fail
    refine Calls.mono (HO2.out _ (by repeat (first | exact Ext.refl' _ | assumption | apply Ext.ex' | apply Ext.al | apply Ext.drN | apply Ext.dr))) ?_
    rintro e w1 ⟨A2, k2, rb, rfl, _, _, hb1, hR2, hO2⟩
    obtain ⟨x2, rfl⟩ := hb1.get
    clear hb1 HO1 HO2
    have hl1 : ra.length = nn := by rw [hO1.length, HN2.out]
    have hl2 : rb.length = nn := by rw [hO2.length, HN1.out]
    have HD : Hid (ra.map kyR = rb.map kyR ↔ dd = false) := Lib.hid (by rw [← HDD0.out]; exact ordd_dif hO1 hO2)
    have HPA : Hid (∀ p ∈ ra, VROk w p) := Lib.hid (fun p hp => HOKA.out p (hO1.1.mem_iff.1 hp))
    have HPB : Hid (∀ p ∈ rb, VROk w p) := Lib.hid (fun p hp => HOKB.out p (hO2.1.mem_iff.1 hp))
    obtain ⟨W1, hW1⟩ : ∃ W1, ext (ext w x1) x2 = W1 := ⟨_, rfl⟩
    have hEW : Ext w W1 := by rw [← hW1]; exact (by repeat (first | exact Ext.refl' _ | assumption | apply Ext.ex' | apply Ext.al | apply Ext.drN | apply Ext.dr))
    replace hR1 : Rd W1 9 A1 ra.length (vev ra) := by rw [← hW1]; exact hR1.ext (by repeat (first | exact Ext.refl' _ | assumption | apply Ext.ex' | apply Ext.al | apply Ext.drN | apply Ext.dr))
    replace hR2 : Rd W1 9 A2 rb.length (vev rb) := by rw [← hW1]; exact hR2
    rw [hW1]
    clear hW1 hO1 hO2 HOKA HOKB
    rw [hl1] at hR1 ⊢
    rw [hl2] at hR2 ⊢
    have HL1 := Lib.hid hl1
    have HL2 := Lib.hid hl2
    clear hl1 hl2
    go_wp2
    go_loopw [19] (fun i wr => ∃ k : Nat, i = .int .i64 k ∧ k ≤ nn ∧ Hid (∀ j (h1 : j < ra.length) (h2 : j < rb.length), j < k → kyR ra[j] = kyR rb[j]) ∧ Ext W1 wr) (fun i _ => nn - (intOf i).toNat)
    case atStart => exact ⟨0, rfl, Nat.zero_le _, Lib.hid (fun j _ _ h => absurd h (Nat.not_lt_zero _)), Ext.refl' _⟩
    case round =>
      obtain ⟨k, rfl, hk, HK, hE⟩ := hrel
      have hEwr := hEW.tr hE
      by_cases hlt : k < nn
      · have hl1 := HL1.out
        have hl2 := HL2.out
        obtain ⟨ba, oa, rfl, hsa, hc⟩ := ((show Rd W1 9 A1 nn (evl (ra.map (·.1))) from hR1).ext hE).ve (by simpa using hl1.symm) (k := k) (by simp; omega)
        obtain ⟨bb, ob, rfl, hsb, hd⟩ := ((show Rd W1 9 A2 nn (evl (rb.map (·.1))) from hR2).ext hE).ve (by simpa using hl2.symm) (k := k) (by simp; omega)
        simp only [List.getElem_map] at hc hd
        have HOD : Hid (∀ W, Ext w W → Calls Tryz.prog 43 #[evg ra[k].1, evg rb[k].1] W fun e w' => e = .returned (.int .i64 (ordK (kyR ra[k]) (kyR rb[k]))) ∧ Ext W w') := Lib.hid (fun W hEx => order_any ra[k] rb[k] W ((HPA.out _ (List.getElem_mem _)).ext hEx) ((HPB.out _ (List.getElem_mem _)).ext hEx))
        have HZ := Lib.hid (ordK_zero (a := kyR ra[k]) (b := kyR rb[k]))
        generalize ordK (kyR ra[k]) (kyR rb[k]) = z at HOD HZ
        have HYES : Hid (kyR ra[k] = kyR rb[k] → ∀ j (h1 : j < ra.length) (h2 : j < rb.length), j < k + 1 → kyR ra[j] = kyR rb[j]) := Lib.hid (fun e j h1 h2 hj => by
          rcases (by omega : j = k ∨ j < k) with rfl | hj
          · exact e
          · exact HK.out j h1 h2 hj)
        have HNO : Hid (kyR ra[k] ≠ kyR rb[k] → dd = true) := Lib.hid (fun e => by
          rcases dd with _ | _
          · exfalso
            have h := HD.out.2 rfl
            have h3 := congrArg (fun l => l[k]?) h
            simp only [List.getElem?_map, List.getElem?_eq_getElem (show k < ra.length by omega), List.getElem?_eq_getElem (show k < rb.length by omega), Option.map_some, Option.some.injEq] at h3
            exact e h3
          · rfl)
        generalize ra[k] = p at hc HOD HZ HYES HNO
        generalize rb[k] = q at hd HOD HZ HYES HNO
        obtain ⟨U, ru⟩ := p
        obtain ⟨V, rv⟩ := q
        simp only at hc hd HOD
        have c0 := hc 0 _ rfl
        have c1 := hc 1 _ rfl
        have c2 := hc 2 _ rfl
        have c3 := hc 3 _ rfl
        have c4 := hc 4 _ rfl
        have c5 := hc 5 _ rfl
        have c6 := hc 6 _ rfl
        have c7 := hc 7 _ rfl
        have c8 := hc 8 _ rfl
        have d0 := hd 0 _ rfl
        have d1 := hd 1 _ rfl
        have d2 := hd 2 _ rfl
        have d3 := hd 3 _ rfl
        have d4 := hd 4 _ rfl
        have d5 := hd 5 _ rfl
        have d6 := hd 6 _ rfl
        have d7 := hd 7 _ rfl
        have d8 := hd 8 _ rfl
        simp only [Nat.add_zero] at c0 d0
        clear hc hd hl1 hl2
        by_cases hz : z = 0
        · have HK2 := Lib.hid (HYES.out (HZ.out.1 hz))
          clear HZ HYES HNO HK
          go_wp2
          refine wp_region_ext (by kernel_rfl) (by kernel_rfl) ?_
          repeat (first | go_big_quiet_step ((go_at_call 43; exact Calls.ext_of (HOD.out _ (by repeat (first | exact Ext.refl' _ | assumption | apply Ext.ex' | apply Ext.al | apply Ext.drN | apply Ext.dr))))) | quiet_step ((go_at_call 43; exact Calls.ext_of (HOD.out _ (by repeat (first | exact Ext.refl' _ | assumption | apply Ext.ex' | apply Ext.al | apply Ext.drN | apply Ext.dr))))))
          refine wpQuiet_nil ?_
          intro _ hw'
          obtain ⟨xq, hw''⟩ := hw'
          subst hw''
          go_wp2
          go_roundw
          case rel => exact ⟨k + 1, by go_num, by omega, HK2, hE.tr (by repeat (first | exact Ext.refl' _ | assumption | apply Ext.ex' | apply Ext.al | apply Ext.drN | apply Ext.dr))⟩
          case measure => simp [intOf]; omega
        · have HDD := Lib.hid (HNO.out (fun e => hz (HZ.out.2 e)))
          clear HZ HYES HNO HK
          go_wp2
          refine wp_region_ext (by kernel_rfl) (by kernel_rfl) ?_
          repeat (first | go_big_quiet_step ((go_at_call 43; exact Calls.ext_of (HOD.out _ (by repeat (first | exact Ext.refl' _ | assumption | apply Ext.ex' | apply Ext.al | apply Ext.drN | apply Ext.dr))))) | quiet_step ((go_at_call 43; exact Calls.ext_of (HOD.out _ (by repeat (first | exact Ext.refl' _ | assumption | apply Ext.ex' | apply Ext.al | apply Ext.drN | apply Ext.dr))))))
          refine wpQuiet_nil ?_
          intro _ hw'
          obtain ⟨xq, hw''⟩ := hw'
          subst hw''
          go_wp2
          go_ret
          exact ⟨by rw [HDD.out]; rfl, hEwr.tr (by repeat (first | exact Ext.refl' _ | assumption | apply Ext.ex' | apply Ext.al | apply Ext.drN | apply Ext.dr))⟩
      · have HDD : Hid (dd = false) := Lib.hid (HD.out.1 (List.ext_getElem (by simp; rw [HL1.out, HL2.out]) (fun j h1 h2 => by
          simp only [List.getElem_map]
          simp only [List.length_map] at h1 h2
          exact HK.out j h1 h2 (by have := HL1.out; omega))))
        go_wp2
        go_ret
        exact ⟨by rw [HDD.out]; rfl, hEwr⟩
  · have HD : Hid (difB la lb = true) := Lib.hid (by
      rcases h : difB la lb with _ | _
      · exact absurd (by have := ((difB_iff la lb).1 h).length_eq; simpa using this) hne
      · rfl)
    clear ha hb
    go_enter Tryz.func28, Tryz.ntmps28
    go_wp2
    go_ret
    exact ⟨by rw [HD.out]; rfl, by repeat (first | exact Ext.refl' _ | assumption | apply Ext.ex' | apply Ext.al | apply Ext.drN | apply Ext.dr)⟩

end Go.Proofs.YtpifjhoelnacgaaGreat
