/- AccessChooses: the path is chosen as defined. -/
import Derived.Test.YtgacmpoonmioeaaChv
import Derived.Test.YtgacmpoonmioeaaAwk
import Derived.Test.YtgacmpoonmioeaaCmz
set_option linter.unusedSimpArgs false
set_option linter.unusedVariables false
namespace Go.Proofs.Ytgacmpoonmioeaa
open Go.RowKit


theorem requal_same (A B : Option Addr) (n c d : Nat) (l : List Va) (w : World) (hn : l.length = n) (hA : Rd w 3 A n (vcs l)) (hB : Rd w 3 B n (vcs l)) (hl : n ≤ 1048576) : Calls Try.prog 18 #[.slice A n c, .slice B n d] w fun e w' => e = .returned (.bool true) ∧ Ext w w' := by
  subst hn
  have h := requal_any A B c d l l w hA hB (by omega) (by omega)
  rw [show (cmpR l l == 0) = true from by simp [cmpR_zero.2 rfl]] at h
  exact h
set_option maxRecDepth 100000 in
set_option maxHeartbeats 8000000 in
theorem samepath_any (p : Pa) (A B : Option Addr) (n c d : Nat) (w : World) (hn : p.key.length = n) (hA : Rd w 3 A n (vcs p.key)) (hB : Rd w 3 B n (vcs p.key)) (hl : n ≤ 1048576) : Calls Try.prog 7 #[.agg #[.int .i64 p.k, .slice A n c, .int .i64 p.v.1, .int .i64 p.v.2, .int .i64 p.s.1, .int .i64 p.s.2], .agg #[.int .i64 p.k, .slice B n d, .int .i64 p.v.1, .int .i64 p.v.2, .int .i64 p.s.1, .int .i64 p.s.2]] w fun e w' => e = .returned (.bool true) ∧ Ext w w' := by
  have HQ := Lib.hid fun W (e : Ext w W) => requal_same A B n c d p.key W hn (hA.ext e) (hB.ext e) hl
  clear hA hB hn
  go_enter Try.func7, Try.ntmps7
  go_wp2_with fail
  refine (HQ.out _ (by repeat (first | exact Ext.refl' _ | assumption | apply Ext.ex' | apply Ext.al | apply Ext.drN | apply Ext.dr))).mono ?_
  rintro e w1 ⟨rfl, hb1⟩
  obtain ⟨x1, rfl⟩ := hb1.get
  clear hb1
  go_wp2
  go_ret
  exact ⟨rfl, by repeat (first | exact Ext.refl' _ | assumption | apply Ext.ex' | apply Ext.al | apply Ext.drN | apply Ext.dr)⟩


set_option maxRecDepth 100000 in
set_option maxHeartbeats 8000000 in
theorem lawChooses_any (s0 : ByteArray) (A1 K A3 A4 : Option Addr) (n1 m1 n2 kc n3 m3 n4 m4 : Nat) (cl : List Col) (ks : List Int) (fl : List Fo) (es : List Ex) (css : List (List Value)) (o i : Int) (v : Va) (nm : ByteArray) (A : Option Addr) (args : List Ex) (c : Nat) (css2 : List (List Value)) (k f t : Int) (d : Int × Int) (w : World) (hs0 : s0.size ≤ 9223372036854775807) (hT : TabOk w A1 K A3 A4 n1 n2 n3 n4 cl ks fl es css)
    (hsz : szs args ≤ 1048575) (hvt : v.t.size ≤ 9223372036854775807) (hnm : nm.size ≤ 9223372036854775807) (hlc : args.length ≤ c) (hR : Rd w 7 A args.length css2.flatten) (hs : REs w args css2) (hf0 : -9223372036854775808 ≤ f) (ht0 : -9223372036854775808 ≤ t) :
    Calls Try.prog 3 #[.agg #[.string s0, .slice A1 n1 m1, .slice K n2 kc, .slice A3 n3 m3, .slice A4 n4 m4], exag o i v nm A args.length c, .agg #[.int .i64 k, .int .i64 f, .int .i64 t], pr d] w fun e w' => e = .returned (.bool true) ∧ Ext w w' := by
  have HCH := Lib.hid fun W (e : Ext w W) => chosen_any s0 A1 K A3 A4 n1 m1 n2 kc n3 m3 n4 m4 cl ks fl es css o i v nm A args c css2 d W hs0 (hT.ext e) (by omega) hvt (hR.ext e) (REs.ext e hs)
  obtain ⟨p, hp⟩ : ∃ p, chF (prefF (conds (.mk o i v nm args)) ks) (sysF k f t) d = p := ⟨_, rfl⟩
  have hcl : (conds (.mk o i v nm args)).length ≤ 1048576 := by
    rw [conds_cjs]
    have h1 := cjs_len (.mk o i v nm args)
    rw [szE] at h1
    exact Nat.le_trans (List.length_filterMap_le _ _) (by omega)
  have HPK : Hid (p.key.length ≤ 1048576) := Lib.hid (by
    rw [← hp]
    have h1 := prefF_length (conds (.mk o i v nm args)) ks
    have h2 := hT.kn
    have h3 := hT.kb
    unfold chF
    split
    · show (prefF (conds (.mk o i v nm args)) ks).length ≤ 1048576
      omega
    · split
      · exact Nat.zero_le _
      · split
        · exact Nat.zero_le _
        · split <;> exact Nat.zero_le _)
  have HP : Hid (f ≤ 1099511627776 → t ≤ 1099511627776 → ∀ W, Ext w W → Calls Try.prog 8 #[.agg #[.string s0, .slice A1 n1 m1, .slice K n2 kc, .slice A3 n3 m3, .slice A4 n4 m4], exag o i v nm A args.length c, .agg #[.int .i64 k, .int .i64 f, .int .i64 t], pr d] W fun e w' => ∃ (A5 : Option Addr) (n5 c5 : Nat), e = .returned (.agg #[.int .i64 p.k, .slice A5 n5 c5, .int .i64 p.v.1, .int .i64 p.v.2, .int .i64 p.s.1, .int .i64 p.s.2]) ∧ Hid (p.key.length = n5) ∧ Hid (Rd w' 3 A5 n5 (vcs p.key)) ∧ Ext W w') := Lib.hid fun hf ht W e => by
    have h := choose_any s0 A1 A3 A4 n1 m1 n3 m3 n4 m4 K ks kc o i v nm A args c css2 k f t d W (by rw [hT.kn]; exact hT.k.ext e) (by rw [hT.kn]; exact hT.kb) (hR.ext e) (REs.ext e hs) (Nat.le_trans (szs_len args) (by omega)) hcl hf0 hf ht0 ht
    rw [hp, hT.kn] at h
    refine Calls.mono h ?_
    rintro e w' ⟨A5, c5, rfl, h1, h2⟩
    exact ⟨A5, _, c5, rfl, Lib.hid rfl, Lib.hid (Rd.of_own h2), h1⟩
  have HR : Hid (f ≤ 1099511627776 → t ≤ 1099511627776 → ∀ W, Ext w W → Calls Try.prog 9 #[.agg #[.string s0, .slice A1 n1 m1, .slice K n2 kc, .slice A3 n3 m3, .slice A4 n4 m4], exag o i v nm A args.length c, .agg #[.int .i64 k, .int .i64 f, .int .i64 t], pr d] W fun e w' => RPa p e w' ∧ Ext W w') := Lib.hid fun hf ht W e => by
    have h := rchoose_any s0 A1 K A3 A4 n1 m1 n2 kc n3 m3 n4 m4 ks o i v nm A args c css2 k f t d W hT.kn (hT.k.ext e) hT.kb (by omega) hvt hnm hlc (hR.ext e) (REs.ext e hs) hf0 hf ht0 ht
    rw [hp] at h
    exact h
  clear hs0 hT hsz hvt hnm hlc hR hs hf0 ht0 hp hcl
  go_enter Try.func3, Try.ntmps3
  go_wp2_with fail
  refine (HCH.out _ (by repeat (first | exact Ext.refl' _ | assumption | apply Ext.ex' | apply Ext.al | apply Ext.drN | apply Ext.dr))).mono ?_
  rintro e w1 ⟨⟨cb, rfl⟩, hb1⟩
  obtain ⟨x1, rfl⟩ := hb1.get
  clear hb1 HCH
  cases cb
  · go_wp2_with fail
    refine (awake_any _).mono ?_
    rintro e w1 ⟨rfl, hb1⟩
    obtain ⟨x9, rfl⟩ := hb1.get
    clear hb1
    go_wp2
    go_ret
    exact ⟨rfl, by repeat (first | exact Ext.refl' _ | assumption | apply Ext.ex' | apply Ext.al | apply Ext.drN | apply Ext.dr)⟩
  by_cases hf : 1099511627776 < f
  · go_wp2_with fail
    refine (awake_any _).mono ?_
    rintro e w1 ⟨rfl, hb1⟩
    obtain ⟨x9, rfl⟩ := hb1.get
    clear hb1
    go_wp2
    go_ret
    exact ⟨rfl, by repeat (first | exact Ext.refl' _ | assumption | apply Ext.ex' | apply Ext.al | apply Ext.drN | apply Ext.dr)⟩
  by_cases ht : 1099511627776 < t
  · go_wp2_with fail
    refine (awake_any _).mono ?_
    rintro e w1 ⟨rfl, hb1⟩
    obtain ⟨x9, rfl⟩ := hb1.get
    clear hb1
    go_wp2
    go_ret
    exact ⟨rfl, by repeat (first | exact Ext.refl' _ | assumption | apply Ext.ex' | apply Ext.al | apply Ext.drN | apply Ext.dr)⟩
  have HP := Lib.hid (HP.out (by omega) (by omega))
  have HR := Lib.hid (HR.out (by omega) (by omega))
  go_wp2_with fail
  refine wp_region_held_drew (S := (fun w' => w'.cell? ⟨w.heap.size, 0, none⟩ = some (.string s0) ∧ w'.cell? ⟨w.heap.size, 1, none⟩ = some (.slice A1 n1 m1) ∧ w'.cell? ⟨w.heap.size, 2, none⟩ = some (.slice K n2 kc) ∧ w'.cell? ⟨w.heap.size, 3, none⟩ = some (.slice A3 n3 m3) ∧ w'.cell? ⟨w.heap.size, 4, none⟩ = some (.slice A4 n4 m4) ∧ w'.cell? ⟨w.heap.size + 1, 0, none⟩ = some (.int .i64 o) ∧ w'.cell? ⟨w.heap.size + 1, 1, none⟩ = some (.int .i64 i) ∧ w'.cell? ⟨w.heap.size + 1, 2, none⟩ = some (.int .i64 v.k) ∧ w'.cell? ⟨w.heap.size + 1, 3, none⟩ = some (.int .i64 v.i) ∧ w'.cell? ⟨w.heap.size + 1, 4, none⟩ = some (.string v.t) ∧ w'.cell? ⟨w.heap.size + 1, 5, none⟩ = some (.string nm) ∧ w'.cell? ⟨w.heap.size + 1, 6, none⟩ = some (.slice A args.length c) ∧ w'.cell? ⟨w.heap.size + 1 + 1, 0, none⟩ = some (.int .i64 k) ∧ w'.cell? ⟨w.heap.size + 1 + 1, 1, none⟩ = some (.int .i64 f) ∧ w'.cell? ⟨w.heap.size + 1 + 1, 2, none⟩ = some (.int .i64 t) ∧ w'.cell? ⟨w.heap.size + 1 + 1 + 1, 0, none⟩ = some (.int .i64 d.1) ∧ w'.cell? ⟨w.heap.size + 1 + 1 + 1, 1, none⟩ = some (.int .i64 d.2))) (by kernel_rfl) (by simp [go_sem, ↓IntWalk.iteOmega, *]) (fun hHeld => ?_)
  refine wpAnyH_take (i := 0) (oi := ?oi1) (v := ?v1) ?hi1 (by kernel_rfl) (by kernel_rfl) (by kernel_rfl) ?hQ1 ?hy1 (by assumption) ?_
  case hi1 => (simp only [List.getElem?_toArray, List.getElem?_cons_succ, List.getElem?_cons_zero]; try rfl)
  case hQ1 => exact fun _ _ _ h => h
  case hy1 => (refine Or.inl ⟨by rfl, ?_⟩; intro wq hSw; (try dsimp only at hSw); go_simp; (try with_reducible rfl))
  (try simp only [Act.put, List.setIfInBounds_toArray, List.set_cons_zero, List.set_cons_succ])
  refine wpAnyH_take (i := 1) (oi := ?oi2) (v := ?v2) ?hi2 (by kernel_rfl) (by kernel_rfl) (by kernel_rfl) ?hQ2 ?hy2 (by assumption) ?_
  case hi2 => (simp only [List.getElem?_toArray, List.getElem?_cons_succ, List.getElem?_cons_zero]; try rfl)
  case hQ2 => exact fun _ _ _ h => h
  case hy2 => (refine Or.inl ⟨by rfl, ?_⟩; intro wq hSw; (try dsimp only at hSw); go_simp; (try with_reducible rfl))
  (try simp only [Act.put, List.setIfInBounds_toArray, List.set_cons_zero, List.set_cons_succ])
  refine wpAnyH_take (i := 2) (oi := ?oi3) (v := ?v3) ?hi3 (by kernel_rfl) (by kernel_rfl) (by kernel_rfl) ?hQ3 ?hy3 (by assumption) ?_
  case hi3 => (simp only [List.getElem?_toArray, List.getElem?_cons_succ, List.getElem?_cons_zero]; try rfl)
  case hQ3 => exact fun _ _ _ h => h
  case hy3 => (refine Or.inl ⟨by rfl, ?_⟩; intro wq hSw; (try dsimp only at hSw); go_simp; (try with_reducible rfl))
  (try simp only [Act.put, List.setIfInBounds_toArray, List.set_cons_zero, List.set_cons_succ])
  refine wpAnyH_take (i := 3) (oi := ?oi4) (v := ?v4) ?hi4 (by kernel_rfl) (by kernel_rfl) (by kernel_rfl) ?hQ4 ?hy4 (by assumption) ?_
  case hi4 => (simp only [List.getElem?_toArray, List.getElem?_cons_succ, List.getElem?_cons_zero]; try rfl)
  case hQ4 => exact fun _ _ _ h => h
  case hy4 => (refine Or.inl ⟨by rfl, ?_⟩; intro wq hSw; (try dsimp only at hSw); go_simp; (try with_reducible rfl))
  (try simp only [Act.put, List.setIfInBounds_toArray, List.set_cons_zero, List.set_cons_succ])
  refine wpAnyH_take (i := 5) (oi := ?oi5) (v := ?v5) ?hi5 (by kernel_rfl) (by kernel_rfl) (by kernel_rfl) ?hQ5 ?hy5 (by assumption) ?_
  case hi5 => (simp only [List.getElem?_toArray, List.getElem?_cons_succ, List.getElem?_cons_zero]; try rfl)
  case hQ5 => exact fun _ _ _ h => h
  case hy5 => (refine Or.inl ⟨by rfl, ?_⟩; intro wq hSw; (try dsimp only at hSw); go_simp; (try with_reducible rfl))
  (try simp only [Act.put, List.setIfInBounds_toArray, List.set_cons_zero, List.set_cons_succ])
  refine wpAnyH_take (i := 6) (oi := ?oi6) (v := ?v6) ?hi6 (by kernel_rfl) (by kernel_rfl) (by kernel_rfl) ?hQ6 ?hy6 (by assumption) ?_
  case hi6 => (simp only [List.getElem?_toArray, List.getElem?_cons_succ, List.getElem?_cons_zero]; try rfl)
  case hQ6 => exact fun _ _ _ h => h
  case hy6 => (refine Or.inl ⟨by rfl, ?_⟩; intro wq hSw; (try dsimp only at hSw); go_simp; (try with_reducible rfl))
  (try simp only [Act.put, List.setIfInBounds_toArray, List.set_cons_zero, List.set_cons_succ])
  refine wpAnyH_take (i := 7) (oi := ?oi7) (v := ?v7) ?hi7 (by kernel_rfl) (by kernel_rfl) (by kernel_rfl) ?hQ7 ?hy7 (by assumption) ?_
  case hi7 => (simp only [List.getElem?_toArray, List.getElem?_cons_succ, List.getElem?_cons_zero]; try rfl)
  case hQ7 => exact fun _ _ _ h => h
  case hy7 => (refine Or.inl ⟨by rfl, ?_⟩; intro wq hSw; (try dsimp only at hSw); go_simp; (try with_reducible rfl))
  (try simp only [Act.put, List.setIfInBounds_toArray, List.set_cons_zero, List.set_cons_succ])
  refine wpAnyH_take (i := 8) (oi := ?oi8) (v := ?v8) ?hi8 (by kernel_rfl) (by kernel_rfl) (by kernel_rfl) ?hQ8 ?hy8 (by assumption) ?_
  case hi8 => (simp only [List.getElem?_toArray, List.getElem?_cons_succ, List.getElem?_cons_zero]; try rfl)
  case hQ8 => exact fun _ _ _ h => h
  case hy8 => (refine Or.inl ⟨by rfl, ?_⟩; intro wq hSw; (try dsimp only at hSw); go_simp; (try with_reducible rfl))
  (try simp only [Act.put, List.setIfInBounds_toArray, List.set_cons_zero, List.set_cons_succ])
  refine wpAnyH_ready (rs := [4]) (by kernel_rfl) (by simp) ?_
  refine AllReadyH.cons (o := ?oi9) ?hi9 ?ti9 AllReadyH.nil
  case hi9 => (simp only [List.getElem?_toArray, List.getElem?_cons_succ, List.getElem?_cons_zero]; try rfl)
  case ti9 =>
    intro KQ hKQ
    go_simp
    go_at_call 8
    refine Calls.mono (HP.out _ (by repeat (first | exact Ext.refl' _ | assumption | apply Ext.ex' | apply Ext.al | apply Ext.drN | apply Ext.dr))) ?_
    rintro e w1 ⟨A5, n5, c5, rfl, HN5, HR5, hb1⟩
    obtain ⟨x5, rfl⟩ := hb1.get
    clear hb1
    refine hKQ.out _ _ (by simp [go_sem, ↓IntWalk.iteOmega, *]) (fun hHeld2 => ?_)
    clear hHeld hKQ KQ; have hHeld := hHeld2; clear hHeld2
    (try simp only [Act.put, List.setIfInBounds_toArray, List.set_cons_zero, List.set_cons_succ])
    refine wpAnyH_ready (rs := [9]) (by kernel_rfl) (by simp) ?_
    refine AllReadyH.cons (o := ?oi10) ?hi10 ?ti10 AllReadyH.nil
    case hi10 => (simp only [List.getElem?_toArray, List.getElem?_cons_succ, List.getElem?_cons_zero]; try rfl)
    case ti10 =>
      intro KQ hKQ
      go_simp
      go_at_call 9
      refine Calls.mono (HR.out _ (by repeat (first | exact Ext.refl' _ | assumption | apply Ext.ex' | apply Ext.al | apply Ext.drN | apply Ext.dr))) ?_
      rintro e w1 ⟨⟨A6, n6, c6, rfl, HN6, HR6⟩, hb1⟩
      obtain ⟨x6, rfl⟩ := hb1.get
      clear hb1
      refine hKQ.out _ _ (by simp [go_sem, ↓IntWalk.iteOmega, *]) (fun hHeld2 => ?_)
      clear hHeld hKQ KQ; have hHeld := hHeld2; clear hHeld2
      (try simp only [Act.put, List.setIfInBounds_toArray, List.set_cons_zero, List.set_cons_succ])
      refine wpAnyH_ready (rs := [10]) (by kernel_rfl) (by simp) ?_
      refine AllReadyH.cons (o := ?oi11) ?hi11 ?ti11 AllReadyH.nil
      case hi11 => (simp only [List.getElem?_toArray, List.getElem?_cons_succ, List.getElem?_cons_zero]; try rfl)
      case ti11 =>
        intro KQ hKQ
        go_simp
        go_at_call 7
        have hn56 : n6 = n5 := HN6.out.symm.trans HN5.out
        subst hn56
        refine Calls.mono (samepath_any p A5 A6 n6 c5 c6 _ HN5.out (HR5.out.ext (by repeat (first | exact Ext.refl' _ | assumption | apply Ext.ex' | apply Ext.al | apply Ext.drN | apply Ext.dr))) (HR6.out.ext (by repeat (first | exact Ext.refl' _ | assumption | apply Ext.ex' | apply Ext.al | apply Ext.drN | apply Ext.dr))) (by have := HPK.out; have := HN5.out; omega)) ?_
        rintro e w1 ⟨rfl, hb1⟩
        obtain ⟨x7, rfl⟩ := hb1.get
        clear hb1
        refine hKQ.out _ _ (by simp [go_sem, ↓IntWalk.iteOmega, *]) (fun hHeld2 => ?_)
        clear hHeld hKQ KQ; have hHeld := hHeld2; clear hHeld2
        (try simp only [Act.put, List.setIfInBounds_toArray, List.set_cons_zero, List.set_cons_succ])
        refine wpAnyH_take (i := 11) (oi := ?oi12) (v := ?v12) ?hi12 (by kernel_rfl) (by kernel_rfl) (by kernel_rfl) ?hQ12 ?hy12 (by assumption) ?_
        case hi12 => (simp only [List.getElem?_toArray, List.getElem?_cons_succ, List.getElem?_cons_zero]; try rfl)
        case hQ12 => exact fun _ _ _ h => h
        case hy12 => (refine Or.inl ⟨by rfl, ?_⟩; intro wq hSw; (try dsimp only at hSw); go_simp; (try with_reducible rfl))
        (try simp only [Act.put, List.setIfInBounds_toArray, List.set_cons_zero, List.set_cons_succ])
        refine wpAnyH_ready (rs := [12]) (by kernel_rfl) (by simp) ?_
        refine AllReadyH.cons (o := ?oi13) ?hi13 ?ti13 AllReadyH.nil
        case hi13 => (simp only [List.getElem?_toArray, List.getElem?_cons_succ, List.getElem?_cons_zero]; try rfl)
        case ti13 =>
          intro KQ hKQ
          go_simp
          go_at_call 6
          refine Calls.mono (awake_any _) ?_
          rintro e w1 ⟨rfl, hb1⟩
          obtain ⟨x8, rfl⟩ := hb1.get
          clear hb1
          refine hKQ.out _ _ (by simp [go_sem, ↓IntWalk.iteOmega, *]) (fun hHeld2 => ?_)
          clear hHeld hKQ KQ; have hHeld := hHeld2; clear hHeld2
          (try simp only [Act.put, List.setIfInBounds_toArray, List.set_cons_zero, List.set_cons_succ])
          refine wpAnyH_take (i := 13) (oi := ?oi14) (v := ?v14) ?hi14 (by kernel_rfl) (by kernel_rfl) (by kernel_rfl) ?hQ14 ?hy14 (by assumption) ?_
          case hi14 => (simp only [List.getElem?_toArray, List.getElem?_cons_succ, List.getElem?_cons_zero]; try rfl)
          case hQ14 => exact fun _ _ _ h => h
          case hy14 => (refine Or.inl ⟨by rfl, ?_⟩; intro wq hSw; (try dsimp only at hSw); go_simp; (try with_reducible rfl))
          (try simp only [Act.put, List.setIfInBounds_toArray, List.set_cons_zero, List.set_cons_succ])
          refine wpAnyH_take (i := 14) (oi := ?oi15) (v := ?v15) ?hi15 (by kernel_rfl) (by kernel_rfl) (by kernel_rfl) ?hQ15 ?hy15 (by assumption) ?_
          case hi15 => (simp only [List.getElem?_toArray, List.getElem?_cons_succ, List.getElem?_cons_zero]; try rfl)
          case hQ15 => exact fun _ _ _ h => h
          case hy15 => (refine Or.inl ⟨by rfl, ?_⟩; intro wq hSw; (try dsimp only at hSw); go_simp; (try with_reducible rfl))
          (try simp only [Act.put, List.setIfInBounds_toArray, List.set_cons_zero, List.set_cons_succ])
          refine wpAnyH_done (by kernel_rfl) ?_ _
          go_wp2
          go_ret
          exact ⟨rfl, by repeat (first | exact Ext.refl' _ | assumption | apply Ext.ex' | apply Ext.al | apply Ext.drN | apply Ext.dr)⟩

end Go.Proofs.Ytgacmpoonmioeaa
