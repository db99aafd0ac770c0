/- AccessComplete: the chosen path contains every version that the clause, the period and the predicate select. -/
import Derived.Test.YtflhikpihbenaaaGreatEv9
import Derived.Test.YtflhikpihbenaaaGreatEvQ
import Derived.Test.YtflhikpihbenaaaGreatEvS
import Derived.Test.YtflhikpihbenaaaGreatChr
import Derived.Test.YtflhikpihbenaaaGreatAwk
set_option linter.unusedSimpArgs false
set_option linter.unusedVariables false
namespace Go.Proofs.YtflhikpihbenaaaGreat
open Go.RowKit


set_option maxRecDepth 100000 in
set_option maxHeartbeats 20000000 in
theorem lawComplete_any (s0 : ByteArray) (A1 K A3 A4 : Option Addr) (n1 m1 n2 kc n3 m3 n4 m4 : Nat) (cl : List Col) (ks : List Int) (fl : List Fo) (es : List Ex) (css : List (List Value)) (o i : Int) (v : Va) (nm : ByteArray) (A : Option Addr) (args : List Ex) (c : Nat) (css2 : List (List Value)) (k f t : Int) (d : Int × Int) (ve : VeA) (w : World) (hs0 : s0.size ≤ 9223372036854775807) (hT : TabOk w A1 K A3 A4 n1 n2 n3 n4 cl ks fl es css)
    (hsz : szs args ≤ 1048575) (hvt : v.t.size ≤ 9223372036854775807) (hR : Rd w 7 A args.length css2.flatten) (hs : REs w args css2) (hf0 : -9223372036854775808 ≤ f) (ht0 : -9223372036854775808 ≤ t) (hV : VsOk w [ve]) :
    Calls Tryz.prog 3 #[.agg #[.string s0, .slice A1 n1 m1, .slice K n2 kc, .slice A3 n3 m3, .slice A4 n4 m4], exag o i v nm A args.length c, .agg #[.int .i64 k, .int .i64 f, .int .i64 t], pr d, .agg #[.int .i64 ve.id, .int .i64 ve.sch, .slice ve.row.A ve.row.l.length ve.row.c, .int .i64 ve.v.1, .int .i64 ve.v.2, .int .i64 ve.s.1, .int .i64 ve.s.2, .int .i64 ve.by_, .int .i64 ve.un]] w fun e w' => e = .returned (.bool true) ∧ Ext w w' := by
  have HCH := Lib.hid fun W (e : Ext w W) => chosen_any s0 A1 K A3 A4 n1 m1 n2 kc n3 m3 n4 m4 cl ks fl es css o i v nm A args c css2 d W hs0 (hT.ext e) (by omega) hvt (hR.ext e) (REs.ext e hs)
  have HUS : Hid (∀ W b, Rd W 9 (some ⟨b, 0, none⟩) 1 [.int .i64 ve.id, .int .i64 ve.sch, .slice ve.row.A ve.row.l.length ve.row.c, .int .i64 ve.v.1, .int .i64 ve.v.2, .int .i64 ve.s.1, .int .i64 ve.s.2, .int .i64 ve.by_, .int .i64 ve.un] → Ext w W → Calls Tryz.prog 5 #[.agg #[.string s0, .slice A1 n1 m1, .slice K n2 kc, .slice A3 n3 m3, .slice A4 n4 m4], .slice (some ⟨b, 0, none⟩) 1 1] W fun e w' => RB e ∧ Ext W w') := Lib.hid fun W b h1 e => by
    refine Calls.mono (usable_any s0 A1 K A3 A4 n1 m1 n2 kc n3 m3 n4 m4 cl ks fl es css (some ⟨b, 0, none⟩) 1 1 [ve] W hs0 (hT.ext e) rfl (by decide) h1 (hV.ext e)) ?_
    rintro e w' ⟨⟨bb, rfl, _⟩, hb⟩
    exact ⟨⟨bb, rfl⟩, hb⟩
  have HSY : Hid (f ≤ 1099511627776 → t ≤ 1099511627776 → ∀ W, Calls Tryz.prog 7 #[.agg #[.int .i64 k, .int .i64 f, .int .i64 t]] W fun e w' => e = .returned (.agg #[.int .i64 (sysF k f t).1, .int .i64 (sysF k f t).2]) ∧ Ext W w') := Lib.hid fun h1 h2 W => rsystem_any k f t W hf0 h1 ht0 h2
  have hve := hV ve (by simp)
  have HTR := Lib.hid fun W (e : Ext w W) => truth11_any ve.row.A ve.row.c ve.row.l hve.2.1 hve.2.2 o i v nm A args c css2 W (by omega) hvt (hR.ext e) (REs.ext e hs) (hve.1.ext e)
  obtain ⟨p, hp⟩ : ∃ p, chF (prefF (conds (.mk o i v nm args)) ks) (sysF k f t) d = p := ⟨_, rfl⟩
  have hcl : (conds (.mk o i v nm args)).length ≤ 1048576 := by
    have h1 := conds_len (.mk o i v nm args)
    rw [szE] at h1
    omega
  have hpk : p.key.length ≤ 1048576 := by
    rw [← hp]
    have h1 := prefF_length (conds (.mk o i v nm args)) ks
    have h2 := hT.kn
    have h3 := hT.kb
    unfold chF
    split
    · show (prefF (conds (.mk o i v nm args)) ks).length ≤ 1048576
      omega
    · split
      · exact Nat.zero_le _
      · split
        · exact Nat.zero_le _
        · split <;> exact Nat.zero_le _
  have HP : Hid (f ≤ 1099511627776 → t ≤ 1099511627776 → ∀ W, Ext w W → Calls Tryz.prog 11 #[.agg #[.string s0, .slice A1 n1 m1, .slice K n2 kc, .slice A3 n3 m3, .slice A4 n4 m4], exag o i v nm A args.length c, .agg #[.int .i64 k, .int .i64 f, .int .i64 t], pr d] W fun e w' => ∃ (A5 : Option Addr) (n5 c5 : Nat), e = .returned (.agg #[.int .i64 p.k, .slice A5 n5 c5, .int .i64 p.v.1, .int .i64 p.v.2, .int .i64 p.s.1, .int .i64 p.s.2]) ∧ Hid (p.key.length = n5) ∧ Hid (Rd w' 3 A5 n5 (vcs p.key)) ∧ Ext W w') := Lib.hid fun hf ht W e => by
    have h := choose_any s0 A1 A3 A4 n1 m1 n3 m3 n4 m4 K ks kc o i v nm A args c css2 k f t d W (by rw [hT.kn]; exact hT.k.ext e) (by rw [hT.kn]; exact hT.kb) (hR.ext e) (REs.ext e hs) (Nat.le_trans (szs_len args) (by omega)) hcl hf0 hf ht0 ht
    rw [hp, hT.kn] at h
    refine Calls.mono h ?_
    rintro e w' ⟨A5, c5, rfl, h1, h2⟩
    exact ⟨A5, _, c5, rfl, Lib.hid rfl, Lib.hid (Rd.of_own h2), h1⟩
  have HM : Hid (hol ve.row.l (.mk o i v nm args) → povB ve.s (sysF k f t) = true → povB ve.v d = true → ∀ W, Ext w W → ∀ (A5 : Option Addr) (n5 c5 : Nat), p.key.length = n5 → Rd W 3 A5 n5 (vcs p.key) → Calls Tryz.prog 10 #[.agg #[.string s0, .slice A1 n1 m1, .slice K n2 kc, .slice A3 n3 m3, .slice A4 n4 m4], .agg #[.int .i64 p.k, .slice A5 n5 c5, .int .i64 p.v.1, .int .i64 p.v.2, .int .i64 p.s.1, .int .i64 p.s.2], .agg #[.int .i64 ve.id, .int .i64 ve.sch, .slice ve.row.A ve.row.l.length ve.row.c, .int .i64 ve.v.1, .int .i64 ve.v.2, .int .i64 ve.s.1, .int .i64 ve.s.2, .int .i64 ve.by_, .int .i64 ve.un]] W fun e w' => e = .returned (.bool true) ∧ Ext W w') := Lib.hid fun h1 h2 h3 W e A5 n5 c5 h4 h5 => by
    have hm := chosen_mat h1 ks (sysF k f t) d ve.v ve.s h2 h3
    have hm : matB p.k p.key (ks.map (atV ve.row.l)) ve.v ve.s p.v p.s = true := by rw [← hp]; exact hm
    subst h4
    have h := amatches_any s0 A1 A3 A4 K n1 m1 n3 m3 n4 m4 kc ks ve.id ve.sch ve.row.A ve.row.c ve.row.l ve.v ve.s ve.by_ ve.un p.k A5 c5 p.key p.v p.s W (hve.1.ext e) (by rw [hT.kn]; exact hT.k.ext e) h5 (by have := hve.2.1; omega) (by rw [hT.kn]; exact hT.kb) (by omega)
    rw [hm, hT.kn] at h
    exact h
  clear hs0 hT hsz hvt hR hs hf0 ht0 hp hcl hV hve hpk
  go_enter Tryz.func3, Tryz.ntmps3
  go_wp2_with fail
  refine (HCH.out _ (by repeat (first | exact Ext.refl' _ | assumption | apply Ext.ex' | apply Ext.al | apply Ext.drN | apply Ext.dr))).mono ?_
  rintro e w1 ⟨⟨cb, rfl⟩, hb1⟩
  obtain ⟨x1, rfl⟩ := hb1.get
  clear hb1
  clear HCH
  cases cb
  · go_wp2_with fail
    refine (awake_any _).mono ?_
    rintro e w1 ⟨rfl, hb1⟩
    obtain ⟨x9, rfl⟩ := hb1.get
    clear hb1
    go_wp2
    go_ret
    exact ⟨rfl, by repeat (first | exact Ext.refl' _ | assumption | apply Ext.ex' | apply Ext.al | apply Ext.drN | apply Ext.dr)⟩
  by_cases hf : 1099511627776 < f
  · go_wp2_with fail
    refine (awake_any _).mono ?_
    rintro e w1 ⟨rfl, hb1⟩
    obtain ⟨x9, rfl⟩ := hb1.get
    clear hb1
    go_wp2
    go_ret
    exact ⟨rfl, by repeat (first | exact Ext.refl' _ | assumption | apply Ext.ex' | apply Ext.al | apply Ext.drN | apply Ext.dr)⟩
  by_cases ht : 1099511627776 < t
  · go_wp2_with fail
    refine (awake_any _).mono ?_
    rintro e w1 ⟨rfl, hb1⟩
    obtain ⟨x9, rfl⟩ := hb1.get
    clear hb1
    go_wp2
    go_ret
    exact ⟨rfl, by repeat (first | exact Ext.refl' _ | assumption | apply Ext.ex' | apply Ext.al | apply Ext.drN | apply Ext.dr)⟩
  have HP := Lib.hid (HP.out (by omega) (by omega))
  have HSY := Lib.hid (HSY.out (by omega) (by omega))
  go_wp2_with fail
  refine Calls.mono (HUS.out _ _ (Rd.lit _ #[.int .i64 ve.id, .int .i64 ve.sch, .slice ve.row.A ve.row.l.length ve.row.c, .int .i64 ve.v.1, .int .i64 ve.v.2, .int .i64 ve.s.1, .int .i64 ve.s.2, .int .i64 ve.by_, .int .i64 ve.un] _ 1 9 rfl ?hbq) (by repeat (first | exact Ext.refl' _ | assumption | apply Ext.ex' | apply Ext.al | apply Ext.drN | apply Ext.dr))) ?_
  case hbq => first | rfl | simp [go_sem, size_ext]
  rintro e w1 ⟨⟨ub, rfl⟩, hb1⟩
  obtain ⟨x2, rfl⟩ := hb1.get
  clear hb1 HUS
  cases ub
  · go_wp2_with fail
    refine (awake_any _).mono ?_
    rintro e w1 ⟨rfl, hb1⟩
    obtain ⟨x9, rfl⟩ := hb1.get
    clear hb1
    go_wp2
    go_ret
    exact ⟨rfl, by repeat (first | exact Ext.refl' _ | assumption | apply Ext.ex' | apply Ext.al | apply Ext.drN | apply Ext.dr)⟩
  generalize sysF k f t = s at *
  go_wp2_with fail
  refine (HSY.out _).mono ?_
  rintro e w1 ⟨rfl, hb1⟩
  obtain ⟨x3, rfl⟩ := hb1.get
  clear hb1
  have HO1 := Lib.hid fun W => rov_any ve.s s W
  have HO2 := Lib.hid fun W => rov_any ve.v d W
  obtain ⟨b1, hb1⟩ : ∃ b, povB ve.s s = b := ⟨_, rfl⟩
  obtain ⟨b2, hb2⟩ : ∃ b, povB ve.v d = b := ⟨_, rfl⟩
  have HB : Hid (povB ve.s s = b1 ∧ povB ve.v d = b2) := Lib.hid ⟨hb1, hb2⟩
  rw [hb1] at HO1
  rw [hb2] at HO2
  clear hb1 hb2
  go_wp2_with fail
  refine (HO1.out _).mono ?_
  rintro e w1 ⟨rfl, hb1⟩
  obtain ⟨x4, rfl⟩ := hb1.get
  clear hb1
  clear HO1
  cases b1
  · go_wp2_with fail
    refine (awake_any _).mono ?_
    rintro e w1 ⟨rfl, hb1⟩
    obtain ⟨x9, rfl⟩ := hb1.get
    clear hb1
    go_wp2
    go_ret
    exact ⟨rfl, by repeat (first | exact Ext.refl' _ | assumption | apply Ext.ex' | apply Ext.al | apply Ext.drN | apply Ext.dr)⟩
  go_wp2_with fail
  refine (HO2.out _).mono ?_
  rintro e w1 ⟨rfl, hb1⟩
  obtain ⟨x5, rfl⟩ := hb1.get
  clear hb1
  clear HO2
  cases b2
  · go_wp2_with fail
    refine (awake_any _).mono ?_
    rintro e w1 ⟨rfl, hb1⟩
    obtain ⟨x9, rfl⟩ := hb1.get
    clear hb1
    go_wp2
    go_ret
    exact ⟨rfl, by repeat (first | exact Ext.refl' _ | assumption | apply Ext.ex' | apply Ext.al | apply Ext.drN | apply Ext.dr)⟩
  go_wp2_with fail
  refine (HTR.out _ (by repeat (first | exact Ext.refl' _ | assumption | apply Ext.ex' | apply Ext.al | apply Ext.drN | apply Ext.dr))).mono ?_
  rintro e w1 ⟨⟨z, rfl, hz⟩, hb1⟩
  obtain ⟨x6, rfl⟩ := hb1.get
  clear hb1
  clear HTR
  by_cases hz2 : z = 2
  · have HM := Lib.hid (HM.out (hz hz2) HB.out.1 HB.out.2)
    subst hz2
    clear hz
    go_wp2_with fail
    refine wp_region_held_drew (S := (fun w' => w'.cell? ⟨w.heap.size, 0, none⟩ = some (.string s0) ∧ w'.cell? ⟨w.heap.size, 1, none⟩ = some (.slice A1 n1 m1) ∧ w'.cell? ⟨w.heap.size, 2, none⟩ = some (.slice K n2 kc) ∧ w'.cell? ⟨w.heap.size, 3, none⟩ = some (.slice A3 n3 m3) ∧ w'.cell? ⟨w.heap.size, 4, none⟩ = some (.slice A4 n4 m4) ∧ w'.cell? ⟨w.heap.size + 1, 0, none⟩ = some (.int .i64 o) ∧ w'.cell? ⟨w.heap.size + 1, 1, none⟩ = some (.int .i64 i) ∧ w'.cell? ⟨w.heap.size + 1, 2, none⟩ = some (.int .i64 v.k) ∧ w'.cell? ⟨w.heap.size + 1, 3, none⟩ = some (.int .i64 v.i) ∧ w'.cell? ⟨w.heap.size + 1, 4, none⟩ = some (.string v.t) ∧ w'.cell? ⟨w.heap.size + 1, 5, none⟩ = some (.string nm) ∧ w'.cell? ⟨w.heap.size + 1, 6, none⟩ = some (.slice A args.length c) ∧ w'.cell? ⟨w.heap.size + 1 + 1, 0, none⟩ = some (.int .i64 k) ∧ w'.cell? ⟨w.heap.size + 1 + 1, 1, none⟩ = some (.int .i64 f) ∧ w'.cell? ⟨w.heap.size + 1 + 1, 2, none⟩ = some (.int .i64 t) ∧ w'.cell? ⟨w.heap.size + 1 + 1 + 1, 0, none⟩ = some (.int .i64 d.1) ∧ w'.cell? ⟨w.heap.size + 1 + 1 + 1, 1, none⟩ = some (.int .i64 d.2) ∧ w'.cell? ⟨w.heap.size + 1 + 1 + 1 + 1, 0, none⟩ = some (.int .i64 ve.id) ∧ w'.cell? ⟨w.heap.size + 1 + 1 + 1 + 1, 1, none⟩ = some (.int .i64 ve.sch) ∧ w'.cell? ⟨w.heap.size + 1 + 1 + 1 + 1, 2, none⟩ = some (.slice ve.row.A ve.row.l.length ve.row.c) ∧ w'.cell? ⟨w.heap.size + 1 + 1 + 1 + 1, 3, none⟩ = some (.int .i64 ve.v.1) ∧ w'.cell? ⟨w.heap.size + 1 + 1 + 1 + 1, 4, none⟩ = some (.int .i64 ve.v.2) ∧ w'.cell? ⟨w.heap.size + 1 + 1 + 1 + 1, 5, none⟩ = some (.int .i64 ve.s.1) ∧ w'.cell? ⟨w.heap.size + 1 + 1 + 1 + 1, 6, none⟩ = some (.int .i64 ve.s.2) ∧ w'.cell? ⟨w.heap.size + 1 + 1 + 1 + 1, 7, none⟩ = some (.int .i64 ve.by_) ∧ w'.cell? ⟨w.heap.size + 1 + 1 + 1 + 1, 8, none⟩ = some (.int .i64 ve.un))) (by kernel_rfl) (by simp [go_sem, ↓IntWalk.iteOmega, *]) (fun hHeld => ?_)
    refine wpAnyH_take (i := 0) (oi := ?oi1) (v := ?v1) ?hi1 (by kernel_rfl) (by kernel_rfl) (by kernel_rfl) ?hQ1 ?hy1 (by assumption) ?_
    case hi1 => (simp only [List.getElem?_toArray, List.getElem?_cons_succ, List.getElem?_cons_zero]; try rfl)
    case hQ1 => exact fun _ _ _ h => h
    case hy1 => (refine Or.inl ⟨by rfl, ?_⟩; intro wq hSw; (try dsimp only at hSw); go_simp; (try with_reducible rfl))
    (try simp only [Act.put, List.setIfInBounds_toArray, List.set_cons_zero, List.set_cons_succ])
    refine wpAnyH_take (i := 1) (oi := ?oi2) (v := ?v2) ?hi2 (by kernel_rfl) (by kernel_rfl) (by kernel_rfl) ?hQ2 ?hy2 (by assumption) ?_
    case hi2 => (simp only [List.getElem?_toArray, List.getElem?_cons_succ, List.getElem?_cons_zero]; try rfl)
    case hQ2 => exact fun _ _ _ h => h
    case hy2 => (refine Or.inl ⟨by rfl, ?_⟩; intro wq hSw; (try dsimp only at hSw); go_simp; (try with_reducible rfl))
    (try simp only [Act.put, List.setIfInBounds_toArray, List.set_cons_zero, List.set_cons_succ])
    refine wpAnyH_take (i := 2) (oi := ?oi3) (v := ?v3) ?hi3 (by kernel_rfl) (by kernel_rfl) (by kernel_rfl) ?hQ3 ?hy3 (by assumption) ?_
    case hi3 => (simp only [List.getElem?_toArray, List.getElem?_cons_succ, List.getElem?_cons_zero]; try rfl)
    case hQ3 => exact fun _ _ _ h => h
    case hy3 => (refine Or.inl ⟨by rfl, ?_⟩; intro wq hSw; (try dsimp only at hSw); go_simp; (try with_reducible rfl))
    (try simp only [Act.put, List.setIfInBounds_toArray, List.set_cons_zero, List.set_cons_succ])
    refine wpAnyH_take (i := 3) (oi := ?oi4) (v := ?v4) ?hi4 (by kernel_rfl) (by kernel_rfl) (by kernel_rfl) ?hQ4 ?hy4 (by assumption) ?_
    case hi4 => (simp only [List.getElem?_toArray, List.getElem?_cons_succ, List.getElem?_cons_zero]; try rfl)
    case hQ4 => exact fun _ _ _ h => h
    case hy4 => (refine Or.inl ⟨by rfl, ?_⟩; intro wq hSw; (try dsimp only at hSw); go_simp; (try with_reducible rfl))
    (try simp only [Act.put, List.setIfInBounds_toArray, List.set_cons_zero, List.set_cons_succ])
    refine wpAnyH_take (i := 4) (oi := ?oi5) (v := ?v5) ?hi5 (by kernel_rfl) (by kernel_rfl) (by kernel_rfl) ?hQ5 ?hy5 (by assumption) ?_
    case hi5 => (simp only [List.getElem?_toArray, List.getElem?_cons_succ, List.getElem?_cons_zero]; try rfl)
    case hQ5 => exact fun _ _ _ h => h
    case hy5 => (refine Or.inl ⟨by rfl, ?_⟩; intro wq hSw; (try dsimp only at hSw); go_simp; (try with_reducible rfl))
    (try simp only [Act.put, List.setIfInBounds_toArray, List.set_cons_zero, List.set_cons_succ])
    refine wpAnyH_take (i := 6) (oi := ?oi6) (v := ?v6) ?hi6 (by kernel_rfl) (by kernel_rfl) (by kernel_rfl) ?hQ6 ?hy6 (by assumption) ?_
    case hi6 => (simp only [List.getElem?_toArray, List.getElem?_cons_succ, List.getElem?_cons_zero]; try rfl)
    case hQ6 => exact fun _ _ _ h => h
    case hy6 => (refine Or.inl ⟨by rfl, ?_⟩; intro wq hSw; (try dsimp only at hSw); go_simp; (try with_reducible rfl))
    (try simp only [Act.put, List.setIfInBounds_toArray, List.set_cons_zero, List.set_cons_succ])
    refine wpAnyH_ready (rs := [5]) (by kernel_rfl) (by simp) ?_
    refine AllReadyH.cons (o := ?oi7) ?hi7 ?ti7 AllReadyH.nil
    case hi7 => (simp only [List.getElem?_toArray, List.getElem?_cons_succ, List.getElem?_cons_zero]; try rfl)
    case ti7 =>
      intro KQ hKQ
      go_simp
      go_at_call 11
      refine Calls.mono (HP.out _ (by repeat (first | exact Ext.refl' _ | assumption | apply Ext.ex' | apply Ext.al | apply Ext.drN | apply Ext.dr))) ?_
      rintro e w1 ⟨A5, n5, c5, rfl, HN5, HR5, hb1⟩
      obtain ⟨x5, rfl⟩ := hb1.get
      clear hb1
      refine hKQ.out _ _ (by simp [go_sem, ↓IntWalk.iteOmega, *]) (fun hHeld2 => ?_)
      clear hHeld hKQ KQ; have hHeld := hHeld2; clear hHeld2
      (try simp only [Act.put, List.setIfInBounds_toArray, List.set_cons_zero, List.set_cons_succ])
      refine wpAnyH_ready (rs := [7]) (by kernel_rfl) (by simp) ?_
      refine AllReadyH.cons (o := ?oi8) ?hi8 ?ti8 AllReadyH.nil
      case hi8 => (simp only [List.getElem?_toArray, List.getElem?_cons_succ, List.getElem?_cons_zero]; try rfl)
      case ti8 =>
        intro KQ hKQ
        go_simp
        go_at_call 10
        refine Calls.mono (HM.out _ (by repeat (first | exact Ext.refl' _ | assumption | apply Ext.ex' | apply Ext.al | apply Ext.drN | apply Ext.dr)) A5 n5 c5 HN5.out (HR5.out.ext (by repeat (first | exact Ext.refl' _ | assumption | apply Ext.ex' | apply Ext.al | apply Ext.drN | apply Ext.dr)))) ?_
        rintro e w1 ⟨rfl, hb1⟩
        obtain ⟨x6, rfl⟩ := hb1.get
        clear hb1
        refine hKQ.out _ _ (by simp [go_sem, ↓IntWalk.iteOmega, *]) (fun hHeld2 => ?_)
        clear hHeld hKQ KQ; have hHeld := hHeld2; clear hHeld2
        (try simp only [Act.put, List.setIfInBounds_toArray, List.set_cons_zero, List.set_cons_succ])
        refine wpAnyH_take (i := 8) (oi := ?oi9) (v := ?v9) ?hi9 (by kernel_rfl) (by kernel_rfl) (by kernel_rfl) ?hQ9 ?hy9 (by assumption) ?_
        case hi9 => (simp only [List.getElem?_toArray, List.getElem?_cons_succ, List.getElem?_cons_zero]; try rfl)
        case hQ9 => exact fun _ _ _ h => h
        case hy9 => (refine Or.inl ⟨by rfl, ?_⟩; intro wq hSw; (try dsimp only at hSw); go_simp; (try with_reducible rfl))
        (try simp only [Act.put, List.setIfInBounds_toArray, List.set_cons_zero, List.set_cons_succ])
        refine wpAnyH_ready (rs := [9]) (by kernel_rfl) (by simp) ?_
        refine AllReadyH.cons (o := ?oi10) ?hi10 ?ti10 AllReadyH.nil
        case hi10 => (simp only [List.getElem?_toArray, List.getElem?_cons_succ, List.getElem?_cons_zero]; try rfl)
        case ti10 =>
          intro KQ hKQ
          go_simp
          go_at_call 6
          refine Calls.mono (awake_any _) ?_
          rintro e w1 ⟨rfl, hb1⟩
          obtain ⟨x8, rfl⟩ := hb1.get
          clear hb1
          refine hKQ.out _ _ (by simp [go_sem, ↓IntWalk.iteOmega, *]) (fun hHeld2 => ?_)
          clear hHeld hKQ KQ; have hHeld := hHeld2; clear hHeld2
          (try simp only [Act.put, List.setIfInBounds_toArray, List.set_cons_zero, List.set_cons_succ])
          refine wpAnyH_take (i := 10) (oi := ?oi11) (v := ?v11) ?hi11 (by kernel_rfl) (by kernel_rfl) (by kernel_rfl) ?hQ11 ?hy11 (by assumption) ?_
          case hi11 => (simp only [List.getElem?_toArray, List.getElem?_cons_succ, List.getElem?_cons_zero]; try rfl)
          case hQ11 => exact fun _ _ _ h => h
          case hy11 => (refine Or.inl ⟨by rfl, ?_⟩; intro wq hSw; (try dsimp only at hSw); go_simp; (try with_reducible rfl))
          (try simp only [Act.put, List.setIfInBounds_toArray, List.set_cons_zero, List.set_cons_succ])
          refine wpAnyH_take (i := 11) (oi := ?oi12) (v := ?v12) ?hi12 (by kernel_rfl) (by kernel_rfl) (by kernel_rfl) ?hQ12 ?hy12 (by assumption) ?_
          case hi12 => (simp only [List.getElem?_toArray, List.getElem?_cons_succ, List.getElem?_cons_zero]; try rfl)
          case hQ12 => exact fun _ _ _ h => h
          case hy12 => (refine Or.inl ⟨by rfl, ?_⟩; intro wq hSw; (try dsimp only at hSw); go_simp; (try with_reducible rfl))
          (try simp only [Act.put, List.setIfInBounds_toArray, List.set_cons_zero, List.set_cons_succ])
          refine wpAnyH_done (by kernel_rfl) ?_ _
          go_wp2
          go_ret
          exact ⟨rfl, by repeat (first | exact Ext.refl' _ | assumption | apply Ext.ex' | apply Ext.al | apply Ext.drN | apply Ext.dr)⟩
  · clear hz
    go_wp2_with fail
    refine (awake_any _).mono ?_
    rintro e w1 ⟨rfl, hb1⟩
    obtain ⟨x9, rfl⟩ := hb1.get
    clear hb1
    go_wp2
    go_ret
    exact ⟨rfl, by repeat (first | exact Ext.refl' _ | assumption | apply Ext.ex' | apply Ext.al | apply Ext.drN | apply Ext.dr)⟩

end Go.Proofs.YtflhikpihbenaaaGreat
