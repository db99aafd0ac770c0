/- The walk of the law SpanAlgebra. -/
import Derived.Test.YtogfageapejmpaaSpG
set_option linter.unusedSimpArgs false
set_option linter.unusedVariables false
namespace Go.Proofs.Ytogfageapejmpaa
open Go.RowKit


theorem covers_yes {a b : List (Int × Int)} (h : ∀ t, 0 ≤ t → t < 1099511627776 → inL b t = true → inL a t = true) : coversF a b = true := by
  have e : combF subK b a = [] := can_unique (combF_can _ _ _) can_nil fun t => by
    rw [combF_in, inL_nil]
    by_cases hh : 0 ≤ t ∧ t < 1099511627776
    · cases hb : inL b t with
      | false => simp [subK]
      | true => rw [h t hh.1 hh.2 hb]; simp [subK]
    · rw [decide_eq_false hh]; rfl
  unfold coversF; rw [e]; rfl


set_option maxRecDepth 100000 in
set_option maxHeartbeats 8000000 in
theorem lawAlgebra_any (A : Option Addr) (ca : Nat) (a : List (Int × Int)) (B : Option Addr) (cb : Nat) (b : List (Int × Int)) (C : Option Addr) (cc : Nat) (c : List (Int × Int)) (w : World) (ha : Rd w 2 A a.length (pc a)) (hb : Rd w 2 B b.length (pc b)) (hc : Rd w 2 C c.length (pc c)) (na : a.length ≤ 9223372036854775807) (nb : b.length ≤ 9223372036854775807) (nc : c.length ≤ 9223372036854775807) :
    Calls Try.prog 7 #[.slice A a.length ca, .slice B b.length cb, .slice C c.length cc] w fun e w' => e = .returned (.bool true) ∧ Ext w w' := by

  by_cases ga : 30 < a.length
  · go_enter Try.func7, Try.ntmps7
    go_wp2_with fail
    refine Calls.mono (awake_any _) ?_
    rintro e w1 ⟨rfl, hb1⟩
    obtain ⟨x1, rfl⟩ := hb1.get
    clear hb1
    go_wp2
    go_ret
    exact ⟨rfl, by repeat (first | exact Ext.refl' _ | assumption | apply Ext.ex' | apply Ext.al | apply Ext.drN | apply Ext.dr)⟩
  · skip
    by_cases gb : 30 < b.length
    · go_enter Try.func7, Try.ntmps7
      go_wp2_with fail
      refine Calls.mono (awake_any _) ?_
      rintro e w1 ⟨rfl, hb1⟩
      obtain ⟨x1, rfl⟩ := hb1.get
      clear hb1
      go_wp2
      go_ret
      exact ⟨rfl, by repeat (first | exact Ext.refl' _ | assumption | apply Ext.ex' | apply Ext.al | apply Ext.drN | apply Ext.dr)⟩
    · skip
      by_cases gc : 30 < c.length
      · go_enter Try.func7, Try.ntmps7
        go_wp2_with fail
        refine Calls.mono (awake_any _) ?_
        rintro e w1 ⟨rfl, hb1⟩
        obtain ⟨x1, rfl⟩ := hb1.get
        clear hb1
        go_wp2
        go_ret
        exact ⟨rfl, by repeat (first | exact Ext.refl' _ | assumption | apply Ext.ex' | apply Ext.al | apply Ext.drN | apply Ext.dr)⟩
      · skip
        obtain ⟨u, h_u⟩ : ∃ u : List (Int × Int), u = (combF ofK a b) := ⟨_, rfl⟩
        have s_u : u.length ≤ 549755813888 := by rw [h_u]; exact can_short (combF_can _ _ _)
        have m_u : ∀ t, 0 ≤ t → t < 1099511627776 → inL u t = (inL a t || inL b t) := fun t h0 h1 => by rw [h_u, combF_in, decide_eq_true ⟨h0, h1⟩]; rfl
        obtain ⟨ub, h_ub⟩ : ∃ ub : List (Int × Int), ub = (combF ofK b a) := ⟨_, rfl⟩
        have s_ub : ub.length ≤ 549755813888 := by rw [h_ub]; exact can_short (combF_can _ _ _)
        have m_ub : ∀ t, 0 ≤ t → t < 1099511627776 → inL ub t = (inL b t || inL a t) := fun t h0 h1 => by rw [h_ub, combF_in, decide_eq_true ⟨h0, h1⟩]; rfl
        obtain ⟨i, h_i⟩ : ∃ i : List (Int × Int), i = (combF interK a b) := ⟨_, rfl⟩
        have s_i : i.length ≤ 549755813888 := by rw [h_i]; exact can_short (combF_can _ _ _)
        have m_i : ∀ t, 0 ≤ t → t < 1099511627776 → inL i t = (inL a t && inL b t) := fun t h0 h1 => by rw [h_i, combF_in, decide_eq_true ⟨h0, h1⟩]; rfl
        obtain ⟨ib, h_ib⟩ : ∃ ib : List (Int × Int), ib = (combF interK b a) := ⟨_, rfl⟩
        have s_ib : ib.length ≤ 549755813888 := by rw [h_ib]; exact can_short (combF_can _ _ _)
        have m_ib : ∀ t, 0 ≤ t → t < 1099511627776 → inL ib t = (inL b t && inL a t) := fun t h0 h1 => by rw [h_ib, combF_in, decide_eq_true ⟨h0, h1⟩]; rfl
        obtain ⟨cu, h_cu⟩ : ∃ cu : List (Int × Int), cu = (combF norK u []) := ⟨_, rfl⟩
        have s_cu : cu.length ≤ 549755813888 := by rw [h_cu]; exact can_short (combF_can _ _ _)
        have m_cu : ∀ t, 0 ≤ t → t < 1099511627776 → inL cu t = (!inL u t && !inL [] t) := fun t h0 h1 => by rw [h_cu, combF_in, decide_eq_true ⟨h0, h1⟩]; rfl
        obtain ⟨ca2, h_ca2⟩ : ∃ ca2 : List (Int × Int), ca2 = (combF norK a []) := ⟨_, rfl⟩
        have s_ca2 : ca2.length ≤ 549755813888 := by rw [h_ca2]; exact can_short (combF_can _ _ _)
        have m_ca2 : ∀ t, 0 ≤ t → t < 1099511627776 → inL ca2 t = (!inL a t && !inL [] t) := fun t h0 h1 => by rw [h_ca2, combF_in, decide_eq_true ⟨h0, h1⟩]; rfl
        obtain ⟨cb2, h_cb2⟩ : ∃ cb2 : List (Int × Int), cb2 = (combF norK b []) := ⟨_, rfl⟩
        have s_cb2 : cb2.length ≤ 549755813888 := by rw [h_cb2]; exact can_short (combF_can _ _ _)
        have m_cb2 : ∀ t, 0 ≤ t → t < 1099511627776 → inL cb2 t = (!inL b t && !inL [] t) := fun t h0 h1 => by rw [h_cb2, combF_in, decide_eq_true ⟨h0, h1⟩]; rfl
        obtain ⟨ic2, h_ic2⟩ : ∃ ic2 : List (Int × Int), ic2 = (combF interK ca2 cb2) := ⟨_, rfl⟩
        have s_ic2 : ic2.length ≤ 549755813888 := by rw [h_ic2]; exact can_short (combF_can _ _ _)
        have m_ic2 : ∀ t, 0 ≤ t → t < 1099511627776 → inL ic2 t = (inL ca2 t && inL cb2 t) := fun t h0 h1 => by rw [h_ic2, combF_in, decide_eq_true ⟨h0, h1⟩]; rfl
        obtain ⟨d, h_d⟩ : ∃ d : List (Int × Int), d = (combF subK a b) := ⟨_, rfl⟩
        have s_d : d.length ≤ 549755813888 := by rw [h_d]; exact can_short (combF_can _ _ _)
        have m_d : ∀ t, 0 ≤ t → t < 1099511627776 → inL d t = (inL a t && !inL b t) := fun t h0 h1 => by rw [h_d, combF_in, decide_eq_true ⟨h0, h1⟩]; rfl
        obtain ⟨id2, h_id2⟩ : ∃ id2 : List (Int × Int), id2 = (combF interK a cb2) := ⟨_, rfl⟩
        have s_id2 : id2.length ≤ 549755813888 := by rw [h_id2]; exact can_short (combF_can _ _ _)
        have m_id2 : ∀ t, 0 ≤ t → t < 1099511627776 → inL id2 t = (inL a t && inL cb2 t) := fun t h0 h1 => by rw [h_id2, combF_in, decide_eq_true ⟨h0, h1⟩]; rfl
        obtain ⟨nn, h_nn⟩ : ∃ nn : List (Int × Int), nn = (combF norK ca2 []) := ⟨_, rfl⟩
        have s_nn : nn.length ≤ 549755813888 := by rw [h_nn]; exact can_short (combF_can _ _ _)
        have m_nn : ∀ t, 0 ≤ t → t < 1099511627776 → inL nn t = (!inL ca2 t && !inL [] t) := fun t h0 h1 => by rw [h_nn, combF_in, decide_eq_true ⟨h0, h1⟩]; rfl
        obtain ⟨oa, h_oa⟩ : ∃ oa : List (Int × Int), oa = (ofF a) := ⟨_, rfl⟩
        have s_oa : oa.length ≤ 549755813888 := by rw [h_oa]; exact can_short (ofF_can _)
        have m_oa : ∀ t, 0 ≤ t → t < 1099511627776 → inL oa t = inL a t := fun t _ _ => by rw [h_oa, ofF_in]
        obtain ⟨uc, h_uc⟩ : ∃ uc : List (Int × Int), uc = (combF interK u c) := ⟨_, rfl⟩
        have s_uc : uc.length ≤ 549755813888 := by rw [h_uc]; exact can_short (combF_can _ _ _)
        have m_uc : ∀ t, 0 ≤ t → t < 1099511627776 → inL uc t = (inL u t && inL c t) := fun t h0 h1 => by rw [h_uc, combF_in, decide_eq_true ⟨h0, h1⟩]; rfl
        obtain ⟨ac, h_ac⟩ : ∃ ac : List (Int × Int), ac = (combF interK a c) := ⟨_, rfl⟩
        have s_ac : ac.length ≤ 549755813888 := by rw [h_ac]; exact can_short (combF_can _ _ _)
        have m_ac : ∀ t, 0 ≤ t → t < 1099511627776 → inL ac t = (inL a t && inL c t) := fun t h0 h1 => by rw [h_ac, combF_in, decide_eq_true ⟨h0, h1⟩]; rfl
        obtain ⟨bc, h_bc⟩ : ∃ bc : List (Int × Int), bc = (combF interK b c) := ⟨_, rfl⟩
        have s_bc : bc.length ≤ 549755813888 := by rw [h_bc]; exact can_short (combF_can _ _ _)
        have m_bc : ∀ t, 0 ≤ t → t < 1099511627776 → inL bc t = (inL b t && inL c t) := fun t h0 h1 => by rw [h_bc, combF_in, decide_eq_true ⟨h0, h1⟩]; rfl
        obtain ⟨uab, h_uab⟩ : ∃ uab : List (Int × Int), uab = (combF ofK ac bc) := ⟨_, rfl⟩
        have s_uab : uab.length ≤ 549755813888 := by rw [h_uab]; exact can_short (combF_can _ _ _)
        have m_uab : ∀ t, 0 ≤ t → t < 1099511627776 → inL uab t = (inL ac t || inL bc t) := fun t h0 h1 => by rw [h_uab, combF_in, decide_eq_true ⟨h0, h1⟩]; rfl
        obtain ⟨uuc, h_uuc⟩ : ∃ uuc : List (Int × Int), uuc = (combF ofK u c) := ⟨_, rfl⟩
        have s_uuc : uuc.length ≤ 549755813888 := by rw [h_uuc]; exact can_short (combF_can _ _ _)
        have m_uuc : ∀ t, 0 ≤ t → t < 1099511627776 → inL uuc t = (inL u t || inL c t) := fun t h0 h1 => by rw [h_uuc, combF_in, decide_eq_true ⟨h0, h1⟩]; rfl
        obtain ⟨ubc, h_ubc⟩ : ∃ ubc : List (Int × Int), ubc = (combF ofK b c) := ⟨_, rfl⟩
        have s_ubc : ubc.length ≤ 549755813888 := by rw [h_ubc]; exact can_short (combF_can _ _ _)
        have m_ubc : ∀ t, 0 ≤ t → t < 1099511627776 → inL ubc t = (inL b t || inL c t) := fun t h0 h1 => by rw [h_ubc, combF_in, decide_eq_true ⟨h0, h1⟩]; rfl
        obtain ⟨aubc, h_aubc⟩ : ∃ aubc : List (Int × Int), aubc = (combF ofK a ubc) := ⟨_, rfl⟩
        have s_aubc : aubc.length ≤ 549755813888 := by rw [h_aubc]; exact can_short (combF_can _ _ _)
        have m_aubc : ∀ t, 0 ≤ t → t < 1099511627776 → inL aubc t = (inL a t || inL ubc t) := fun t h0 h1 => by rw [h_aubc, combF_in, decide_eq_true ⟨h0, h1⟩]; rfl
        have E_u : Hid (u = ub) := Lib.hid (by rw [h_u, h_ub]; exact combF_eq fun t h0 h1 => by simp only [ofK, interK, subK, norK, inL_nil]; cases inL a t <;> cases inL b t <;> cases inL c t <;> rfl)
        have E_i : Hid (i = ib) := Lib.hid (by rw [h_i, h_ib]; exact combF_eq fun t h0 h1 => by simp only [ofK, interK, subK, norK, inL_nil]; cases inL a t <;> cases inL b t <;> cases inL c t <;> rfl)
        have E_cu : Hid (cu = ic2) := Lib.hid (by rw [h_cu, h_ic2]; exact combF_eq fun t h0 h1 => by simp only [m_u t h0 h1, m_ca2 t h0 h1, m_cb2 t h0 h1]; simp only [ofK, interK, subK, norK, inL_nil]; cases inL a t <;> cases inL b t <;> cases inL c t <;> rfl)
        have E_d : Hid (d = id2) := Lib.hid (by rw [h_d, h_id2]; exact combF_eq fun t h0 h1 => by simp only [m_cb2 t h0 h1]; simp only [ofK, interK, subK, norK, inL_nil]; cases inL a t <;> cases inL b t <;> cases inL c t <;> rfl)
        have E_uc : Hid (uc = uab) := Lib.hid (by rw [h_uc, h_uab]; exact combF_eq fun t h0 h1 => by simp only [m_u t h0 h1, m_ac t h0 h1, m_bc t h0 h1]; simp only [ofK, interK, subK, norK, inL_nil]; cases inL a t <;> cases inL b t <;> cases inL c t <;> rfl)
        have E_uuc : Hid (uuc = aubc) := Lib.hid (by rw [h_uuc, h_aubc]; exact combF_eq fun t h0 h1 => by simp only [m_u t h0 h1, m_ubc t h0 h1]; simp only [ofK, interK, subK, norK, inL_nil]; cases inL a t <;> cases inL b t <;> cases inL c t <;> rfl)
        have E_nn : Hid (nn = oa) := Lib.hid (by rw [h_nn, h_oa]; exact combF_eq fun t h0 h1 => by simp only [m_ca2 t h0 h1]; simp only [norK, ofK, inL_nil]; cases inL a t <;> rfl)
        have E_v1 : Hid (coversF a i = true) := Lib.hid (covers_yes fun t h0 h1 h => by rw [m_i t h0 h1] at h; simp at h; exact h.1)
        have E_v2 : Hid (coversF u a = true) := Lib.hid (covers_yes fun t h0 h1 h => by rw [m_u t h0 h1, h]; rfl)
        have G_u := Lib.hid (fun A B c' d' w h1 h2 => sunion_any A B c' d' a b w h1 h2 (by omega) (by omega))
        rw [← h_u] at G_u
        have G_i := Lib.hid (fun A B c' d' w h1 h2 => sintersect_any A B c' d' a b w h1 h2 (by omega) (by omega))
        rw [← h_i] at G_i
        have G_ub := Lib.hid (fun A B c' d' w h1 h2 => sunion_any A B c' d' b a w h1 h2 (by omega) (by omega))
        rw [← h_ub] at G_ub
        have G_ib := Lib.hid (fun A B c' d' w h1 h2 => sintersect_any A B c' d' b a w h1 h2 (by omega) (by omega))
        rw [← h_ib] at G_ib
        have G_cu := Lib.hid (fun A c' w h1 => scomplement_any A c' u w h1 (by omega))
        rw [← h_cu] at G_cu
        have G_ca2 := Lib.hid (fun A c' w h1 => scomplement_any A c' a w h1 (by omega))
        rw [← h_ca2] at G_ca2
        have G_cb2 := Lib.hid (fun A c' w h1 => scomplement_any A c' b w h1 (by omega))
        rw [← h_cb2] at G_cb2
        have G_ic2 := Lib.hid (fun A B c' d' w h1 h2 => sintersect_any A B c' d' ca2 cb2 w h1 h2 (by omega) (by omega))
        rw [← h_ic2] at G_ic2
        have G_d := Lib.hid (fun A B c' d' w h1 h2 => ssubtract_any A B c' d' a b w h1 h2 (by omega) (by omega))
        rw [← h_d] at G_d
        have G_id2 := Lib.hid (fun A B c' d' w h1 h2 => sintersect_any A B c' d' a cb2 w h1 h2 (by omega) (by omega))
        rw [← h_id2] at G_id2
        have G_nn := Lib.hid (fun A c' w h1 => scomplement_any A c' ca2 w h1 (by omega))
        rw [← h_nn] at G_nn
        have G_oa := Lib.hid (fun A c' w h1 => sof_any A c' a w h1 (by omega))
        rw [← h_oa] at G_oa
        have G_uc := Lib.hid (fun A B c' d' w h1 h2 => sintersect_any A B c' d' u c w h1 h2 (by omega) (by omega))
        rw [← h_uc] at G_uc
        have G_ac := Lib.hid (fun A B c' d' w h1 h2 => sintersect_any A B c' d' a c w h1 h2 (by omega) (by omega))
        rw [← h_ac] at G_ac
        have G_bc := Lib.hid (fun A B c' d' w h1 h2 => sintersect_any A B c' d' b c w h1 h2 (by omega) (by omega))
        rw [← h_bc] at G_bc
        have G_uab := Lib.hid (fun A B c' d' w h1 h2 => sunion_any A B c' d' ac bc w h1 h2 (by omega) (by omega))
        rw [← h_uab] at G_uab
        have G_uuc := Lib.hid (fun A B c' d' w h1 h2 => sunion_any A B c' d' u c w h1 h2 (by omega) (by omega))
        rw [← h_uuc] at G_uuc
        have G_ubc := Lib.hid (fun A B c' d' w h1 h2 => sunion_any A B c' d' b c w h1 h2 (by omega) (by omega))
        rw [← h_ubc] at G_ubc
        have G_aubc := Lib.hid (fun A B c' d' w h1 h2 => sunion_any A B c' d' a ubc w h1 h2 (by omega) (by omega))
        rw [← h_aubc] at G_aubc
        have G_v1 := Lib.hid (fun A B c' d' w h1 h2 => scoversL_any A B c' d' a i w h1 h2 (by omega) (by omega))
        rw [E_v1.out] at G_v1
        have G_v2 := Lib.hid (fun A B c' d' w h1 h2 => scoversL_any A B c' d' u a w h1 h2 (by omega) (by omega))
        rw [E_v2.out] at G_v2
        clear h_aubc m_aubc h_ubc m_ubc h_uuc m_uuc h_uab m_uab h_bc m_bc h_ac m_ac h_uc m_uc h_oa m_oa h_nn m_nn h_id2 m_id2 h_d m_d h_ic2 m_ic2 h_cb2 m_cb2 h_ca2 m_ca2 h_cu m_cu h_ib m_ib h_i m_i h_ub m_ub h_u m_u
        go_enter Try.func7, Try.ntmps7
        go_wp2_with fail
        refine Calls.mono (G_u.out _ _ _ _ _ (ha.ext (by repeat (first | exact Ext.refl' _ | assumption | apply Ext.ex' | apply Ext.al | apply Ext.drN | apply Ext.dr))) (hb.ext (by repeat (first | exact Ext.refl' _ | assumption | apply Ext.ex' | apply Ext.al | apply Ext.drN | apply Ext.dr)))) ?_
        rintro e w1 ⟨A1, c1, rfl, hb1, hR1⟩
        obtain ⟨x1, rfl⟩ := hb1.get
        clear hb1
        go_wp2_with fail
        refine Calls.mono (G_i.out _ _ _ _ _ (ha.ext (by repeat (first | exact Ext.refl' _ | assumption | apply Ext.ex' | apply Ext.al | apply Ext.drN | apply Ext.dr))) (hb.ext (by repeat (first | exact Ext.refl' _ | assumption | apply Ext.ex' | apply Ext.al | apply Ext.drN | apply Ext.dr)))) ?_
        rintro e w1 ⟨A2, c2, rfl, hb1, hR2⟩
        obtain ⟨x2, rfl⟩ := hb1.get
        clear hb1
        go_wp2_with fail
        refine Calls.mono (G_ub.out _ _ _ _ _ (hb.ext (by repeat (first | exact Ext.refl' _ | assumption | apply Ext.ex' | apply Ext.al | apply Ext.drN | apply Ext.dr))) (ha.ext (by repeat (first | exact Ext.refl' _ | assumption | apply Ext.ex' | apply Ext.al | apply Ext.drN | apply Ext.dr)))) ?_
        rintro e w1 ⟨A3, c3, rfl, hb1, hR3⟩
        obtain ⟨x3, rfl⟩ := hb1.get
        clear hb1
        go_wp2_with fail
        refine Calls.mono (same_yes _ _ _ _ _ _ u ub E_u.out rfl rfl _ (hR1.ext (by repeat (first | exact Ext.refl' _ | assumption | apply Ext.ex' | apply Ext.al | apply Ext.drN | apply Ext.dr))) (hR3.ext (by repeat (first | exact Ext.refl' _ | assumption | apply Ext.ex' | apply Ext.al | apply Ext.drN | apply Ext.dr))) (by omega)) ?_
        rintro e w1 ⟨rfl, hb1⟩
        obtain ⟨x4, rfl⟩ := hb1.get
        clear hb1
        go_wp2_with fail
        refine Calls.mono (G_ib.out _ _ _ _ _ (hb.ext (by repeat (first | exact Ext.refl' _ | assumption | apply Ext.ex' | apply Ext.al | apply Ext.drN | apply Ext.dr))) (ha.ext (by repeat (first | exact Ext.refl' _ | assumption | apply Ext.ex' | apply Ext.al | apply Ext.drN | apply Ext.dr)))) ?_
        rintro e w1 ⟨A5, c5, rfl, hb1, hR5⟩
        obtain ⟨x5, rfl⟩ := hb1.get
        clear hb1
        go_wp2_with fail
        refine Calls.mono (same_yes _ _ _ _ _ _ i ib E_i.out rfl rfl _ (hR2.ext (by repeat (first | exact Ext.refl' _ | assumption | apply Ext.ex' | apply Ext.al | apply Ext.drN | apply Ext.dr))) (hR5.ext (by repeat (first | exact Ext.refl' _ | assumption | apply Ext.ex' | apply Ext.al | apply Ext.drN | apply Ext.dr))) (by omega)) ?_
        rintro e w1 ⟨rfl, hb1⟩
        obtain ⟨x6, rfl⟩ := hb1.get
        clear hb1
        go_wp2_with fail
        refine Calls.mono (G_cu.out _ _ _ (hR1.ext (by repeat (first | exact Ext.refl' _ | assumption | apply Ext.ex' | apply Ext.al | apply Ext.drN | apply Ext.dr)))) ?_
        rintro e w1 ⟨A7, c7, rfl, hb1, hR7⟩
        obtain ⟨x7, rfl⟩ := hb1.get
        clear hb1
        go_wp2_with fail
        refine Calls.mono (G_ca2.out _ _ _ (ha.ext (by repeat (first | exact Ext.refl' _ | assumption | apply Ext.ex' | apply Ext.al | apply Ext.drN | apply Ext.dr)))) ?_
        rintro e w1 ⟨A8, c8, rfl, hb1, hR8⟩
        obtain ⟨x8, rfl⟩ := hb1.get
        clear hb1
        go_wp2_with fail
        refine Calls.mono (G_cb2.out _ _ _ (hb.ext (by repeat (first | exact Ext.refl' _ | assumption | apply Ext.ex' | apply Ext.al | apply Ext.drN | apply Ext.dr)))) ?_
        rintro e w1 ⟨A9, c9, rfl, hb1, hR9⟩
        obtain ⟨x9, rfl⟩ := hb1.get
        clear hb1
        go_wp2_with fail
        refine Calls.mono (G_ic2.out _ _ _ _ _ (hR8.ext (by repeat (first | exact Ext.refl' _ | assumption | apply Ext.ex' | apply Ext.al | apply Ext.drN | apply Ext.dr))) (hR9.ext (by repeat (first | exact Ext.refl' _ | assumption | apply Ext.ex' | apply Ext.al | apply Ext.drN | apply Ext.dr)))) ?_
        rintro e w1 ⟨A10, c10, rfl, hb1, hR10⟩
        obtain ⟨x10, rfl⟩ := hb1.get
        clear hb1
        go_wp2_with fail
        refine Calls.mono (same_yes _ _ _ _ _ _ cu ic2 E_cu.out rfl rfl _ (hR7.ext (by repeat (first | exact Ext.refl' _ | assumption | apply Ext.ex' | apply Ext.al | apply Ext.drN | apply Ext.dr))) (hR10.ext (by repeat (first | exact Ext.refl' _ | assumption | apply Ext.ex' | apply Ext.al | apply Ext.drN | apply Ext.dr))) (by omega)) ?_
        rintro e w1 ⟨rfl, hb1⟩
        obtain ⟨x11, rfl⟩ := hb1.get
        clear hb1
        go_wp2_with fail
        refine Calls.mono (G_d.out _ _ _ _ _ (ha.ext (by repeat (first | exact Ext.refl' _ | assumption | apply Ext.ex' | apply Ext.al | apply Ext.drN | apply Ext.dr))) (hb.ext (by repeat (first | exact Ext.refl' _ | assumption | apply Ext.ex' | apply Ext.al | apply Ext.drN | apply Ext.dr)))) ?_
        rintro e w1 ⟨A12, c12, rfl, hb1, hR12⟩
        obtain ⟨x12, rfl⟩ := hb1.get
        clear hb1
        go_wp2_with fail
        refine Calls.mono (G_cb2.out _ _ _ (hb.ext (by repeat (first | exact Ext.refl' _ | assumption | apply Ext.ex' | apply Ext.al | apply Ext.drN | apply Ext.dr)))) ?_
        rintro e w1 ⟨A13, c13, rfl, hb1, hR13⟩
        obtain ⟨x13, rfl⟩ := hb1.get
        clear hb1
        go_wp2_with fail
        refine Calls.mono (G_id2.out _ _ _ _ _ (ha.ext (by repeat (first | exact Ext.refl' _ | assumption | apply Ext.ex' | apply Ext.al | apply Ext.drN | apply Ext.dr))) (hR13.ext (by repeat (first | exact Ext.refl' _ | assumption | apply Ext.ex' | apply Ext.al | apply Ext.drN | apply Ext.dr)))) ?_
        rintro e w1 ⟨A14, c14, rfl, hb1, hR14⟩
        obtain ⟨x14, rfl⟩ := hb1.get
        clear hb1
        go_wp2_with fail
        refine Calls.mono (same_yes _ _ _ _ _ _ d id2 E_d.out rfl rfl _ (hR12.ext (by repeat (first | exact Ext.refl' _ | assumption | apply Ext.ex' | apply Ext.al | apply Ext.drN | apply Ext.dr))) (hR14.ext (by repeat (first | exact Ext.refl' _ | assumption | apply Ext.ex' | apply Ext.al | apply Ext.drN | apply Ext.dr))) (by omega)) ?_
        rintro e w1 ⟨rfl, hb1⟩
        obtain ⟨x15, rfl⟩ := hb1.get
        clear hb1
        go_wp2_with fail
        refine Calls.mono (G_ca2.out _ _ _ (ha.ext (by repeat (first | exact Ext.refl' _ | assumption | apply Ext.ex' | apply Ext.al | apply Ext.drN | apply Ext.dr)))) ?_
        rintro e w1 ⟨A16, c16, rfl, hb1, hR16⟩
        obtain ⟨x16, rfl⟩ := hb1.get
        clear hb1
        go_wp2_with fail
        refine Calls.mono (G_nn.out _ _ _ (hR16.ext (by repeat (first | exact Ext.refl' _ | assumption | apply Ext.ex' | apply Ext.al | apply Ext.drN | apply Ext.dr)))) ?_
        rintro e w1 ⟨A17, c17, rfl, hb1, hR17⟩
        obtain ⟨x17, rfl⟩ := hb1.get
        clear hb1
        go_wp2_with fail
        refine Calls.mono (G_oa.out _ _ _ (ha.ext (by repeat (first | exact Ext.refl' _ | assumption | apply Ext.ex' | apply Ext.al | apply Ext.drN | apply Ext.dr)))) ?_
        rintro e w1 ⟨A18, c18, rfl, hb1, hR18⟩
        obtain ⟨x18, rfl⟩ := hb1.get
        clear hb1
        go_wp2_with fail
        refine Calls.mono (same_yes _ _ _ _ _ _ nn oa E_nn.out rfl rfl _ (hR17.ext (by repeat (first | exact Ext.refl' _ | assumption | apply Ext.ex' | apply Ext.al | apply Ext.drN | apply Ext.dr))) (hR18.ext (by repeat (first | exact Ext.refl' _ | assumption | apply Ext.ex' | apply Ext.al | apply Ext.drN | apply Ext.dr))) (by omega)) ?_
        rintro e w1 ⟨rfl, hb1⟩
        obtain ⟨x19, rfl⟩ := hb1.get
        clear hb1
        go_wp2_with fail
        refine Calls.mono (G_uc.out _ _ _ _ _ (hR1.ext (by repeat (first | exact Ext.refl' _ | assumption | apply Ext.ex' | apply Ext.al | apply Ext.drN | apply Ext.dr))) (hc.ext (by repeat (first | exact Ext.refl' _ | assumption | apply Ext.ex' | apply Ext.al | apply Ext.drN | apply Ext.dr)))) ?_
        rintro e w1 ⟨A20, c20, rfl, hb1, hR20⟩
        obtain ⟨x20, rfl⟩ := hb1.get
        clear hb1
        go_wp2_with fail
        refine Calls.mono (G_ac.out _ _ _ _ _ (ha.ext (by repeat (first | exact Ext.refl' _ | assumption | apply Ext.ex' | apply Ext.al | apply Ext.drN | apply Ext.dr))) (hc.ext (by repeat (first | exact Ext.refl' _ | assumption | apply Ext.ex' | apply Ext.al | apply Ext.drN | apply Ext.dr)))) ?_
        rintro e w1 ⟨A21, c21, rfl, hb1, hR21⟩
        obtain ⟨x21, rfl⟩ := hb1.get
        clear hb1
        go_wp2_with fail
        refine Calls.mono (G_bc.out _ _ _ _ _ (hb.ext (by repeat (first | exact Ext.refl' _ | assumption | apply Ext.ex' | apply Ext.al | apply Ext.drN | apply Ext.dr))) (hc.ext (by repeat (first | exact Ext.refl' _ | assumption | apply Ext.ex' | apply Ext.al | apply Ext.drN | apply Ext.dr)))) ?_
        rintro e w1 ⟨A22, c22, rfl, hb1, hR22⟩
        obtain ⟨x22, rfl⟩ := hb1.get
        clear hb1
        go_wp2_with fail
        refine Calls.mono (G_uab.out _ _ _ _ _ (hR21.ext (by repeat (first | exact Ext.refl' _ | assumption | apply Ext.ex' | apply Ext.al | apply Ext.drN | apply Ext.dr))) (hR22.ext (by repeat (first | exact Ext.refl' _ | assumption | apply Ext.ex' | apply Ext.al | apply Ext.drN | apply Ext.dr)))) ?_
        rintro e w1 ⟨A23, c23, rfl, hb1, hR23⟩
        obtain ⟨x23, rfl⟩ := hb1.get
        clear hb1
        go_wp2_with fail
        refine Calls.mono (same_yes _ _ _ _ _ _ uc uab E_uc.out rfl rfl _ (hR20.ext (by repeat (first | exact Ext.refl' _ | assumption | apply Ext.ex' | apply Ext.al | apply Ext.drN | apply Ext.dr))) (hR23.ext (by repeat (first | exact Ext.refl' _ | assumption | apply Ext.ex' | apply Ext.al | apply Ext.drN | apply Ext.dr))) (by omega)) ?_
        rintro e w1 ⟨rfl, hb1⟩
        obtain ⟨x24, rfl⟩ := hb1.get
        clear hb1
        go_wp2_with fail
        refine Calls.mono (G_uuc.out _ _ _ _ _ (hR1.ext (by repeat (first | exact Ext.refl' _ | assumption | apply Ext.ex' | apply Ext.al | apply Ext.drN | apply Ext.dr))) (hc.ext (by repeat (first | exact Ext.refl' _ | assumption | apply Ext.ex' | apply Ext.al | apply Ext.drN | apply Ext.dr)))) ?_
        rintro e w1 ⟨A25, c25, rfl, hb1, hR25⟩
        obtain ⟨x25, rfl⟩ := hb1.get
        clear hb1
        go_wp2_with fail
        refine Calls.mono (G_ubc.out _ _ _ _ _ (hb.ext (by repeat (first | exact Ext.refl' _ | assumption | apply Ext.ex' | apply Ext.al | apply Ext.drN | apply Ext.dr))) (hc.ext (by repeat (first | exact Ext.refl' _ | assumption | apply Ext.ex' | apply Ext.al | apply Ext.drN | apply Ext.dr)))) ?_
        rintro e w1 ⟨A26, c26, rfl, hb1, hR26⟩
        obtain ⟨x26, rfl⟩ := hb1.get
        clear hb1
        go_wp2_with fail
        refine Calls.mono (G_aubc.out _ _ _ _ _ (ha.ext (by repeat (first | exact Ext.refl' _ | assumption | apply Ext.ex' | apply Ext.al | apply Ext.drN | apply Ext.dr))) (hR26.ext (by repeat (first | exact Ext.refl' _ | assumption | apply Ext.ex' | apply Ext.al | apply Ext.drN | apply Ext.dr)))) ?_
        rintro e w1 ⟨A27, c27, rfl, hb1, hR27⟩
        obtain ⟨x27, rfl⟩ := hb1.get
        clear hb1
        go_wp2_with fail
        refine Calls.mono (same_yes _ _ _ _ _ _ uuc aubc E_uuc.out rfl rfl _ (hR25.ext (by repeat (first | exact Ext.refl' _ | assumption | apply Ext.ex' | apply Ext.al | apply Ext.drN | apply Ext.dr))) (hR27.ext (by repeat (first | exact Ext.refl' _ | assumption | apply Ext.ex' | apply Ext.al | apply Ext.drN | apply Ext.dr))) (by omega)) ?_
        rintro e w1 ⟨rfl, hb1⟩
        obtain ⟨x28, rfl⟩ := hb1.get
        clear hb1
        go_wp2_with fail
        refine Calls.mono (G_v1.out _ _ _ _ _ (ha.ext (by repeat (first | exact Ext.refl' _ | assumption | apply Ext.ex' | apply Ext.al | apply Ext.drN | apply Ext.dr))) (hR2.ext (by repeat (first | exact Ext.refl' _ | assumption | apply Ext.ex' | apply Ext.al | apply Ext.drN | apply Ext.dr)))) ?_
        rintro e w1 ⟨rfl, hb1⟩
        obtain ⟨x29, rfl⟩ := hb1.get
        clear hb1
        go_wp2_with fail
        refine Calls.mono (G_v2.out _ _ _ _ _ (hR1.ext (by repeat (first | exact Ext.refl' _ | assumption | apply Ext.ex' | apply Ext.al | apply Ext.drN | apply Ext.dr))) (ha.ext (by repeat (first | exact Ext.refl' _ | assumption | apply Ext.ex' | apply Ext.al | apply Ext.drN | apply Ext.dr)))) ?_
        rintro e w1 ⟨rfl, hb1⟩
        obtain ⟨x30, rfl⟩ := hb1.get
        clear hb1
        go_wp2_with fail
        refine Calls.mono (awake_any _) ?_
        rintro e w1 ⟨rfl, hb1⟩
        obtain ⟨x60, rfl⟩ := hb1.get
        clear hb1
        go_wp2
        go_ret
        exact ⟨rfl, by repeat (first | exact Ext.refl' _ | assumption | apply Ext.ex' | apply Ext.al | apply Ext.drN | apply Ext.dr)⟩

end Go.Proofs.Ytogfageapejmpaa
