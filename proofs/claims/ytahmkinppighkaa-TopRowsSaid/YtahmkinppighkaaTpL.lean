/- TopRows: keys are ordered as rows, and rows are recovered from frames. -/
import Derived.Test.YtahmkinppighkaaTpI
set_option linter.unusedSimpArgs false
set_option linter.unusedVariables false
namespace Go.Proofs.Ytahmkinppighkaa
open Go.RowKit


def oneV : Va := ⟨1, 1, ⟨#[]⟩⟩
theorem oneV_ok : ∀ v ∈ [oneV], VaOk v := by
  intro v hv
  simp at hv
  subst hv
  exact .inr (.inl ⟨rfl, rfl, by decide, by decide⟩)
theorem one_key : (rkey [oneV]).length = 9 := by simp [rkey, vkey, oneV, be_length]
theorem shB_ok {a : List Va} (h : shB a = true) : a.length ≤ 12 ∧ ∀ v ∈ a, VaOk v := by
  unfold shB at h
  simp only [Bool.and_eq_true, decide_eq_true_eq, List.all_eq_true] at h
  exact ⟨h.1, fun v hv => vvB_ok (h.2 v hv)⟩
theorem cmpV_self (v : Va) : cmpV v v = 0 := by simp [cmpV, orF, tb_cmpI_same, tb_cb_zero.2]
theorem cmpR_self : ∀ a : List Va, cmpR a a = 0
  | [] => by simp [cmpR]
  | v :: a => by rw [cmpR, if_pos (cmpV_self v), cmpR_self a]
theorem rby_len {a : List Va} (hl : a.length ≤ 12) (h : ∀ v ∈ a, VaOk v) : 1 ≤ (rby a).length ∧ (rby a).length ≤ 1048576 := by
  have h1 := encU_len (zig (a.length : Int))
  have h2 := encI_le (n := (a.length : Int)) (by omega) (by omega)
  have h3 : ∀ l : List Va, (∀ v ∈ l, VaOk v) → (l.flatMap vby).length ≤ l.length * 211 := by
    intro l
    induction l with
    | nil => intro _; simp
    | cons v l ih =>
      intro hl
      have := vby_len (hl v (by simp))
      have := ih fun u hu => hl u (by simp [hu])
      simp only [List.flatMap_cons, List.length_append, List.length_cons] at *
      omega
  have h4 := h3 a h
  unfold rby
  unfold encI at *
  rw [List.length_append]
  omega
set_option maxRecDepth 100000 in
set_option maxHeartbeats 8000000 in
theorem topRows_any (A B : Option Addr) (n m c d : Nat) (a b : List Va) (w : World) (hn : a.length = n) (hm : b.length = m) (hA : Rd w 3 A n (vcl a)) (hB : Rd w 3 B m (vcl b)) (za : ∀ v ∈ a, v.t.size ≤ 9223372036854775807) (zb : ∀ v ∈ b, v.t.size ≤ 9223372036854775807) :
    Calls Try.prog 3 #[.slice A n c, .slice B m d] w fun e w' => e = .returned (.bool true) ∧ Ext w w' := by
  have HSA := Lib.hid fun W (e : Ext w W) => short_any A n c a W hn (hA.ext e) za
  have HSB := Lib.hid fun W (e : Ext w W) => short_any B m d b W hm (hB.ext e) zb
  have HN := Lib.hid hn
  have HM := Lib.hid hm
  have HRA := Lib.hid hA
  have HRB := Lib.hid hB
  obtain ⟨sa, hsa⟩ : ∃ s, shB a = s := ⟨_, rfl⟩
  obtain ⟨sb, hsb⟩ : ∃ s, shB b = s := ⟨_, rfl⟩
  have HSS : Hid (shB a = sa ∧ shB b = sb) := Lib.hid ⟨hsa, hsb⟩
  rw [hsa] at HSA
  rw [hsb] at HSB
  have HC1 : Hid (∀ W b0, Rd W 3 (some ⟨b0, 0, none⟩) 1 (vcl [oneV]) → Calls Try.prog 5 #[.slice none 0 0, .slice (some ⟨b0, 0, none⟩) 1 1] W fun e w' => e = .returned (.int .i64 (-1)) ∧ Ext W w') := Lib.hid fun W b0 h => by
    have h2 := tcmp_any none (some ⟨b0, 0, none⟩) 0 1 [] [oneV] W Rd.nil h (by decide) (by decide)
    rw [cmpR_nil] at h2
    exact h2
  have HK1 : Hid (∀ W b0, Rd W 3 (some ⟨b0, 0, none⟩) 1 (vcl [oneV]) → Calls Try.prog 6 #[.slice (some ⟨b0, 0, none⟩) 1 1] W fun e w' => ∃ v', e = .returned v' ∧ Ext W w' ∧ w'.ownsRow W.heap.size 5 1 v' 9 (bcl (rkey [oneV]))) := Lib.hid fun W b0 h => by
    have h2 := key_any (some ⟨b0, 0, none⟩) 1 1 [oneV] W rfl h (by decide) oneV_ok
    rw [one_key] at h2
    exact h2
  clear hn hm hA hB za zb hsa hsb
  go_enter Try.func3, Try.ntmps3
  go_wp2_with fail
  have HR1 := Lib.hid (Rd.lit w #[.int .i64 1, .int .i64 1, .string ⟨#[]⟩] 24 1 3 rfl rfl)
  refine (HC1.out _ _ (HR1.out.ext (by repeat (first | exact Ext.refl' _ | assumption | apply Ext.ex' | apply Ext.al | apply Ext.drN | apply Ext.dr)))).mono ?_
  rintro e w1 ⟨rfl, hb1⟩
  obtain ⟨x1, rfl⟩ := hb1.get
  clear hb1 HC1
  go_wp2_with fail
  refine (HK1.out _ _ (HR1.out.ext (by repeat (first | exact Ext.refl' _ | assumption | apply Ext.ex' | apply Ext.al | apply Ext.drN | apply Ext.dr)))).mono ?_
  rintro e w1 ⟨v1, rfl, hb1, ho1⟩
  obtain ⟨x2, rfl⟩ := hb1.get
  obtain ⟨K1, kc1, rfl, _, _⟩ := row_formT ho1
  have HK1 := Lib.hid (Rd.of_own ho1)
  clear hb1 ho1
  clear HK1 HR1
  go_wp2_with fail
  refine (HSA.out _ (by repeat (first | exact Ext.refl' _ | assumption | apply Ext.ex' | apply Ext.al | apply Ext.drN | apply Ext.dr))).mono ?_
  rintro e w1 ⟨rfl, hb1⟩
  obtain ⟨x3, rfl⟩ := hb1.get
  clear hb1
  clear HSA
  cases sa
  · go_wp2
    go_ret
    exact ⟨rfl, by repeat (first | exact Ext.refl' _ | assumption | apply Ext.ex' | apply Ext.al | apply Ext.drN | apply Ext.dr)⟩
  go_wp2_with fail
  refine (HSB.out _ (by repeat (first | exact Ext.refl' _ | assumption | apply Ext.ex' | apply Ext.al | apply Ext.drN | apply Ext.dr))).mono ?_
  rintro e w1 ⟨rfl, hb1⟩
  obtain ⟨x4, rfl⟩ := hb1.get
  clear hb1
  clear HSB
  cases sb
  · go_wp2
    go_ret
    exact ⟨rfl, by repeat (first | exact Ext.refl' _ | assumption | apply Ext.ex' | apply Ext.al | apply Ext.drN | apply Ext.dr)⟩
  obtain ⟨hla, hoa⟩ := shB_ok HSS.out.1
  obtain ⟨hlb, hob⟩ := shB_ok HSS.out.2
  have hna : n ≤ 12 := by have := HN.out; omega
  have hmb : m ≤ 12 := by have := HM.out; omega
  have HKA := Lib.hid fun W (e : Ext w W) => key_any A n c a W HN.out (HRA.out.ext e) hna hoa
  have HKB := Lib.hid fun W (e : Ext w W) => key_any B m d b W HM.out (HRB.out.ext e) hmb hob
  have HOR := Lib.hid fun P Q cp cq W h1 h2 => order_any P Q (rkey a).length (rkey b).length cp cq (rkey a) (rkey b) W rfl rfl h1 h2 (by have := rkey_len hoa; omega) (by have := rkey_len hob; omega)
  have HCM : Hid (∀ W, Ext w W → Calls Try.prog 5 #[.slice A n c, .slice B m d] W fun e w' => e = .returned (.int .i64 (cmpR a b)) ∧ Ext W w') := Lib.hid fun W e => by
    have h1 := HRA.out.ext e
    have h2 := HRB.out.ext e
    rw [← HN.out] at h1 ⊢
    rw [← HM.out] at h2 ⊢
    exact tcmp_any A B c d a b W h1 h2 (by omega) (by omega)
  rw [rkey_cmp a b hoa hob] at HOR
  obtain ⟨hy1, hy2⟩ := rby_len hla hoa
  have HPR := Lib.hid fun W (e : Ext w W) => putrow_any A n c a W HN.out (HRA.out.ext e) hna hoa
  have HEQ : Hid (∀ W (C : Option Addr) (cc : Nat), Ext w W → Rd W 3 C n (vcl a) → Calls Try.prog 13 #[.slice C n cc, .slice A n c] W fun e w' => e = .returned (.bool true) ∧ Ext W w') := Lib.hid fun W C cc e h => by
    have h1 := HRA.out.ext e
    rw [← HN.out] at h h1 ⊢
    have h2 := requal_any C A cc c a a W h h1 (by omega) (by omega)
    rw [cmpR_self] at h2
    exact h2
  have HRW : Hid (∀ W (g N : Nat), N = (rby a).length → Blk W g (rby a) → Calls Try.prog 12 #[.slice (some ⟨g, 0, none⟩) N N, .int .i64 0] W fun e w' => RowP n N a W e w') := Lib.hid fun W g N hN hB => by
    have h1 := hB.rd (o := 0) (n := (rby a).length) (by omega)
    rw [List.drop_zero, List.take_length] at h1
    have h := row_any (some ⟨g, 0, none⟩) N N (rby a) a W hN.symm (Nat.le_refl _) (by unfold maxLen; omega) (by omega) (by rw [hN]; exact h1) rfl hla hoa
    rw [HN.out] at h
    exact h
  have HAP := Lib.hid fun P cp W h => fappend_any P (rby a).length cp (rby a) W rfl hy1 hy2 h
  have HNX := Lib.hid fun g W h => fnext_any g (rby a).length (rby a) W rfl hy1 hy2 h
  clear hla hlb hoa hob HSS
  generalize cmpR a b = z at HOR HCM
  go_wp2_with fail
  refine (HKA.out _ (by repeat (first | exact Ext.refl' _ | assumption | apply Ext.ex' | apply Ext.al | apply Ext.drN | apply Ext.dr))).mono ?_
  rintro e w1 ⟨v2, rfl, hb1, ho2⟩
  obtain ⟨x5, rfl⟩ := hb1.get
  obtain ⟨K2, kc2, rfl, _, _⟩ := row_formT ho2
  have HK2 := Lib.hid (Rd.of_own ho2)
  clear hb1 ho2
  go_wp2_with fail
  refine (HKB.out _ (by repeat (first | exact Ext.refl' _ | assumption | apply Ext.ex' | apply Ext.al | apply Ext.drN | apply Ext.dr))).mono ?_
  rintro e w1 ⟨v3, rfl, hb1, ho3⟩
  obtain ⟨x6, rfl⟩ := hb1.get
  obtain ⟨K3, kc3, rfl, _, _⟩ := row_formT ho3
  have HK3 := Lib.hid (Rd.of_own ho3)
  clear hb1 ho3
  clear HKA HKB
  go_wp2_with fail
  refine (HOR.out _ _ _ _ _ (HK2.out.ext (by repeat (first | exact Ext.refl' _ | assumption | apply Ext.ex' | apply Ext.al | apply Ext.drN | apply Ext.dr))) HK3.out).mono ?_
  rintro e w1 ⟨rfl, hb1⟩
  obtain ⟨x7, rfl⟩ := hb1.get
  clear hb1
  clear HOR HK2 HK3
  go_wp2_with fail
  refine (HCM.out _ (by repeat (first | exact Ext.refl' _ | assumption | apply Ext.ex' | apply Ext.al | apply Ext.drN | apply Ext.dr))).mono ?_
  rintro e w1 ⟨rfl, hb1⟩
  obtain ⟨x8, rfl⟩ := hb1.get
  clear hb1
  clear HCM
  go_wp2_with fail
  refine (HPR.out _ (by repeat (first | exact Ext.refl' _ | assumption | apply Ext.ex' | apply Ext.al | apply Ext.drN | apply Ext.dr))).mono ?_
  rintro e w1 ⟨v4, rfl, hb1, ho4⟩
  obtain ⟨x9, rfl⟩ := hb1.get
  rw [Nat.zero_add, List.nil_append] at ho4
  obtain ⟨K4, kc4, rfl, _, _⟩ := row_formT ho4
  have HK4 := Lib.hid (Rd.of_own ho4)
  clear hb1 ho4 HPR
  obtain ⟨N, hN⟩ : ∃ N, (rby a).length = N := ⟨_, rfl⟩
  have HNN := Lib.hid hN.symm
  rw [hN] at HAP HNX HK4 hy1 hy2 ⊢
  clear hN
  go_wp2_with fail
  refine (HAP.out _ _ _ HK4.out).mono ?_
  rintro e w1 ⟨g, rfl, hBg, hb1⟩
  obtain ⟨x10, rfl⟩ := hb1.get
  have HBG := Lib.hid hBg
  clear hb1 hBg HAP HK4
  go_wp2_with fail
  refine (HNX.out _ _ HBG.out).mono ?_
  rintro e w1 ⟨g2, rfl, hBg, hb1⟩
  obtain ⟨x11, rfl⟩ := hb1.get
  have HB2 := Lib.hid hBg
  clear hb1 hBg HNX HBG
  go_wp2_with fail
  refine (HRW.out _ _ N HNN.out HB2.out).mono ?_
  rintro e w1 ⟨C, rfl, hRC, hb1⟩
  obtain ⟨x12, rfl⟩ := hb1.get
  have HRC := Lib.hid hRC
  clear hb1 hRC HRW HB2
  go_wp2_with fail
  refine (HEQ.out _ C n (by repeat (first | exact Ext.refl' _ | assumption | apply Ext.ex' | apply Ext.al | apply Ext.drN | apply Ext.dr)) HRC.out).mono ?_
  rintro e w1 ⟨rfl, hb1⟩
  obtain ⟨x13, rfl⟩ := hb1.get
  clear hb1
  go_wp2
  go_ret
  exact ⟨rfl, by repeat (first | exact Ext.refl' _ | assumption | apply Ext.ex' | apply Ext.al | apply Ext.drN | apply Ext.dr)⟩

end Go.Proofs.Ytahmkinppighkaa
