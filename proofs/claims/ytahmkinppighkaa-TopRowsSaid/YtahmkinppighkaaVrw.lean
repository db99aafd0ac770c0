/- Rows of values: compared, picked; of the program and of the reference. -/
import Derived.Test.YtahmkinppighkaaVcp
set_option linter.unusedSimpArgs false
set_option linter.unusedVariables false
namespace Go.Proofs.Ytahmkinppighkaa
open Go.RowKit


def vcl (l : List Va) : List Value := l.flatMap vc
theorem fmv_get {α : Type} (g : α → List Value) (sz : Nat) (hg : ∀ a, (g a).length = sz) : ∀ (l : List α) (k : Nat) (hk : k < l.length) (j : Nat), j < sz → (l.flatMap g)[k * sz + j]? = (g l[k])[j]?
  | [], k, hk, _, _ => by simp at hk
  | a :: l, 0, hk, j, hj => by
    simp only [List.flatMap_cons, Nat.zero_mul, Nat.zero_add, List.getElem_cons_zero]
    rw [List.getElem?_append_left (by rw [hg]; exact hj)]
  | a :: l, k + 1, hk, j, hj => by
    simp only [List.flatMap_cons, List.getElem_cons_succ]
    rw [List.getElem?_append_right (by rw [hg, Nat.add_mul]; omega), ← fmv_get g sz hg l k (by simpa using hk) j hj]
    congr 1
    rw [hg, Nat.add_mul]; omega
theorem vcl_length : ∀ (l : List Va), (vcl l).length = l.length * 3
  | [] => rfl
  | a :: l => by have := vcl_length l; simp [vcl, vc, Nat.add_mul] at *; omega
theorem vcl_append (a b : List Va) : vcl (a ++ b) = vcl a ++ vcl b := by simp [vcl]
theorem oneCell_vcl (l : List Va) : ∀ u ∈ vcl l, u.oneCell' = true := by
  intro u hu; obtain ⟨v, _, hv⟩ := List.mem_flatMap.1 hu; simp [vc] at hv; rcases hv with rfl | rfl | rfl <;> rfl
theorem elVal3 : El Try.prog 22 24 (.agg #[.int .i64 0, .int .i64 0, .string ⟨#[]⟩]) 3 32 := ⟨Try.underlying22, info_parts (by kernel_rfl), rfl, by decide⟩
theorem Rd.val {w : World} {A : Option Addr} {l : List Va} (h : Rd w 3 A l.length (vcl l)) {k : Nat} (hk : k < l.length) :
    ∃ b o, A = some ⟨b, o, none⟩ ∧ b < w.heap.size ∧ w.cell? ⟨b, o + k * 3, none⟩ = some (.int .i64 l[k].k) ∧ w.cell? ⟨b, o + k * 3 + 1, none⟩ = some (.int .i64 l[k].i) ∧ w.cell? ⟨b, o + k * 3 + 2, none⟩ = some (.string l[k].t) := by
  obtain ⟨b, o, hA, hb, hc⟩ := h.2 (by omega)
  have f := fun j hj => fmv_get vc 3 (fun _ => rfl) l k hk j hj
  exact ⟨b, o, hA, hb, hc _ _ (f 0 (by omega)), hc _ _ (f 1 (by omega)), hc _ _ (f 2 (by omega))⟩
/-- the first n of a row -/
theorem Rd.takeV {w : World} {A : Option Addr} {l : List Va} (h : Rd w 3 A l.length (vcl l)) {n : Nat} (hn : n ≤ l.length) : Rd w 3 A (l.take n).length (vcl (l.take n)) := by
  refine ⟨vcl_length _, fun h0 => ?_⟩
  have hl : (l.take n).length = n := by simp; omega
  obtain ⟨b, o, hA, hb, hc⟩ := h.2 (by rw [hl] at h0; omega)
  refine ⟨b, o, hA, hb, fun j u hu => hc j u ?_⟩
  rw [← List.take_append_drop n l, vcl_append, List.getElem?_append_left (List.getElem?_eq_some_iff.1 hu).1]
  exact hu

theorem cmpR_nil_nil : cmpR [] [] = 0 := by rw [cmpR]
theorem cmpR_nil (y : Va) (b : List Va) : cmpR [] (y :: b) = -1 := by rw [cmpR]
theorem cmpR_lo (x : Va) (a : List Va) : cmpR (x :: a) [] = 1 := by rw [cmpR]
theorem cmpR_ne {x y : Va} {a b : List Va} (h : cmpV x y ≠ 0) : cmpR (x :: a) (y :: b) = cmpV x y := by rw [cmpR, if_neg h]
theorem cmpR_eq {x y : Va} {a b : List Va} (h : cmpV x y = 0) : cmpR (x :: a) (y :: b) = cmpR a b := by rw [cmpR, if_pos h]
set_option maxHeartbeats 2000000 in
theorem tcmpf_any (A B : Option Addr) (c d : Nat) (a b : List Va) (w : World) (hA : Rd w 3 A a.length (vcl a)) (hB : Rd w 3 B b.length (vcl b)) (na : a.length ≤ 9223372036854775807) (nb : b.length ≤ 9223372036854775807) :
    Calls Try.prog 23 #[.slice A a.length c, .slice B b.length d, .func (.func 24) #[] #[]] w fun e w' => e = .returned (.int .i64 (cmpR a b)) ∧ Ext w w' := by
  have HR : Hid (cmpR a b = cmpR (a.drop 0) (b.drop 0)) := Lib.hid rfl
  generalize cmpR a b = z at HR ⊢
  go_enter Try.func23, Try.ntmps23
  go_wp2
  go_loopw [13] (fun s13 wr => ∃ k : Nat, k ≤ a.length ∧ k ≤ b.length ∧ s13 = .int .i64 k ∧ Hid (z = cmpR (a.drop k) (b.drop k)) ∧ Ext w wr) (fun s13 _ => a.length - (intOf s13).toNat)
  case atStart => exact ⟨0, by omega, by omega, rfl, HR, Ext.refl' _⟩
  case round =>
    obtain ⟨k, hk, hkb, rfl, HC, hex⟩ := hrel
    obtain ⟨x, rfl⟩ := hex.get
    clear hex
    by_cases hlt : k < a.length
    · obtain ⟨ga, oa, rfl, hga, c0, c1, c2⟩ := hA.val hlt
      by_cases hlb : k < b.length
      · obtain ⟨gb, ob, rfl, hgb, d0, d1, d2⟩ := hB.val hlb
        have HD : Hid (z = cmpR (a[k] :: a.drop (k + 1)) (b[k] :: b.drop (k + 1))) := Lib.hid (by rw [HC.out, List.drop_eq_getElem_cons hlt, List.drop_eq_getElem_cons hlb])
        generalize a[k] = va at c0 c1 c2 HD
        generalize b[k] = vb at d0 d1 d2 HD
        clear HC
        have HV := Lib.hid (fun w => vcmp_any va vb w)
        by_cases h0 : cmpV va vb = 0
        · have HE : Hid (z = cmpR (a.drop (k + 1)) (b.drop (k + 1))) := Lib.hid (by rw [HD.out, cmpR_eq h0])
          rw [h0] at HV
          clear HD h0
          go_wp2_with (go_at_call 24; refine (HV.out _).mono ?_; rintro e w1 ⟨rfl, hb1⟩; obtain ⟨x1, rfl⟩ := hb1.get; clear hb1)
          go_roundw
          case rel => exact ⟨k + 1, by omega, by omega, by go_num, HE, by repeat (first | exact Ext.refl' _ | assumption | apply Ext.ex' | apply Ext.al | apply Ext.drN | apply Ext.dr)⟩
          case measure => simp [intOf]; omega
        · have HE : Hid (z = cmpV va vb) := Lib.hid (by rw [HD.out, cmpR_ne h0])
          generalize cmpV va vb = q at HV HE h0
          have hq : (q != 0) = true := by simp [h0]
          clear HD h0
          go_wp2_with (go_at_call 24; refine (HV.out _).mono ?_; rintro e w1 ⟨rfl, hb1⟩; obtain ⟨x1, rfl⟩ := hb1.get; clear hb1)
          go_ret
          exact ⟨by rw [HE.out]; rfl, by repeat (first | exact Ext.refl' _ | assumption | apply Ext.ex' | apply Ext.al | apply Ext.drN | apply Ext.dr)⟩
      · have HE : Hid (z = 1) := Lib.hid (by rw [HC.out, List.drop_eq_getElem_cons hlt, List.drop_eq_nil_of_le (Nat.le_of_not_lt hlb), cmpR_lo])
        clear HC
        go_wp2
        go_ret
        exact ⟨by rw [HE.out]; rfl, by repeat (first | exact Ext.refl' _ | assumption | apply Ext.ex' | apply Ext.al | apply Ext.drN | apply Ext.dr)⟩
    · by_cases hab : a.length < b.length
      · have HE : Hid (z = -1) := Lib.hid (by rw [HC.out, List.drop_eq_nil_of_le (Nat.le_of_not_lt hlt), List.drop_eq_getElem_cons (by omega), cmpR_nil])
        clear HC
        go_wp2
        go_ret
        exact ⟨by rw [HE.out]; rfl, by repeat (first | exact Ext.refl' _ | assumption | apply Ext.ex' | apply Ext.al | apply Ext.drN | apply Ext.dr)⟩
      · have HE : Hid (z = 0) := Lib.hid (by rw [HC.out, List.drop_eq_nil_of_le (Nat.le_of_not_lt hlt), List.drop_eq_nil_of_le (by omega), cmpR_nil_nil])
        clear HC
        go_wp2
        go_ret
        exact ⟨by rw [HE.out]; rfl, by repeat (first | exact Ext.refl' _ | assumption | apply Ext.ex' | apply Ext.al | apply Ext.drN | apply Ext.dr)⟩
theorem tcmp_any (A B : Option Addr) (c d : Nat) (a b : List Va) (w : World) (hA : Rd w 3 A a.length (vcl a)) (hB : Rd w 3 B b.length (vcl b)) (na : a.length ≤ 9223372036854775807) (nb : b.length ≤ 9223372036854775807) :
    Calls Try.prog 5 #[.slice A a.length c, .slice B b.length d] w fun e w' => e = .returned (.int .i64 (cmpR a b)) ∧ Ext w w' := by
  have H := Lib.hid (tcmpf_any A B c d a b w hA hB na nb)
  generalize cmpR a b = z at H ⊢
  go_enter Try.func5, Try.ntmps5
  go_wp2_with fail
  refine Calls.mono H.out ?_
  rintro e w1 ⟨rfl, hb1⟩
  go_wp2
  go_ret
  exact ⟨rfl, hb1⟩
set_option maxHeartbeats 2000000 in
theorem rcmp_any (A B : Option Addr) (c d : Nat) (a b : List Va) (w : World) (hA : Rd w 3 A a.length (vcl a)) (hB : Rd w 3 B b.length (vcl b)) (na : a.length ≤ 9223372036854775807) (nb : b.length ≤ 9223372036854775807) :
    Calls Try.prog 34 #[.slice A a.length c, .slice B b.length d] w fun e w' => e = .returned (.int .i64 (cmpR a b)) ∧ Ext w w' := by
  have HR : Hid (cmpR a b = cmpR (a.drop 0) (b.drop 0)) := Lib.hid rfl
  generalize cmpR a b = z at HR ⊢
  go_enter Try.func34, Try.ntmps34
  go_wp2
  go_loopw [5] (fun s5 wr => ∃ k : Nat, k ≤ a.length ∧ k ≤ b.length ∧ s5 = .int .i64 k ∧ Hid (z = cmpR (a.drop k) (b.drop k)) ∧ Ext w wr) (fun s5 _ => a.length - (intOf s5).toNat)
  case atStart => exact ⟨0, by omega, by omega, rfl, HR, Ext.refl' _⟩
  case round =>
    obtain ⟨k, hk, hkb, rfl, HC, hex⟩ := hrel
    obtain ⟨x, rfl⟩ := hex.get
    clear hex
    by_cases hlt : k < a.length
    · obtain ⟨ga, oa, rfl, hga, c0, c1, c2⟩ := hA.val hlt
      by_cases hlb : k < b.length
      · obtain ⟨gb, ob, rfl, hgb, d0, d1, d2⟩ := hB.val hlb
        have HD : Hid (z = cmpR (a[k] :: a.drop (k + 1)) (b[k] :: b.drop (k + 1))) := Lib.hid (by rw [HC.out, List.drop_eq_getElem_cons hlt, List.drop_eq_getElem_cons hlb])
        generalize a[k] = va at c0 c1 c2 HD
        generalize b[k] = vb at d0 d1 d2 HD
        clear HC
        have HV := Lib.hid (fun w => rvcmp_any va vb w)
        by_cases h0 : cmpV va vb = 0
        · have HE : Hid (z = cmpR (a.drop (k + 1)) (b.drop (k + 1))) := Lib.hid (by rw [HD.out, cmpR_eq h0])
          rw [h0] at HV
          clear HD h0
          go_wp2_with fail
          refine wp_region_ext (by kernel_rfl) (by kernel_rfl) ?_
          repeat (first | go_big_quiet_step ((go_at_call 58; exact Calls.ext_of (HV.out _))) | quiet_step ((go_at_call 58; exact Calls.ext_of (HV.out _))))
          refine wpQuiet_nil ?_
          intro _ hw'
          obtain ⟨xq, hw''⟩ := hw'
          subst hw''
          go_wp2
          go_roundw
          case rel => exact ⟨k + 1, by omega, by omega, by go_num, HE, by repeat (first | exact Ext.refl' _ | assumption | apply Ext.ex' | apply Ext.al | apply Ext.drN | apply Ext.dr)⟩
          case measure => simp [intOf]; omega
        · have HE : Hid (z = cmpV va vb) := Lib.hid (by rw [HD.out, cmpR_ne h0])
          generalize cmpV va vb = q at HV HE h0
          have hq : (q != 0) = true := by simp [h0]
          clear HD h0
          go_wp2_with fail
          refine wp_region_ext (by kernel_rfl) (by kernel_rfl) ?_
          repeat (first | go_big_quiet_step ((go_at_call 58; exact Calls.ext_of (HV.out _))) | quiet_step ((go_at_call 58; exact Calls.ext_of (HV.out _))))
          refine wpQuiet_nil ?_
          intro _ hw'
          obtain ⟨xq, hw''⟩ := hw'
          subst hw''
          go_wp2
          go_ret
          exact ⟨by rw [HE.out]; rfl, by repeat (first | exact Ext.refl' _ | assumption | apply Ext.ex' | apply Ext.al | apply Ext.drN | apply Ext.dr)⟩
      · have HE : Hid (z = 1) := Lib.hid (by rw [HC.out, List.drop_eq_getElem_cons hlt, List.drop_eq_nil_of_le (Nat.le_of_not_lt hlb), cmpR_lo])
        clear HC
        go_wp2
        go_ret
        exact ⟨by rw [HE.out]; rfl, by repeat (first | exact Ext.refl' _ | assumption | apply Ext.ex' | apply Ext.al | apply Ext.drN | apply Ext.dr)⟩
    · by_cases hab : a.length < b.length
      · have HE : Hid (z = -1) := Lib.hid (by rw [HC.out, List.drop_eq_nil_of_le (Nat.le_of_not_lt hlt), List.drop_eq_getElem_cons (by omega), cmpR_nil])
        clear HC
        go_wp2
        go_ret
        exact ⟨by rw [HE.out]; rfl, by repeat (first | exact Ext.refl' _ | assumption | apply Ext.ex' | apply Ext.al | apply Ext.drN | apply Ext.dr)⟩
      · have HE : Hid (z = 0) := Lib.hid (by rw [HC.out, List.drop_eq_nil_of_le (Nat.le_of_not_lt hlt), List.drop_eq_nil_of_le (by omega), cmpR_nil_nil])
        clear HC
        go_wp2
        go_ret
        exact ⟨by rw [HE.out]; rfl, by repeat (first | exact Ext.refl' _ | assumption | apply Ext.ex' | apply Ext.al | apply Ext.drN | apply Ext.dr)⟩
theorem requal_any (A B : Option Addr) (c d : Nat) (a b : List Va) (w : World) (hA : Rd w 3 A a.length (vcl a)) (hB : Rd w 3 B b.length (vcl b)) (na : a.length ≤ 9223372036854775807) (nb : b.length ≤ 9223372036854775807) :
    Calls Try.prog 13 #[.slice A a.length c, .slice B b.length d] w fun e w' => e = .returned (.bool (cmpR a b == 0)) ∧ Ext w w' := by
  have H := Lib.hid (rcmp_any A B c d a b w hA hB na nb)
  generalize cmpR a b = z at H ⊢
  go_enter Try.func13, Try.ntmps13
  go_wp2_with fail
  refine Calls.mono H.out ?_
  rintro e w1 ⟨rfl, hb1⟩
  go_wp2
  go_ret
  exact ⟨rfl, hb1⟩

end Go.Proofs.Ytahmkinppighkaa
