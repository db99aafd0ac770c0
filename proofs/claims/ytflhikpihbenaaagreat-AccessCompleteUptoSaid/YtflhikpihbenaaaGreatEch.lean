/- The contract of predicate.each with the closure of Conditions, and of Conditions. -/
import Derived.Test.YtflhikpihbenaaaGreatCds
set_option linter.unusedSimpArgs false
set_option linter.unusedVariables false
namespace Go.Proofs.YtflhikpihbenaaaGreat
open Go.RowKit

theorem Ex.eta (e : Ex) : Ex.mk e.op e.i e.v e.nm e.args = e := by cases e; rfl
theorem szs_len : ∀ es : List Ex, es.length ≤ szs es
  | [] => by simp [szs]
  | .mk _ _ _ _ ar :: es => by have := szs_len es; simp [szs, szE]; omega
theorem condss_drop (args : List Ex) (k : Nat) (h : k < args.length) : condss (args.drop k) = conds args[k] ++ condss (args.drop (k + 1)) := by
  rw [List.drop_eq_getElem_cons h, condss]
theorem own_at {W W' : World} {x : Add} {e size n : Nat} {v : Value} {xs : List Value} {o : Obj} (h : Own W x e size v n xs) : ∃ x2, (ext W x).alloc o = ext W x2 ∧ Own W x2 e size v n xs := by
  obtain ⟨x2, hx2⟩ := (show Ext W ((ext W x).alloc o) from (Ext.ex W x).al o).get
  exact ⟨x2, hx2, Own.of_eq (World.ownsRow.alloc h o) hx2⟩

def EB (o i : Int) (v : Va) (nm : ByteArray) (A : Option Addr) (n c : Nat) : Obj := .cells #[.int .i64 o, .int .i64 i, .int .i64 v.k, .int .i64 v.i, .string v.t, .string nm, .slice A n c] 31

set_option maxHeartbeats 4000000 in
theorem each_no (B : Nat) (w0 : World) (hB : w0.heap.size = B) (o i : Int) (v : Va) (nm : ByteArray) (A : Option Addr) (args : List Ex) (c : Nat) (css : List (List Value)) (x : Add) (u : Value) (acc : List Cd) (hR : Rd w0 7 A args.length css.flatten) (hs : REs w0 args css) (hl : args.length ≤ 9223372036854775807)
    (hown : Own (w0.alloc (.cells #[u] 92)) x 96 5 u acc.length (cdc acc)) (hb : acc.length + (conds (.mk o i v nm args)).length ≤ 1048576) (han : isAnd o i v nm args.length = false) :
    Calls Tryz.prog 68 #[exag o i v nm A args.length c, .func (.func 69) #[] #[.pointer (some ⟨B, 0, none⟩)]] (ext (w0.alloc (.cells #[u] 92)) x) (CdPost w0 (acc ++ conds (.mk o i v nm args))) := by
  have hcd : conds (.mk o i v nm args) = (condF (.mk o i v nm args)).toList := by rw [conds, han]; rfl
  rw [hcd] at hb ⊢
  obtain ⟨x2, hx2, ho2⟩ := own_at (W' := w0) (o := EB o i v nm A args.length c) hown
  have HCL := Lib.hid (clos_any B w0 hB x2 u acc o i v nm A args c css hR hs hl ho2 (by omega))
  have HX2 : Hid ((ext (w0.alloc (.cells #[u] 92)) x).alloc (.cells #[.int .i64 o, .int .i64 i, .int .i64 v.k, .int .i64 v.i, .string v.t, .string nm, .slice A args.length c] 31) = ext (w0.alloc (.cells #[u] 92)) x2) := Lib.hid hx2
  have hcs : (¬ o = 5) ∨ (o = 5 ∧ ¬ 2 ≤ args.length) ∨ (o = 5 ∧ 2 ≤ args.length ∧ ¬ i = 0) ∨ (o = 5 ∧ 2 ≤ args.length ∧ i = 0 ∧ emB nm = false) ∨ (o = 5 ∧ 2 ≤ args.length ∧ i = 0 ∧ emB nm = true ∧ (v.k == 0 && v.i == 0 && emB v.t) = false) := by
    revert han
    unfold isAnd
    generalize emB nm = p
    generalize (v.k == 0 && v.i == 0 && emB v.t) = q
    by_cases h1 : o = 5 <;> by_cases h2 : 2 ≤ args.length <;> by_cases h3 : i = 0 <;> cases p <;> cases q <;> simp [h1, h2, h3]
  clear hcd hb hx2 ho2 han hown hR hs
  generalize (condF (.mk o i v nm args)).toList = rs at HCL ⊢
  rcases hcs with h1 | ⟨h1, h2⟩ | ⟨h1, h2, h3⟩ | ⟨h1, h2, h3, h4⟩ | ⟨h1, h2, h3, h4, h5⟩
  · have f1 : (o != 5) = true := by simp [h1]
    clear h1
    go_enter Tryz.func68, Tryz.ntmps68
    go_wp2_with (go_at_call 69; (rw [HX2.out]; refine HCL.out.mono ?_; rintro e w1 ⟨rfl, v', x', rfl, hown'⟩))
    refine bodyPost_ret (results_none rfl _ _ _) rfl ⟨rfl, v', x', rfl, hown'⟩
  · have f1 : (o != 5) = false := by simp [h1]
    have f2 : decide ((args.length : Int) < 2) = true := by simp; omega
    clear h1 h2
    go_enter Tryz.func68, Tryz.ntmps68
    go_wp2_with (go_at_call 69; (rw [HX2.out]; refine HCL.out.mono ?_; rintro e w1 ⟨rfl, v', x', rfl, hown'⟩))
    refine bodyPost_ret (results_none rfl _ _ _) rfl ⟨rfl, v', x', rfl, hown'⟩
  · have f1 : (o != 5) = false := by simp [h1]
    have f2 : decide ((args.length : Int) < 2) = false := by simp; omega
    have f3 : (i != 0) = true := by simp [h3]
    clear h1 h3
    go_enter Tryz.func68, Tryz.ntmps68
    go_wp2_with (go_at_call 69; (rw [HX2.out]; refine HCL.out.mono ?_; rintro e w1 ⟨rfl, v', x', rfl, hown'⟩))
    refine bodyPost_ret (results_none rfl _ _ _) rfl ⟨rfl, v', x', rfl, hown'⟩
  · have f1 : (o != 5) = false := by simp [h1]
    have f2 : decide ((args.length : Int) < 2) = false := by simp; omega
    have f3 : (i != 0) = false := by simp [h3]
    have f4 : ¬ nm.toList = [] := by simpa [emB] using h4
    have f5 : nm.toList.isEmpty = false := h4
    clear h1 h3 h4
    go_enter Tryz.func68, Tryz.ntmps68
    go_wp2_with (go_at_call 69; (rw [HX2.out]; refine HCL.out.mono ?_; rintro e w1 ⟨rfl, v', x', rfl, hown'⟩))
    refine bodyPost_ret (results_none rfl _ _ _) rfl ⟨rfl, v', x', rfl, hown'⟩
  · have f1 : (o != 5) = false := by simp [h1]
    have f2 : decide ((args.length : Int) < 2) = false := by simp; omega
    have f3 : (i != 0) = false := by simp [h3]
    have f4 : nm.toList = [] := by simpa [emB] using h4
    have f5 : (!v.k == 0 || !v.i == 0 || !v.t.toList.isEmpty) = true := by
      have e : emB v.t = v.t.toList.isEmpty := rfl
      rw [e] at h5
      revert h5
      cases v.k == 0 <;> cases v.i == 0 <;> cases v.t.toList.isEmpty <;> simp
    clear h1 h3 h4 h5
    go_enter Tryz.func68, Tryz.ntmps68
    go_wp2_with (go_at_call 69; (rw [HX2.out]; refine HCL.out.mono ?_; rintro e w1 ⟨rfl, v', x', rfl, hown'⟩))
    refine bodyPost_ret (results_none rfl _ _ _) rfl ⟨rfl, v', x', rfl, hown'⟩

set_option maxHeartbeats 4000000 in
theorem each_any (B : Nat) (w0 : World) (hB : w0.heap.size = B) (N : Nat) : ∀ (m : Nat) (o i : Int) (v : Va) (nm : ByteArray) (A : Option Addr) (args : List Ex) (c : Nat) (css : List (List Value)) (x : Add) (u : Value) (acc : List Cd), szs args ≤ m → Rd w0 7 A args.length css.flatten → REs w0 args css → args.length ≤ 9223372036854775807 →
    Own (w0.alloc (.cells #[u] 92)) x 96 5 u acc.length (cdc acc) → acc.length + (conds (.mk o i v nm args)).length ≤ 1048576 →
    Calls Tryz.prog 68 #[exag o i v nm A args.length c, .func (.func 69) #[] #[.pointer (some ⟨B, 0, none⟩)]] (ext (w0.alloc (.cells #[u] 92)) x) (CdPost w0 (acc ++ conds (.mk o i v nm args))) := by
  intro m
  induction m with
  | zero =>
    intro o i v nm A args c css x u acc hm hR hs hl hown hb
    rcases han : isAnd o i v nm args.length with _ | _
    · exact each_no B w0 hB o i v nm A args c css x u acc hR hs hl hown hb han
    · exfalso
      simp [isAnd] at han
      have := szs_len args
      omega
  | succ m ih =>
    intro o i v nm A args c css x u acc hm hR hs hl hown hb
    rcases han : isAnd o i v nm args.length with _ | _
    · exact each_no B w0 hB o i v nm A args c css x u acc hR hs hl hown hb han
    · have hcd : conds (.mk o i v nm args) = condss args := by rw [conds, han]; rfl
      rw [hcd] at hb ⊢
      simp only [isAnd, Bool.and_eq_true, beq_iff_eq, decide_eq_true_eq] at han
      obtain ⟨⟨⟨⟨h1, h2⟩, h3⟩, h4⟩, ⟨h5, h6⟩, h7⟩ := han
      have f1 : (o != 5) = false := by simp [h1]
      have f2 : decide ((args.length : Int) < 2) = false := by simp; omega
      have f3 : (i != 0) = false := by simp [h3]
      have f4 : nm.toList = [] := by simpa [emB] using h4
      have f5 : (v.k == 0) = true := by simp [h5]
      have f6 : (v.i == 0) = true := by simp [h6]
      have f7 : v.t.toList = [] := by simpa [emB] using h7
      clear h1 h3 h4 h5 h6 h7 hcd
      have IH := Lib.hid ih
      have HM := Lib.hid hm
      have HB := Lib.hid hb
      clear ih hm hb
      go_enter Tryz.func68, Tryz.ntmps68
      go_wp2_with fail
      go_loopw [37] (fun ix wr => ∃ (k : Nat) (v' : Value) (x' : Add) (ac : List Cd), k ≤ args.length ∧ ix = .int .i64 k ∧ Hid (acc ++ condss args = ac ++ condss (args.drop k)) ∧ wr = ext (w0.alloc (.cells #[v'] 92)) x' ∧ Own (w0.alloc (.cells #[v'] 92)) x' 96 5 v' ac.length (cdc ac)) (fun ix _ => args.length - (intOf ix).toNat)
      case atStart =>
        obtain ⟨x2, hx2, ho2⟩ := own_at (W' := w0) (o := EB o i v nm A args.length c) hown
        exact ⟨0, u, x2, acc, Nat.zero_le _, rfl, Lib.hid rfl, hx2, ho2⟩
      case round =>
        obtain ⟨k, v', x', ac, hk, rfl, HC, rfl, hown'⟩ := hrel
        by_cases hlt : k < args.length
        · obtain ⟨b0, o0, rfl, hb0, A1, c1, css1, p0, p1, p2, p3, p4, p5, p6, p7, p8, p9, p10, p11, p12⟩ := RE.arg hR hs hlt
          obtain ⟨x2, hx2, ho2⟩ := own_at (W' := w0) (o := EB args[k].op args[k].i args[k].v args[k].nm A1 args[k].args.length c1) hown'
          have hct : condss (args.drop k) = conds args[k] ++ condss (args.drop (k + 1)) := condss_drop args k hlt
          have HE := HC.out
          rw [hct, ← List.append_assoc] at HE
          have hle : ac.length + (conds args[k]).length ≤ 1048576 := by
            have h8 := congrArg List.length HE
            have h9 := HB.out
            simp only [List.length_append] at h8
            omega
          have hsz := szs_get args k hlt
          have HR := IH.out args[k].op args[k].i args[k].v args[k].nm A1 args[k].args c1 css1 x2 v' ac (by have := HM.out; omega) p11 p12 p9 ho2 (by rw [Ex.eta]; exact hle)
          rw [Ex.eta] at HR
          have HR2 := Lib.hid HR
          have HX2 : Hid ((ext (w0.alloc (.cells #[v'] 92)) x').alloc (.cells #[.int .i64 args[k].op, .int .i64 args[k].i, .int .i64 args[k].v.k, .int .i64 args[k].v.i, .string args[k].v.t, .string args[k].nm, .slice A1 args[k].args.length c1] 31) = ext (w0.alloc (.cells #[v'] 92)) x2) := Lib.hid hx2
          have HE2 := Lib.hid HE
          clear HC HE HR hx2 ho2 hct hle hsz p7 p8 p9 p10 p11 p12 hown'
          generalize args[k] = ek at p0 p1 p2 p3 p4 p5 p6 HR2 HX2 HE2
          go_wp2_with (go_at_call 68; (rw [HX2.out]; refine HR2.out.mono ?_; rintro e w1 ⟨rfl, v3, x3, rfl, hown3⟩))
          go_roundw
          case rel =>
            go_light
            exact ⟨k + 1, v3, x3, _, by omega, by go_num, HE2, rfl, hown3⟩
          case measure => go_light; simp [intOf]; omega
        · have H0 : Hid (acc ++ condss args = ac) := Lib.hid (by rw [HC.out, List.drop_eq_nil_of_le (Nat.le_of_not_lt hlt), condss, List.append_nil])
          clear HC
          go_wp2_with fail
          go_end0
          rw [H0.out]
          exact ⟨rfl, v', x', rfl, hown'⟩
end Go.Proofs.YtflhikpihbenaaaGreat
