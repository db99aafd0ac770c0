/- The reference of predicates: condition, Conjuncts, Conditions. -/
import Derived.Test.YtgacmpoonmioeaaChs
import Derived.Test.YtgacmpoonmioeaaOw2
set_option linter.unusedSimpArgs false
set_option linter.unusedVariables false
namespace Go.Proofs.Ytgacmpoonmioeaa
open Go.RowKit


theorem condF_len2 {o i : Int} {v : Va} {nm : ByteArray} {args : List Ex} (h : args.length ≠ 2) : condF (.mk o i v nm args) = none := by
  unfold condF
  split
  · rfl
  · split
    · rename_i a b he
      simp [Ex.args] at he
      subst he
      simp at h
    · rfl
theorem condF_op {o i : Int} {v : Va} {nm : ByteArray} {args : List Ex} (h : isCmp o = false) : condF (.mk o i v nm args) = none := by
  have e : condF (.mk o i v nm args) = if isCmp o = false then none else (match args with | [a, b] => if a.op = 1 then condG b a (mirF o) else condG a b o | _ => none) := rfl
  rw [e, if_pos h]
set_option maxRecDepth 100000 in
set_option maxHeartbeats 8000000 in
theorem rcondition_any (o i : Int) (v : Va) (nm : ByteArray) (A : Option Addr) (args : List Ex) (c : Nat) (css : List (List Value)) (w : World) (hl : args.length ≤ 1048576) (hR : Rd w 7 A args.length css.flatten) (hs : REs w args css) :
    Calls Try.prog 41 #[exag o i v nm A args.length c] w (CPost w (condF (.mk o i v nm args))) := by
  rcases hcmp : isCmp o with _ | _
  · have hsw : (o == 7) = false ∧ (o == 9) = false ∧ (o == 10) = false ∧ (o == 11) = false ∧ (o == 12) = false := by
      have h := hcmp
      unfold isCmp at h
      revert h
      cases o == 7 <;> cases o == 9 <;> cases o == 10 <;> cases o == 11 <;> cases o == 12 <;> simp
    obtain ⟨h7, h9, h10, h11, h12⟩ := hsw
    have HR : Hid (condF (.mk o i v nm args) = none) := Lib.hid (condF_op hcmp)
    clear hcmp hR hs
    generalize condF (.mk o i v nm args) = r at HR ⊢
    go_enter Try.func41, Try.ntmps41
    go_wp2
    refine bodyPost_ret (v := .tuple #[cdag (cdz), .bool false]) ?_ rfl (CPost.mk HR.out (by repeat (first | exact Ext.refl' _ | assumption | apply Ext.ex' | apply Ext.al | apply Ext.drN | apply Ext.dr)))
    simp [results, Try.results41, go_sem, ↓IntWalk.iteOmega, cdz]
  · by_cases h2 : args.length = 2
    · match args, h2 with
      | [a, b], _ => exact rcondition_two o i v nm A a b c css w hR hs hcmp
    · have HR : Hid (condF (.mk o i v nm args) = none) := Lib.hid (condF_len2 h2)
      have h2z : ((args.length : Int) != 2) = true := by
        rw [bne_iff_ne]
        omega
      obtain ⟨n, hn⟩ : ∃ n, args.length = n := ⟨_, rfl⟩
      rw [hn] at h2z hl ⊢
      have hsw : (o == 7) = true ∨ ((o == 7) = false ∧ (o == 9) = true) ∨ ((o == 7) = false ∧ (o == 9) = false ∧ (o == 10) = true) ∨ ((o == 7) = false ∧ (o == 9) = false ∧ (o == 10) = false ∧ (o == 11) = true) ∨ ((o == 7) = false ∧ (o == 9) = false ∧ (o == 10) = false ∧ (o == 11) = false ∧ (o == 12) = true) := by
        have h := hcmp
        simp only [isCmp, Bool.or_eq_true] at h; revert h
        cases o == 7 <;> cases o == 9 <;> cases o == 10 <;> cases o == 11 <;> cases o == 12 <;> simp
      clear hcmp hR hs h2
      generalize condF (.mk o i v nm args) = r at HR ⊢
      clear hn
      rcases hsw with h7 | ⟨h7, h9⟩ | ⟨h7, h9, h10⟩ | ⟨h7, h9, h10, h11⟩ | ⟨h7, h9, h10, h11, h12⟩
      all_goals (
        go_enter Try.func41, Try.ntmps41
        go_wp2
        refine bodyPost_ret (v := .tuple #[cdag (cdz), .bool false]) ?_ rfl (CPost.mk HR.out (by repeat (first | exact Ext.refl' _ | assumption | apply Ext.ex' | apply Ext.al | apply Ext.drN | apply Ext.dr)))
        simp [results, Try.results41, go_sem, ↓IntWalk.iteOmega, cdz])
mutual
/-- the conjuncts of an expression -/
def cjs : Ex → List Ex
  | .mk o i v nm args => if isAnd o i v nm args.length then cjss args else [.mk o i v nm args]
def cjss : List Ex → List Ex
  | [] => []
  | e :: es => cjs e ++ cjss es
end
mutual
theorem conds_cjs : ∀ e : Ex, conds e = (cjs e).filterMap condF
  | .mk o i v nm args => by
    rw [conds, cjs]
    split
    · exact condss_cjss args
    · cases h : condF (.mk o i v nm args) <;> simp [h]
theorem condss_cjss : ∀ es : List Ex, condss es = (cjss es).filterMap condF
  | [] => by rw [condss, cjss]; rfl
  | e :: es => by rw [condss, cjss, List.filterMap_append, conds_cjs e, condss_cjss es]
end
mutual
theorem cjs_len : ∀ e : Ex, (cjs e).length ≤ szE e
  | .mk o i v nm args => by
    rw [cjs, szE]
    split
    · exact Nat.le_succ_of_le (cjss_len args)
    · simp
theorem cjss_len : ∀ es : List Ex, (cjss es).length ≤ szs es
  | [] => by rw [cjss]; exact Nat.zero_le _
  | e :: es => by
    rw [cjss, szs, List.length_append]
    have := cjs_len e
    have := cjss_len es
    omega
end
theorem cjss_drop (args : List Ex) (k : Nat) (h : k < args.length) : cjss (args.drop k) = cjs args[k] ++ cjss (args.drop (k + 1)) := by
  rw [List.drop_eq_getElem_cons h, cjss]
theorem isAnd_fr {i : Int} {v : Va} {nm : ByteArray} {n : Nat} (hn : n ≤ 1048576) : frB 5 i v nm n = isAnd 5 i v nm n := by
  have e1 : arLo 5 = 2 := by decide
  have e2 : arHi 5 = 1099511627776 := by decide
  unfold frB isAnd nulB nulC emB
  rw [e1, e2]
  have q1 : decide ((2 : Int) < 0) = false := by decide
  have q2 : decide ((1099511627776 : Int) < (n : Int)) = false := decide_eq_false (by omega)
  have q3 : decide ((n : Int) < 2) = !decide (2 ≤ n) := by
    by_cases h : 2 ≤ n
    · rw [decide_eq_false (by omega), decide_eq_true h]; rfl
    · rw [decide_eq_true (by omega), decide_eq_false h]; rfl
  have hl : ∀ l : List UInt8, (l == []) = l.isEmpty := fun l => by cases l <;> rfl
  rw [q1, q2, q3, hl, hl, if_neg (by decide), if_neg (by decide), if_neg (by decide)]
  simp only [Bool.not_not, Bool.not_false, Bool.true_and, Bool.and_true, beq_self_eq_true]
  cases decide (2 ≤ n) <;> cases nm.toList.isEmpty <;> cases (i == 0) <;> simp
theorem REs.append {w : World} : ∀ {a b : List Ex} {ca cb : List (List Value)}, REs w a ca → REs w b cb → REs w (a ++ b) (ca ++ cb)
  | [], b, ca, cb, ha, hb => by rw [REs] at ha; subst ha; exact hb
  | e :: es, b, ca, cb, ha, hb => by
    rw [REs] at ha
    obtain ⟨cs, css', rfl, h1, h2⟩ := ha
    rw [List.cons_append, List.cons_append, REs]
    exact ⟨cs, css' ++ cb, rfl, h1, REs.append h2 hb⟩
theorem RE.one {w : World} {e : Ex} {cs : List Value} (h : RE w e cs) : ∀ u ∈ cs, u.oneCell' = true := by
  cases e
  rw [RE] at h
  obtain ⟨A, c, css, rfl, _⟩ := h
  intro u hu
  simp [exc] at hu
  rcases hu with rfl | rfl | rfl | rfl | rfl | rfl | rfl <;> rfl
theorem REs.one {w : World} : ∀ {es : List Ex} {css : List (List Value)}, REs w es css → ∀ u ∈ css.flatten, u.oneCell' = true
  | [], css, h => by rw [REs] at h; subst h; intro u hu; simp at hu
  | e :: es, css, h => by
    rw [REs] at h
    obtain ⟨cs, css', rfl, h1, h2⟩ := h
    intro u hu
    rw [List.flatten_cons, List.mem_append] at hu
    rcases hu with hu | hu
    · exact h1.one u hu
    · exact REs.one h2 u hu
theorem elEx : El Try.prog 25 31 (.agg #[.int .i64 0, .int .i64 0, .int .i64 0, .int .i64 0, .string ⟨#[]⟩, .string ⟨#[]⟩, .slice none 0 0]) 7 88 := ⟨Try.underlying25, info_parts (by kernel_rfl), rfl, by decide⟩
/-- a list of expressions is returned, in blocks that the call made -/
def CJP (w0 : World) (es : List Ex) (w : World) (e : Ending) (w' : World) : Prop := ∃ (A' : Option Addr) (n' c' : Nat) (css' : List (List Value)), e = .returned (.slice A' n' c') ∧ Hid (es.length = n') ∧ Hid (Rd w' 7 A' n' css'.flatten) ∧ Hid (REs w0 es css') ∧ Hid (∀ b o, A' = some ⟨b, o, none⟩ → w.heap.size ≤ b ∧ b < w'.heap.size) ∧ Ext w w'
set_option maxRecDepth 100000 in
set_option maxHeartbeats 8000000 in
theorem conjuncts_any (w0 : World) (m : Nat) : ∀ (o i : Int) (v : Va) (nm : ByteArray) (A : Option Addr) (args : List Ex) (c : Nat) (css : List (List Value)) (w : World), szs args = m → szs args ≤ 1048576 → v.t.size ≤ 9223372036854775807 → nm.size ≤ 9223372036854775807 → args.length ≤ c → Rd w0 7 A args.length css.flatten → REs w0 args css → Ext w0 w →
    Calls Try.prog 40 #[exag o i v nm A args.length c] w (CJP w0 (cjs (.mk o i v nm args)) w) := by
  induction m using Nat.strongRecOn with
  | _ m ih =>
    intro o i v nm A args c css w hm hsz hvt hnm hlc hR hs hE0
    have IH := Lib.hid ih
    have HM := Lib.hid hm
    have HSZ := Lib.hid hsz
    have hl : args.length ≤ 1048576 := Nat.le_trans (szs_len args) hsz
    have HF := Lib.hid (fun w => formed_any o i v nm A args.length c w hvt (by omega))
    have hone : Hid (RE w0 (.mk o i v nm args) (exc o i v nm A args.length c)) := Lib.hid (by
      rw [RE]
      exact ⟨A, c, css, rfl, hvt, hnm, by omega, hlc, hR, hs⟩)
    have HCJ : Hid (cjs (.mk o i v nm args) = if isAnd o i v nm args.length then cjss args else [.mk o i v nm args]) := Lib.hid (by rw [cjs])
    generalize cjs (.mk o i v nm args) = res at HCJ ⊢
    have HONE : Hid (isAnd o i v nm args.length = false → ∀ (W : World) (b : Nat), b = W.heap.size → Ext w W → CJP w0 res w (.returned (.slice (some ⟨b, 0, none⟩) 1 1)) (W.alloc (.cells #[.int .i64 o, .int .i64 i, .int .i64 v.k, .int .i64 v.i, .string v.t, .string nm, .slice A args.length c] 31))) := Lib.hid fun h W b hb e => by
      rw [HCJ.out, if_neg (by simp [h])]
      refine ⟨_, 1, 1, [exc o i v nm A args.length c], rfl, Lib.hid rfl, Lib.hid (Rd.lit _ #[.int .i64 o, .int .i64 i, .int .i64 v.k, .int .i64 v.i, .string v.t, .string nm, .slice A args.length c] _ 1 7 rfl hb), Lib.hid (by rw [REs]; exact ⟨_, [], rfl, hone.out, by rw [REs]⟩), Lib.hid (fun b' o' h' => ?_), e.al _⟩
      simp only [Option.some.injEq, Addr.mk.injEq, and_true] at h'
      obtain ⟨rfl, _⟩ := h'
      subst hb
      exact ⟨e.size, by simp⟩
    clear ih hm hsz hone
    rcases ho5 : (o == 5) with _ | _
    · have ho5n : (o != 5) = true := by simpa using ho5
      have han : isAnd o i v nm args.length = false := by unfold isAnd; rw [ho5]; rfl
      have HON := Lib.hid (HONE.out han)
      clear HF han HCJ HONE ho5
      go_enter Try.func40, Try.ntmps40
      go_wp2
      go_ret
      exact HON.out _ _ (by simp [size_ext]) (by repeat (first | exact Ext.refl' _ | assumption | apply Ext.ex' | apply Ext.al | apply Ext.drN | apply Ext.dr))
    have ho5n : (o != 5) = false := by simpa using ho5
    have ho5e : o = 5 := by simpa using ho5
    obtain ⟨fb, hfb⟩ : ∃ b, isAnd o i v nm args.length = b := ⟨_, rfl⟩
    have HFB : Hid (frB o i v nm args.length = fb) := Lib.hid (by rw [ho5e, isAnd_fr hl, ← ho5e]; exact hfb)
    rw [HFB.out] at HF
    have HIA := Lib.hid hfb
    clear hfb ho5e HFB ho5
    cases fb
    · have HON := Lib.hid (HONE.out HIA.out)
      clear HIA HCJ HONE
      go_enter Try.func40, Try.ntmps40
      go_wp2_with fail
      refine (HF.out _).mono ?_
      rintro e w1 ⟨rfl, hb1⟩
      obtain ⟨x1, rfl⟩ := hb1.get
      clear hb1
      go_wp2
      go_ret
      exact HON.out _ _ (by simp [size_ext]) (by repeat (first | exact Ext.refl' _ | assumption | apply Ext.ex' | apply Ext.al | apply Ext.drN | apply Ext.dr))
    have HRES : Hid (res = cjss args) := Lib.hid (by rw [HCJ.out, if_pos HIA.out])
    clear HIA HCJ HONE
    go_enter Try.func40, Try.ntmps40
    go_wp2_with fail
    refine (HF.out _).mono ?_
    rintro e w1 ⟨rfl, hb1⟩
    obtain ⟨x1, rfl⟩ := hb1.get
    clear hb1 HF
    go_wp2
    have hE00 : Ext (w.alloc (.cells #[.int .i64 o, .int .i64 i, .int .i64 v.k, .int .i64 v.i, .string v.t, .string nm, .slice A args.length c] 31)) (ext (w.alloc (.cells #[.int .i64 o, .int .i64 i, .int .i64 v.k, .int .i64 v.i, .string v.t, .string nm, .slice A args.length c] 31)) x1) := by repeat (first | exact Ext.refl' _ | assumption | apply Ext.ex' | apply Ext.al | apply Ext.drN | apply Ext.dr)
    have hE01 : Ext (w.alloc (.cells #[.int .i64 o, .int .i64 i, .int .i64 v.k, .int .i64 v.i, .string v.t, .string nm, .slice A args.length c] 31)) ((ext (w.alloc (.cells #[.int .i64 o, .int .i64 i, .int .i64 v.k, .int .i64 v.i, .string v.t, .string nm, .slice A args.length c] 31)) x1).alloc (.cells #[] 31)) := by repeat (first | exact Ext.refl' _ | assumption | apply Ext.ex' | apply Ext.al | apply Ext.drN | apply Ext.dr)
    go_loopg [3, 4] args.length (fun g q ix wr => ∃ (k nq lc : Nat) (lA : Option Addr) (lk : List Ex) (cq : List (List Value)), q = .slice lA nq lc ∧ ix = .int .i64 k ∧ k ≤ args.length ∧ args.length - k ≤ g ∧ Hid (lk.length = nq) ∧ Hid (cjss args = lk ++ cjss (args.drop k)) ∧ Hid (REs w0 lk cq) ∧ Hid (wr.ownsRow ((w.alloc (.cells #[.int .i64 o, .int .i64 i, .int .i64 v.k, .int .i64 v.i, .string v.t, .string nm, .slice A args.length c] 31))).heap.size 31 7 (.slice lA nq lc) nq cq.flatten) ∧ Ext (w.alloc (.cells #[.int .i64 o, .int .i64 i, .int .i64 v.k, .int .i64 v.i, .string v.t, .string nm, .slice A args.length c] 31)) wr)
    case atStart => refine ⟨0, 0, 0, _, [], [], rfl, rfl, by omega, by omega, Lib.hid rfl, Lib.hid rfl, Lib.hid (by rw [REs]), Lib.hid (own_lit0d _ _ _ (Ext.size' hE00) _ _ (by simp [size_ext])), hE01⟩
    case round =>
      obtain ⟨k, nq, lc, lA, lk, cq, rfl, rfl, hk, hg, HLK, HCJ, HRQ, HO, hE⟩ := hrel
      obtain ⟨x, rfl⟩ := hE.get
      have HG := Lib.hid hg
      clear hg
      by_cases hlt : k < args.length
      · have hkz : (k : Int) < (args.length : Int) := by omega
        have hE1 : Ext w0 (ext (w.alloc (.cells #[.int .i64 o, .int .i64 i, .int .i64 v.k, .int .i64 v.i, .string v.t, .string nm, .slice A args.length c] 31)) x) := hE0.tr (by repeat (first | exact Ext.refl' _ | assumption | apply Ext.ex' | apply Ext.al | apply Ext.drN | apply Ext.dr))
        obtain ⟨b0, o0, hAe, hb0, A1, c1, css1, p0, p1, p2, p3, p4, p5, p6, p7, p8, p9, p10, p11, p12⟩ := RE.arg (hR.ext hE0) (REs.ext hE0 hs) hlt
        obtain ⟨b0', o0', hAe', hb0', A1', c1', css1', r0, r1, r2, r3, r4, r5, r6, r7, r8, r9, r10, r11, r12⟩ := RE.arg hR hs hlt
        have hAA : A1' = A1 ∧ c1' = c1 := by
          have h := hAe.symm.trans hAe'
          simp only [Option.some.injEq, Addr.mk.injEq, and_true] at h
          obtain ⟨rfl, rfl⟩ := h
          have h2 := (hE0.cell' r6).symm.trans p6
          simp only [Option.some.injEq, Value.slice.injEq] at h2
          exact ⟨h2.1, h2.2.2⟩
        obtain ⟨rfl, rfl⟩ := hAA
        have hsz := szs_get args k hlt
        have hsz2 : szs args[k].args ≤ 1048576 := by have := HSZ.out; omega
        have HR2 : Hid (∀ W, Ext (ext (w.alloc (.cells #[.int .i64 o, .int .i64 i, .int .i64 v.k, .int .i64 v.i, .string v.t, .string nm, .slice A args.length c] 31)) x) W → Calls Try.prog 40 #[exag args[k].op args[k].i args[k].v args[k].nm A1' args[k].args.length c1'] W (CJP w0 (cjs args[k]) W)) := Lib.hid fun W e => by
          have h := IH.out _ (by have := HM.out; omega) args[k].op args[k].i args[k].v args[k].nm A1' args[k].args c1' css1' W rfl hsz2 p7 p8 p10 r11 r12 (hE1.tr e)
          rw [Ex.eta] at h
          exact h
        have HNX : Hid (cjss args = lk ++ cjs args[k] ++ cjss (args.drop (k + 1))) := Lib.hid (by rw [HCJ.out, cjss_drop args k hlt, List.append_assoc])
        have HBD : Hid ((lk ++ cjs args[k]).length ≤ 1048576) := Lib.hid (by
          have h := congrArg List.length HNX.out
          have h2 := cjss_len args
          have h3 := HSZ.out
          rw [List.length_append] at h
          omega)
        subst hAe
        clear hsz hsz2 p7 p8 p9 p10 p11 p12 r0 r1 r2 r3 r4 r5 r6 r7 r8 r9 r10 r11 r12 hAe' hb0' HCJ
        generalize args[k] = ek at p0 p1 p2 p3 p4 p5 p6 HR2 HNX HBD
        go_wp2_with fail
        refine (HR2.out _ (by repeat (first | exact Ext.refl' _ | assumption | apply Ext.ex' | apply Ext.al | apply Ext.drN | apply Ext.dr))).mono ?_
        rintro e w2 ⟨A2, n2, c2, css2, rfl, HL2, HRd2, HRE2, _, hb1⟩
        obtain ⟨x3, rfl⟩ := hb1.get
        clear hb1 HR2
        have hbd : nq + n2 ≤ 1048576 := by have := HBD.out; rw [List.length_append, HLK.out, HL2.out] at this; exact this
        go_wp2_with (at_builtin; (refine wpList_app _ rfl (.tmp 23) (.tmp 29) rfl elEx (w.alloc (.cells #[.int .i64 o, .int .i64 i, .int .i64 v.k, .int .i64 v.i, .string v.t, .string nm, .slice (some ⟨b0, o0, none⟩) args.length c] 31)) (by repeat (first | exact Ext.refl' _ | assumption | apply Ext.ex' | apply Ext.al | apply Ext.drN | apply Ext.dr)) _ nq _ rfl (ownsRow_ext11 HO.out (by repeat (first | exact Ext.refl' _ | assumption | apply Ext.ex' | apply Ext.al | apply Ext.drN | apply Ext.dr))) A2 n2 c2 _ rfl HRd2.out (REs.one HRE2.out) (by unfold maxLen; omega) (by omega) ?_; intro v1 x4 ho1 _))
        obtain ⟨A4, c4, rfl, hd1, hd2⟩ := Own.form ho1
        have HO4 := Lib.hid ho1
        clear ho1
        go_wp2
        go_roundg (gk - 1)
        case rel => exact ⟨k + 1, nq + n2, c4, A4, lk ++ cjs ek, cq ++ css2, rfl, by go_num, by omega, by have := HG.out; omega, Lib.hid (by rw [List.length_append, HLK.out, HL2.out]), HNX, Lib.hid (REs.append HRQ.out HRE2.out), Lib.hid (by rw [List.flatten_append]; exact HO4.out), by repeat (first | exact Ext.refl' _ | assumption | apply Ext.ex' | apply Ext.al | apply Ext.drN | apply Ext.dr)⟩
        case measure => have := HG.out; omega
      · have hkz : ¬ ((k : Int) < (args.length : Int)) := by omega
        have hres : res = lk := by
          have h := HCJ.out
          rw [List.drop_eq_nil_of_le (by omega), cjss, List.append_nil] at h
          exact HRES.out.trans h
        have HFIN : Hid (CJP w0 res w (.returned (.slice lA nq lc)) (ext (w.alloc (.cells #[.int .i64 o, .int .i64 i, .int .i64 v.k, .int .i64 v.i, .string v.t, .string nm, .slice A args.length c] 31)) x)) := Lib.hid (by
          rw [hres]
          refine ⟨lA, nq, lc, cq, rfl, HLK, Lib.hid (Rd.of_own HO.out), HRQ, Lib.hid (fun b o h => ?_), by repeat (first | exact Ext.refl' _ | assumption | apply Ext.ex' | apply Ext.al | apply Ext.drN | apply Ext.dr)⟩
          subst h
          have h5 := HO.out.lt b rfl
          exact ⟨Nat.le_trans (by simp) h5.1, h5.2⟩)
        clear HRES hres
        go_wp2
        go_ret
        exact HFIN.out

end Go.Proofs.Ytgacmpoonmioeaa
