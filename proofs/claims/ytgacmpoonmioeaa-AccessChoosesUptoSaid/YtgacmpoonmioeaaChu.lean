/- The reference of predicates: Conditions. -/
import Derived.Test.YtgacmpoonmioeaaCht
set_option linter.unusedSimpArgs false
set_option linter.unusedVariables false
namespace Go.Proofs.Ytgacmpoonmioeaa
open Go.RowKit


theorem RE.argn {w : World} {A : Option Addr} {args : List Ex} {n : Nat} {css : List (List Value)} (hn : args.length = n) (hR : Rd w 7 A n css.flatten) (hs : REs w args css) {k : Nat} (hk : k < n) :
    ∃ b o, A = some ⟨b, o, none⟩ ∧ b < w.heap.size ∧ ∃ A' c' css', w.cell? ⟨b, o + k * 7, none⟩ = some (.int .i64 (args[k]'(by omega)).op) ∧ w.cell? ⟨b, o + k * 7 + 1, none⟩ = some (.int .i64 (args[k]'(by omega)).i) ∧ w.cell? ⟨b, o + k * 7 + 2, none⟩ = some (.int .i64 (args[k]'(by omega)).v.k) ∧
      w.cell? ⟨b, o + k * 7 + 3, none⟩ = some (.int .i64 (args[k]'(by omega)).v.i) ∧ w.cell? ⟨b, o + k * 7 + 4, none⟩ = some (.string (args[k]'(by omega)).v.t) ∧ w.cell? ⟨b, o + k * 7 + 5, none⟩ = some (.string (args[k]'(by omega)).nm) ∧ w.cell? ⟨b, o + k * 7 + 6, none⟩ = some (.slice A' (args[k]'(by omega)).args.length c') ∧
      (args[k]'(by omega)).v.t.size ≤ 9223372036854775807 ∧ (args[k]'(by omega)).nm.size ≤ 9223372036854775807 ∧ (args[k]'(by omega)).args.length ≤ 9223372036854775807 ∧ (args[k]'(by omega)).args.length ≤ c' ∧ Rd w 7 A' (args[k]'(by omega)).args.length (List.flatten css') ∧ REs w (args[k]'(by omega)).args css' := by
  subst hn
  exact RE.arg hR hs hk
theorem Rd.grown {w w' : World} {sz n : Nat} {A : Option Addr} {xs : List Value} {row : Option Nat} (h : Rd w sz A n xs) (hg : w.grownBy w' row) (hne : ∀ b o, A = some ⟨b, o, none⟩ → row ≠ some b) : Rd w' sz A n xs := by
  refine ⟨h.1, fun hp => ?_⟩
  obtain ⟨b, o, hA, hb, hc⟩ := h.2 hp
  exact ⟨b, o, hA, Nat.lt_of_lt_of_le hb hg.size, fun j u hu => hg.cell (hc j u hu) (fun e => hne b o hA e.symm)⟩
mutual
theorem cjs_sz : ∀ e : Ex, ∀ x ∈ cjs e, szE x ≤ szE e
  | .mk o i v nm args, x, hx => by
    rw [cjs] at hx
    split at hx
    · have := cjss_sz args x hx
      rw [szE]
      omega
    · simp at hx
      rw [hx]
      exact Nat.le_refl _
theorem cjss_sz : ∀ es : List Ex, ∀ x ∈ cjss es, szE x ≤ szs es
  | [], x, hx => by rw [cjss] at hx; simp at hx
  | e :: es, x, hx => by
    rw [cjss, List.mem_append] at hx
    rw [szs]
    rcases hx with hx | hx
    · have := cjs_sz e x hx; omega
    · have := cjss_sz es x hx; omega
end
theorem szE_args (x : Ex) : x.args.length + 1 ≤ szE x := by
  cases x
  rw [szE]
  have := szs_len (by assumption : List Ex)
  simp only [Ex.args]
  omega
/-- a list of conditions is returned, in blocks that the call made -/
def CDP (w : World) (res : List Cd) (e : Ending) (w' : World) : Prop := ∃ (A : Option Addr) (n c : Nat), e = .returned (.slice A n c) ∧ Hid (res.length = n) ∧ Hid (Rd w' 5 A n (cdc res)) ∧ Hid (∀ b o, A = some ⟨b, o, none⟩ → w.heap.size ≤ b ∧ b < w'.heap.size) ∧ Ext w w'
theorem fm_none {L : List Ex} {k : Nat} (hk : k < L.length) (h : condF L[k] = none) : (L.drop k).filterMap condF = (L.drop (k + 1)).filterMap condF := by
  rw [List.drop_eq_getElem_cons hk, List.filterMap_cons, h]
theorem fm_some {L : List Ex} {k : Nat} {c : Cd} (hk : k < L.length) (h : condF L[k] = some c) : (L.drop k).filterMap condF = c :: (L.drop (k + 1)).filterMap condF := by
  rw [List.drop_eq_getElem_cons hk, List.filterMap_cons, h]
set_option maxRecDepth 100000 in
set_option maxHeartbeats 8000000 in
theorem rconditions_any (o i : Int) (v : Va) (nm : ByteArray) (A : Option Addr) (args : List Ex) (c : Nat) (css : List (List Value)) (w : World) (hsz : szs args ≤ 1048576) (hvt : v.t.size ≤ 9223372036854775807) (hnm : nm.size ≤ 9223372036854775807) (hlc : args.length ≤ c) (hR : Rd w 7 A args.length css.flatten) (hs : REs w args css) :
    Calls Try.prog 22 #[exag o i v nm A args.length c] w (CDP w (conds (.mk o i v nm args))) := by
  have HCJ : Hid (∀ W, Ext w W → Calls Try.prog 40 #[exag o i v nm A args.length c] W (CJP w (cjs (.mk o i v nm args)) W)) := Lib.hid fun W e => conjuncts_any w _ o i v nm A args c css W rfl hsz hvt hnm hlc hR hs e
  have HCS : Hid (conds (.mk o i v nm args) = (cjs (.mk o i v nm args)).filterMap condF) := Lib.hid (conds_cjs _)
  have HSX : Hid (∀ x ∈ cjs (.mk o i v nm args), x.args.length ≤ 1048576) := Lib.hid fun x hx => by
    have h1 := cjs_sz _ x hx
    have h2 := szE_args x
    rw [szE] at h1
    omega
  have HLB : Hid ((cjs (.mk o i v nm args)).length ≤ 1048577) := Lib.hid (by
    have h := cjs_len (.mk o i v nm args)
    rw [szE] at h
    omega)
  generalize cjs (.mk o i v nm args) = L at HCJ HCS HSX HLB
  generalize conds (.mk o i v nm args) = res at HCS ⊢
  clear hsz hvt hnm hlc hR hs
  go_enter Try.func22, Try.ntmps22
  go_wp2_with fail
  refine (HCJ.out _ (by repeat (first | exact Ext.refl' _ | assumption | apply Ext.ex' | apply Ext.al | apply Ext.drN | apply Ext.dr))).mono ?_
  rintro e w2 ⟨lA, nl, lc, cs2, rfl, HL, HRl, HRE, HBl, hb1⟩
  have hE2 : Ext (w.alloc (.cells #[.int .i64 o, .int .i64 i, .int .i64 v.k, .int .i64 v.i, .string v.t, .string nm, .slice A args.length c] 31)) w2 := Ext.tr (by repeat (first | exact Ext.refl' _ | assumption | apply Ext.ex' | apply Ext.al | apply Ext.drN | apply Ext.dr)) hb1
  have hEw : Ext w (w.alloc (.cells #[.int .i64 o, .int .i64 i, .int .i64 v.k, .int .i64 v.i, .string v.t, .string nm, .slice A args.length c] 31)) := Ext.al1 _ _
  have HO0 : Hid (w2.ownsRow ((w.alloc (.cells #[.int .i64 o, .int .i64 i, .int .i64 v.k, .int .i64 v.i, .string v.t, .string nm, .slice A args.length c] 31))).heap.size 84 5 (.slice (some ⟨w.heap.size + 1, 0, none⟩) 0 0) 0 (cdc [])) := Lib.hid (ownsRow_ext11 (own_lit0d (w.alloc (.cells #[.int .i64 o, .int .i64 i, .int .i64 v.k, .int .i64 v.i, .string v.t, .string nm, .slice A args.length c] 31)) _ (w.heap.size + 1) (Nat.le_refl _) _ _ (by simp)) hb1)
  have HSP0 : Hid (∀ b o, lA = some ⟨b, o, none⟩ → (Value.slice (some ⟨w.heap.size + 1, 0, none⟩) 0 0).ownBlock ≠ some b ∧ b < w2.heap.size) := Lib.hid fun b o h => by
    obtain ⟨h1, h2⟩ := HBl.out b o h
    refine ⟨fun e => ?_, h2⟩
    simp only [Value.ownBlock, Option.some.injEq] at e
    simp at h1
    omega
  clear hb1 HCJ HBl
  go_wp2
  go_loopg [3, 5, 6, 7] nl (fun g q ix v6 v7 wr => ∃ (k n3 c3 : Nat) (A3 : Option Addr) (lk : List Cd), q = .slice A3 n3 c3 ∧ ix = .int .i64 k ∧ k ≤ nl ∧ nl - k ≤ g ∧ n3 ≤ k ∧ Hid (lk.length = n3) ∧ Hid (res = lk ++ (L.drop k).filterMap condF) ∧ Hid (wr.ownsRow ((w.alloc (.cells #[.int .i64 o, .int .i64 i, .int .i64 v.k, .int .i64 v.i, .string v.t, .string nm, .slice A args.length c] 31))).heap.size 84 5 (.slice A3 n3 c3) n3 (cdc lk)) ∧ Hid (Rd wr 7 lA nl cs2.flatten) ∧ Hid (∀ b o, lA = some ⟨b, o, none⟩ → (Value.slice A3 n3 c3).ownBlock ≠ some b ∧ b < wr.heap.size) ∧ Ext (w.alloc (.cells #[.int .i64 o, .int .i64 i, .int .i64 v.k, .int .i64 v.i, .string v.t, .string nm, .slice A args.length c] 31)) wr)
  case atStart => exact ⟨0, 0, 0, _, [], rfl, rfl, by omega, by omega, by omega, Lib.hid rfl, HCS, HO0, HRl, HSP0, hE2⟩
  case round =>
    clear HRl HO0 HSP0 hE2
    obtain ⟨k, n3, c3, A3, lk, rfl, rfl, hk, hg, hn3, HLK, HRS, HO, HRl, HSP, hE⟩ := hrel
    have HG := Lib.hid hg
    clear hg
    have hnlb : nl ≤ 1048577 := by have := HLB.out; have := HL.out; omega
    have HLB2 : Hid (nl ≤ 1048577) := Lib.hid hnlb
    by_cases hlt : k < nl
    · have hkz : (k : Int) < (nl : Int) := by omega
      obtain ⟨b0, o0, hAe, hb0, Ae, ce, cse, p0, p1, p2, p3, p4, p5, p6, p7, p8, p9, p10, p11, p12⟩ := RE.argn HL.out HRl.out (REs.ext (hEw.tr hE) HRE.out) hlt
      have hkL : k < L.length := by have := HL.out; omega
      have HC : Hid (∀ W, Ext wr W → Calls Try.prog 41 #[exag L[k].op L[k].i L[k].v L[k].nm Ae L[k].args.length ce] W (CPost W (condF L[k]))) := Lib.hid fun W e => by
        have h := rcondition_any L[k].op L[k].i L[k].v L[k].nm Ae L[k].args ce cse W (HSX.out _ (List.getElem_mem hkL)) (p11.ext e) (REs.ext e p12)
        rw [Ex.eta] at h
        exact h
      have HFN : Hid (condF L[k] = none → res = lk ++ (L.drop (k + 1)).filterMap condF) := Lib.hid fun h => by rw [HRS.out, fm_none hkL h]
      have HFS : Hid (∀ cd, condF L[k] = some cd → res = (lk ++ [cd]) ++ (L.drop (k + 1)).filterMap condF) := Lib.hid fun cd h => by rw [HRS.out, fm_some hkL h, List.append_assoc]; rfl
      clear p7 p8 p9 p10 p11 p12
      generalize L[k] = ek at p0 p1 p2 p3 p4 p5 p6 HC HFN HFS
      have HSPo := HSP
      subst hAe
      go_wp2_with fail
      refine (HC.out _ (by repeat (first | exact Ext.refl' _ | assumption | apply Ext.ex' | apply Ext.al | apply Ext.drN | apply Ext.dr))).mono ?_
      rintro e w3 ⟨rfl, hb1⟩
      obtain ⟨x1, rfl⟩ := hb1.get
      clear hb1 HC
      rcases hcd : condF ek with _ | cd
      · have HRS2 := Lib.hid (HFN.out hcd)
        clear hcd
        simp only [Option.getD_none, Option.isSome_none, cdz]
        go_wp2
        go_roundg (gk - 1)
        case rel => exact ⟨k + 1, n3, c3, A3, lk, rfl, by go_num, by omega, by have := HG.out; omega, by omega, HLK, HRS2, Lib.hid (ownsRow_ext11 HO.out (by repeat (first | exact Ext.refl' _ | assumption | apply Ext.ex' | apply Ext.al | apply Ext.drN | apply Ext.dr))), Lib.hid (HRl.out.ext (by repeat (first | exact Ext.refl' _ | assumption | apply Ext.ex' | apply Ext.al | apply Ext.drN | apply Ext.dr))), Lib.hid (fun b o h => ⟨(HSP.out b o h).1, Nat.lt_of_lt_of_le (HSP.out b o h).2 (Ext.size' (by repeat (first | exact Ext.refl' _ | assumption | apply Ext.ex' | apply Ext.al | apply Ext.drN | apply Ext.dr)))⟩), by repeat (first | exact Ext.refl' _ | assumption | apply Ext.ex' | apply Ext.al | apply Ext.drN | apply Ext.dr)⟩
        case measure => have := HG.out; omega
      · have HRS2 := Lib.hid (HFS.out cd hcd)
        clear hcd
        simp only [Option.getD_some, Option.isSome_some]
        go_wp2_with (at_builtin; (refine wpList_app2 _ rfl (.tmp 26) (.tmp 28) rfl elCond (w.alloc (.cells #[.int .i64 o, .int .i64 i, .int .i64 v.k, .int .i64 v.i, .string v.t, .string nm, .slice A args.length c] 31)) (by repeat (first | exact Ext.refl' _ | assumption | apply Ext.ex' | apply Ext.al | apply Ext.drN | apply Ext.dr)) _ n3 _ rfl (ownsRow_ext11 HO.out (by repeat (first | exact Ext.refl' _ | assumption | apply Ext.ex' | apply Ext.al | apply Ext.drN | apply Ext.dr))) _ 1 1 (cdc [cd]) rfl (Rd.lit _ #[.int .i64 cd.op, .int .i64 cd.col, .int .i64 cd.v.k, .int .i64 cd.v.i, .string cd.v.t] _ 1 5 rfl (by simp [size_ext])) (oneCell_cdc [cd]) (by have := HLB2.out; unfold maxLen; omega) (by have := HLB2.out; omega) ?_; intro v1 x4 ho1 hg1 hbk1; have HRl2 := Lib.hid (Rd.grown (HRl.out.ext (by repeat (first | exact Ext.refl' _ | assumption | apply Ext.ex' | apply Ext.al | apply Ext.drN | apply Ext.dr))) hg1 (fun b o h => (HSP.out b o h).1)); have HSZ2 := Lib.hid hg1.size; have HBK := Lib.hid hbk1; clear hg1 hbk1))
        obtain ⟨A4, c4, rfl, hd1, hd2⟩ := Own.form ho1
        have HO4 := Lib.hid ho1
        clear ho1
        have HSP2 : Hid (∀ b q, some (⟨b0, o0, none⟩ : Addr) = some ⟨b, q, none⟩ → (Value.slice A4 (n3 + 1) c4).ownBlock ≠ some b ∧ b < (ext (w.alloc (.cells #[.int .i64 o, .int .i64 i, .int .i64 v.k, .int .i64 v.i, .string v.t, .string nm, .slice A args.length c] 31)) x4).heap.size) := Lib.hid fun b o h => by
          obtain ⟨h1, h2⟩ := HSP.out b o h
          have h3 := HSZ2.out
          simp only [size_ext, World.size_alloc] at h3
          refine ⟨fun hv => ?_, by simp only [size_ext, World.size_alloc]; omega⟩
          rcases HBK.out b hv with h4 | h4
          · exact h1 h4
          · simp only [size_ext, World.size_alloc] at h4
            omega
        go_wp2
        go_roundg (gk - 1)
        case rel => exact ⟨k + 1, n3 + 1, c4, A4, lk ++ [cd], rfl, by go_num, by omega, by have := HG.out; omega, by omega, Lib.hid (by rw [List.length_append, HLK.out]; rfl), HRS2, Lib.hid (by rw [show cdc (lk ++ [cd]) = cdc lk ++ cdc [cd] from List.flatMap_append]; exact HO4.out), HRl2, HSP2, by repeat (first | exact Ext.refl' _ | assumption | apply Ext.ex' | apply Ext.al | apply Ext.drN | apply Ext.dr)⟩
        case measure => have := HG.out; omega
    · have hkz : ¬ ((k : Int) < (nl : Int)) := by omega
      have hres : res = lk := by
        have h := HRS.out
        rw [List.drop_eq_nil_of_le (by have := HL.out; omega)] at h
        simpa using h
      have HFIN : Hid (CDP w res (.returned (.slice A3 n3 c3)) wr) := Lib.hid (by
        rw [hres]
        refine ⟨A3, n3, c3, rfl, HLK, Lib.hid (Rd.of_own HO.out), Lib.hid (fun b o h => ?_), hEw.tr hE⟩
        subst h
        have h5 := HO.out.lt b rfl
        exact ⟨Nat.le_trans (by simp) h5.1, h5.2⟩)
      clear hres
      go_wp2
      go_ret
      exact HFIN.out

end Go.Proofs.Ytgacmpoonmioeaa
