/- The reference of expressions: check, Check. -/
import Derived.Test.YtflhikpihbenaaaGreatFrm
import Derived.Test.YtflhikpihbenaaaGreatFrp
import Derived.Test.YtflhikpihbenaaaGreatFro
import Derived.Deep.LoopGhost
set_option linter.unusedSimpArgs false
set_option linter.unusedVariables false
namespace Go.Proofs.YtflhikpihbenaaaGreat
open Go.RowKit


/-- some kind and errno -/
def RKI (e : Ending) : Prop := ∃ k f : Int, e = .returned (.tuple #[.int .i64 k, .int .i64 f])
theorem RKI.mk (k f : Int) : RKI (.returned (.tuple #[.int .i64 k, .int .i64 f])) := ⟨k, f, rfl⟩
theorem elInt : El Tryz.prog 23 3 (.int .i64 0) 1 8 := ⟨Tryz.underlying23, info_parts (by kernel_rfl), rfl, by decide⟩
theorem own_lit0c (w : World) (base : Nat) (hb : base ≤ w.heap.size) (e size : Nat) : (w.alloc (.cells #[] e)).ownsRow base e size (.slice (some ⟨w.heap.size, 0, none⟩) 0 0) 0 [] :=
  World.ownsRow_made w #[] 0 hb (Nat.zero_le _) (by simp)
theorem own_lit0d (w : World) (base b : Nat) (hb : base ≤ w.heap.size) (e size : Nat) (hq : b = w.heap.size) : (w.alloc (.cells #[] e)).ownsRow base e size (.slice (some ⟨b, 0, none⟩) 0 0) 0 [] := by
  subst hq
  exact own_lit0c w base hb e size
theorem Ext.size' {a b : World} (h : Ext a b) : a.heap.size ≤ b.heap.size := h.size
theorem ownsRow_ext11 {w w' : World} {base e size n : Nat} {v : Value} {xs : List Value} (h : w.ownsRow base e size v n xs) (hE : Ext w w') : w'.ownsRow base e size v n xs := by
  obtain ⟨x, rfl⟩ := hE.get
  exact own_ext h x
theorem fr_args {o i : Int} {v : Va} {nm : ByteArray} {n : Nat} (h : frB o i v nm n = true) : arLo o ≤ (n : Int) ∧ (n : Int) ≤ arHi o := by
  unfold frB at h
  simp only [Bool.and_eq_true, Bool.not_eq_true', decide_eq_false_iff_not] at h
  omega
theorem result_any (o i : Int) (v : Va) (nm : ByteArray) (A L K : Option Addr) (n c lc kc : Nat) (l ks : List Int) (w : World) (hfr : frB o i v nm n = true) (hn : l.length = n) (hcol : o = 2 → 0 ≤ i ∧ i < ks.length) (hL : Rd w 1 L l.length (ic l)) (hK : Rd w 1 K ks.length (ic ks)) (nl : l.length ≤ 9223372036854775807) (nk : ks.length ≤ 9223372036854775807) (hlc : l.length ≤ lc) (hlc2 : lc ≤ 9223372036854775807) :
    Calls Tryz.prog 52 #[exag o i v nm A n c, .slice L l.length lc, .slice K ks.length kc] w fun e w' => RKB e ∧ Ext w w' := by
  by_cases h2 : o = 2
  · subst h2
    exact result_col i v nm A L K n c lc kc l ks w hK nk (hcol rfl).1 (hcol rfl).2
  · by_cases h22 : o = 22
    · subst h22
      have h := fr_args hfr
      have e1 : arLo 22 = 3 := by decide
      have e2 : arHi 22 = 3 := by decide
      rw [e1, e2] at h
      have hl3 : l.length = 3 := by omega
      match l, hl3 with
      | [a0, a1, a2], _ => exact result_if i v nm A L K n c lc kc ks.length a0 a1 a2 w hL hlc hlc2
    · exact result_no o i v nm A L K n c lc kc l ks w hL hK nl nk h22 h2
set_option maxRecDepth 100000 in
set_option maxHeartbeats 8000000 in
theorem check_any (K : Option Addr) (kc : Nat) (ks : List Int) (nk : ks.length ≤ 1048576) (m : Nat) : ∀ (o i : Int) (v : Va) (nm : ByteArray) (A : Option Addr) (args : List Ex) (c : Nat) (css : List (List Value)) (w : World), szs args = m → szs args ≤ 1048576 → v.t.size ≤ 9223372036854775807 → Rd w 7 A args.length css.flatten → REs w args css → Rd w 1 K ks.length (ic ks) →
    Calls Tryz.prog 26 #[exag o i v nm A args.length c, .slice K ks.length kc] w fun e w' => RKI e ∧ Ext w w' := by
  induction m using Nat.strongRecOn with
  | _ m ih =>
    intro o i v nm A args c css w hm hsz hvt hR hs hK
    have IH := Lib.hid ih
    have HM := Lib.hid hm
    have HSZ := Lib.hid hsz
    have hl : args.length ≤ 1048576 := Nat.le_trans (szs_len args) hsz
    have HA := Lib.hid (fun w => arity_any o w)
    have HF := Lib.hid (fun w => formed_any o i v nm A args.length c w hvt (by omega))
    have HRS : Hid (frB o i v nm args.length = true → ∀ (L : Option Addr) (lc : Nat) (l : List Int) (W : World), l.length = args.length → (o = 2 → 0 ≤ i ∧ i < ks.length) → Rd W 1 L l.length (ic l) → Rd W 1 K ks.length (ic ks) → l.length ≤ 9223372036854775807 → l.length ≤ lc → lc ≤ 9223372036854775807 → Calls Tryz.prog 52 #[exag o i v nm A args.length c, .slice L l.length lc, .slice K ks.length kc] W fun e w' => RKB e ∧ Ext W w') := Lib.hid fun fr L lc l W h1 h2 h3 h4 h5 h6 h7 => result_any o i v nm A L K args.length c lc kc l ks W fr h1 h2 h3 h4 h5 (by omega) h6 h7
    generalize arLo o = lo at HA
    generalize arHi o = hi at HA
    obtain ⟨fb, hfb⟩ : ∃ b, frB o i v nm args.length = b := ⟨_, rfl⟩
    have HFB := Lib.hid hfb
    rw [hfb] at HF
    clear ih hm hsz hfb
    go_enter Tryz.func26, Tryz.ntmps26
    go_wp2_with fail
    refine (HA.out _).mono ?_
    rintro e w1 ⟨rfl, hb1⟩
    obtain ⟨x1, rfl⟩ := hb1.get
    clear hb1 HA
    by_cases hlo : lo < 0
    · go_wp2
      go_ret2
      exact ⟨RKI.mk _ _, by repeat (first | exact Ext.refl' _ | assumption | apply Ext.ex' | apply Ext.al | apply Ext.drN | apply Ext.dr)⟩
    go_wp2_with fail
    refine (HF.out _).mono ?_
    rintro e w1 ⟨rfl, hb1⟩
    obtain ⟨x2, rfl⟩ := hb1.get
    clear hb1 HF
    cases fb
    · go_wp2
      go_ret2
      exact ⟨RKI.mk _ _, by repeat (first | exact Ext.refl' _ | assumption | apply Ext.ex' | apply Ext.al | apply Ext.drN | apply Ext.dr)⟩
    have hcs : (o = 2 ∧ (i < 0 ∨ (0 ≤ i ∧ (ks.length : Int) ≤ i))) ∨ (o = 2 ∧ 0 ≤ i ∧ i < ks.length) ∨ o ≠ 2 := by omega
    have HCOL : Hid ((o = 2 ∧ (i < 0 ∨ (0 ≤ i ∧ (ks.length : Int) ≤ i))) ∨ (o = 2 → 0 ≤ i ∧ i < ks.length)) := Lib.hid (by omega)
    rcases hcs with ⟨h2, hi1 | ⟨hi1, hi2⟩⟩ | ⟨h2, hi1, hi2⟩ | h2
    · go_wp2
      go_ret2
      exact ⟨RKI.mk _ _, by repeat (first | exact Ext.refl' _ | assumption | apply Ext.ex' | apply Ext.al | apply Ext.drN | apply Ext.dr)⟩
    · go_wp2
      go_ret2
      exact ⟨RKI.mk _ _, by repeat (first | exact Ext.refl' _ | assumption | apply Ext.ex' | apply Ext.al | apply Ext.drN | apply Ext.dr)⟩
    · subst h2
      have HCL : Hid ((2 : Int) = 2 → 0 ≤ i ∧ i < ks.length) := Lib.hid (by omega)
      clear HCOL
      go_wp2
      have hE0 : Ext (w.alloc (.cells #[.int .i64 2, .int .i64 i, .int .i64 v.k, .int .i64 v.i, .string v.t, .string nm, .slice A args.length c] 31)) (((ext (ext (w.alloc (.cells #[.int .i64 2, .int .i64 i, .int .i64 v.k, .int .i64 v.i, .string v.t, .string nm, .slice A args.length c] 31)) x1) x2).alloc (.cells #[] 3))) := by repeat (first | exact Ext.refl' _ | assumption | apply Ext.ex' | apply Ext.al | apply Ext.drN | apply Ext.dr)
      have hE00 : Ext (w.alloc (.cells #[.int .i64 2, .int .i64 i, .int .i64 v.k, .int .i64 v.i, .string v.t, .string nm, .slice A args.length c] 31)) ((ext (ext (w.alloc (.cells #[.int .i64 2, .int .i64 i, .int .i64 v.k, .int .i64 v.i, .string v.t, .string nm, .slice A args.length c] 31)) x1) x2)) := by repeat (first | exact Ext.refl' _ | assumption | apply Ext.ex' | apply Ext.al | apply Ext.drN | apply Ext.dr)
      go_loopg [8, 9, 10, 11] args.length (fun g q ix v10 v11 wr => ∃ (k lc : Nat) (lA : Option Addr) (lk : List Int), q = .slice lA k lc ∧ ix = .int .i64 k ∧ k ≤ args.length ∧ args.length - k ≤ g ∧ k ≤ lc ∧ lc ≤ maxLen ∧ Hid (lk.length = k) ∧ Hid (wr.ownsRow ((w.alloc (.cells #[.int .i64 2, .int .i64 i, .int .i64 v.k, .int .i64 v.i, .string v.t, .string nm, .slice A args.length c] 31))).heap.size 3 1 (.slice lA k lc) k (ic lk)) ∧ Ext (w.alloc (.cells #[.int .i64 2, .int .i64 i, .int .i64 v.k, .int .i64 v.i, .string v.t, .string nm, .slice A args.length c] 31)) wr)
      case atStart => refine ⟨0, 0, _, [], rfl, rfl, by omega, by omega, Nat.le_refl _, Nat.zero_le _, Lib.hid rfl, Lib.hid (own_lit0d _ _ _ (Ext.size' hE00) _ _ (by simp [size_ext])), hE0⟩
      case round =>
        obtain ⟨k, lc, lA, lk, rfl, rfl, hk, hg, hkl, hlm, HLK, HO, hE⟩ := hrel
        obtain ⟨x, rfl⟩ := hE.get
        have HG := Lib.hid hg
        clear hg
        by_cases hlt : k < args.length
        · have hkz : (k : Int) < (args.length : Int) := by omega
          have hE1 : Ext w (ext (w.alloc (.cells #[.int .i64 2, .int .i64 i, .int .i64 v.k, .int .i64 v.i, .string v.t, .string nm, .slice A args.length c] 31)) x) := by repeat (first | exact Ext.refl' _ | assumption | apply Ext.ex' | apply Ext.al | apply Ext.drN | apply Ext.dr)
          obtain ⟨b0, o0, hAe, hb0, A1, c1, css1, p0, p1, p2, p3, p4, p5, p6, p7, p8, p9, p10, p11, p12⟩ := RE.arg hR hs hlt
          have hsz := szs_get args k hlt
          have hsz2 : szs args[k].args ≤ 1048576 := by have := HSZ.out; omega
          have HR2 : Hid (∀ W, Ext (ext (w.alloc (.cells #[.int .i64 2, .int .i64 i, .int .i64 v.k, .int .i64 v.i, .string v.t, .string nm, .slice A args.length c] 31)) x) W → Calls Tryz.prog 26 #[exag args[k].op args[k].i args[k].v args[k].nm A1 args[k].args.length c1, .slice K ks.length kc] W fun e w' => RKI e ∧ Ext W w') := Lib.hid fun W e => IH.out _ (by have := HM.out; omega) args[k].op args[k].i args[k].v args[k].nm A1 args[k].args c1 css1 W rfl hsz2 p7 (p11.ext (hE1.tr e)) (REs.ext (hE1.tr e) p12) (hK.ext (hE1.tr e))
          subst hAe
          clear hsz hsz2 p7 p8 p9 p10 p11 p12
          generalize args[k] = ek at p0 p1 p2 p3 p4 p5 p6 HR2
          go_wp2_with fail
          refine (HR2.out _ (by repeat (first | exact Ext.refl' _ | assumption | apply Ext.ex' | apply Ext.al | apply Ext.drN | apply Ext.dr))).mono ?_
          rintro e w2 ⟨⟨dk, f, rfl⟩, hb1⟩
          obtain ⟨x3, rfl⟩ := hb1.get
          clear hb1 HR2
          by_cases hf : f = 0
          · subst hf
            go_wp2_with (at_builtin; (refine wpList_app _ rfl (.tmp 61) (.tmp 63) rfl elInt (w.alloc (.cells #[.int .i64 2, .int .i64 i, .int .i64 v.k, .int .i64 v.i, .string v.t, .string nm, .slice (some ⟨b0, o0, none⟩) args.length c] 31)) (by repeat (first | exact Ext.refl' _ | assumption | apply Ext.ex' | apply Ext.al | apply Ext.drN | apply Ext.dr)) _ k _ rfl (ownsRow_ext11 HO.out (by repeat (first | exact Ext.refl' _ | assumption | apply Ext.ex' | apply Ext.al | apply Ext.drN | apply Ext.dr))) _ 1 1 [.int .i64 dk] rfl (Rd.lit _ #[.int .i64 dk] _ 1 1 rfl (by simp [size_ext])) (oneCell_ic [dk]) (by unfold maxLen; omega) (by omega) ?_; intro v1 x4 ho1 _))
            obtain ⟨A4, c4, rfl, hd1, hd2⟩ := Own.form ho1
            have HO4 := Lib.hid ho1
            clear ho1
            go_wp2
            go_roundg (gk - 1)
            case rel => exact ⟨k + 1, c4, A4, lk ++ [dk], rfl, by go_num, by omega, by have := HG.out; omega, hd1, hd2, Lib.hid (by rw [List.length_append, HLK.out]; rfl), Lib.hid (by rw [show ic (lk ++ [dk]) = ic lk ++ [.int .i64 dk] from List.map_append]; exact HO4.out), by repeat (first | exact Ext.refl' _ | assumption | apply Ext.ex' | apply Ext.al | apply Ext.drN | apply Ext.dr)⟩
            case measure => have := HG.out; omega
          · go_wp2
            go_ret2
            exact ⟨RKI.mk _ _, by repeat (first | exact Ext.refl' _ | assumption | apply Ext.ex' | apply Ext.al | apply Ext.drN | apply Ext.dr)⟩
        · have hkz : ¬ ((k : Int) < (args.length : Int)) := by omega
          have HR1 : Hid (Rd (ext (w.alloc (.cells #[.int .i64 2, .int .i64 i, .int .i64 v.k, .int .i64 v.i, .string v.t, .string nm, .slice A args.length c] 31)) x) 1 lA k (ic lk)) := Lib.hid (Rd.of_own HO.out)
          have HRS2 : Hid (∀ W, Ext (ext (w.alloc (.cells #[.int .i64 2, .int .i64 i, .int .i64 v.k, .int .i64 v.i, .string v.t, .string nm, .slice A args.length c] 31)) x) W → Calls Tryz.prog 52 #[exag 2 i v nm A args.length c, .slice lA k lc, .slice K ks.length kc] W fun e w' => RKB e ∧ Ext W w') := Lib.hid fun W e => by
            have h := HRS.out HFB.out lA lc lk W
            rw [HLK.out] at h
            exact h (by have := hk; omega) HCL.out (HR1.out.ext e) (hK.ext ((show Ext w (ext (w.alloc (.cells #[.int .i64 2, .int .i64 i, .int .i64 v.k, .int .i64 v.i, .string v.t, .string nm, .slice A args.length c] 31)) x) from by repeat (first | exact Ext.refl' _ | assumption | apply Ext.ex' | apply Ext.al | apply Ext.drN | apply Ext.dr)).tr e)) (by omega) hkl (by unfold maxLen at hlm; omega)
          clear HRS HR1 HO
          go_wp2_with fail
          refine (HRS2.out _ (by repeat (first | exact Ext.refl' _ | assumption | apply Ext.ex' | apply Ext.al | apply Ext.drN | apply Ext.dr))).mono ?_
          rintro e w2 ⟨⟨dk, fb, rfl⟩, hb1⟩
          obtain ⟨x3, rfl⟩ := hb1.get
          clear hb1
          cases fb
          · go_wp2
            go_ret2
            exact ⟨RKI.mk _ _, by repeat (first | exact Ext.refl' _ | assumption | apply Ext.ex' | apply Ext.al | apply Ext.drN | apply Ext.dr)⟩
          · go_wp2
            go_ret2
            exact ⟨RKI.mk _ _, by repeat (first | exact Ext.refl' _ | assumption | apply Ext.ex' | apply Ext.al | apply Ext.drN | apply Ext.dr)⟩
    · have HCL : Hid (o = 2 → 0 ≤ i ∧ i < ks.length) := Lib.hid (by omega)
      clear HCOL
      go_wp2
      have hE0 : Ext (w.alloc (.cells #[.int .i64 o, .int .i64 i, .int .i64 v.k, .int .i64 v.i, .string v.t, .string nm, .slice A args.length c] 31)) (((ext (ext (w.alloc (.cells #[.int .i64 o, .int .i64 i, .int .i64 v.k, .int .i64 v.i, .string v.t, .string nm, .slice A args.length c] 31)) x1) x2).alloc (.cells #[] 3))) := by repeat (first | exact Ext.refl' _ | assumption | apply Ext.ex' | apply Ext.al | apply Ext.drN | apply Ext.dr)
      have hE00 : Ext (w.alloc (.cells #[.int .i64 o, .int .i64 i, .int .i64 v.k, .int .i64 v.i, .string v.t, .string nm, .slice A args.length c] 31)) ((ext (ext (w.alloc (.cells #[.int .i64 o, .int .i64 i, .int .i64 v.k, .int .i64 v.i, .string v.t, .string nm, .slice A args.length c] 31)) x1) x2)) := by repeat (first | exact Ext.refl' _ | assumption | apply Ext.ex' | apply Ext.al | apply Ext.drN | apply Ext.dr)
      go_loopg [8, 9, 10, 11] args.length (fun g q ix v10 v11 wr => ∃ (k lc : Nat) (lA : Option Addr) (lk : List Int), q = .slice lA k lc ∧ ix = .int .i64 k ∧ k ≤ args.length ∧ args.length - k ≤ g ∧ k ≤ lc ∧ lc ≤ maxLen ∧ Hid (lk.length = k) ∧ Hid (wr.ownsRow ((w.alloc (.cells #[.int .i64 o, .int .i64 i, .int .i64 v.k, .int .i64 v.i, .string v.t, .string nm, .slice A args.length c] 31))).heap.size 3 1 (.slice lA k lc) k (ic lk)) ∧ Ext (w.alloc (.cells #[.int .i64 o, .int .i64 i, .int .i64 v.k, .int .i64 v.i, .string v.t, .string nm, .slice A args.length c] 31)) wr)
      case atStart => refine ⟨0, 0, _, [], rfl, rfl, by omega, by omega, Nat.le_refl _, Nat.zero_le _, Lib.hid rfl, Lib.hid (own_lit0d _ _ _ (Ext.size' hE00) _ _ (by simp [size_ext])), hE0⟩
      case round =>
        obtain ⟨k, lc, lA, lk, rfl, rfl, hk, hg, hkl, hlm, HLK, HO, hE⟩ := hrel
        obtain ⟨x, rfl⟩ := hE.get
        have HG := Lib.hid hg
        clear hg
        by_cases hlt : k < args.length
        · have hkz : (k : Int) < (args.length : Int) := by omega
          have hE1 : Ext w (ext (w.alloc (.cells #[.int .i64 o, .int .i64 i, .int .i64 v.k, .int .i64 v.i, .string v.t, .string nm, .slice A args.length c] 31)) x) := by repeat (first | exact Ext.refl' _ | assumption | apply Ext.ex' | apply Ext.al | apply Ext.drN | apply Ext.dr)
          obtain ⟨b0, o0, hAe, hb0, A1, c1, css1, p0, p1, p2, p3, p4, p5, p6, p7, p8, p9, p10, p11, p12⟩ := RE.arg hR hs hlt
          have hsz := szs_get args k hlt
          have hsz2 : szs args[k].args ≤ 1048576 := by have := HSZ.out; omega
          have HR2 : Hid (∀ W, Ext (ext (w.alloc (.cells #[.int .i64 o, .int .i64 i, .int .i64 v.k, .int .i64 v.i, .string v.t, .string nm, .slice A args.length c] 31)) x) W → Calls Tryz.prog 26 #[exag args[k].op args[k].i args[k].v args[k].nm A1 args[k].args.length c1, .slice K ks.length kc] W fun e w' => RKI e ∧ Ext W w') := Lib.hid fun W e => IH.out _ (by have := HM.out; omega) args[k].op args[k].i args[k].v args[k].nm A1 args[k].args c1 css1 W rfl hsz2 p7 (p11.ext (hE1.tr e)) (REs.ext (hE1.tr e) p12) (hK.ext (hE1.tr e))
          subst hAe
          clear hsz hsz2 p7 p8 p9 p10 p11 p12
          generalize args[k] = ek at p0 p1 p2 p3 p4 p5 p6 HR2
          go_wp2_with fail
          refine (HR2.out _ (by repeat (first | exact Ext.refl' _ | assumption | apply Ext.ex' | apply Ext.al | apply Ext.drN | apply Ext.dr))).mono ?_
          rintro e w2 ⟨⟨dk, f, rfl⟩, hb1⟩
          obtain ⟨x3, rfl⟩ := hb1.get
          clear hb1 HR2
          by_cases hf : f = 0
          · subst hf
            go_wp2_with (at_builtin; (refine wpList_app _ rfl (.tmp 61) (.tmp 63) rfl elInt (w.alloc (.cells #[.int .i64 o, .int .i64 i, .int .i64 v.k, .int .i64 v.i, .string v.t, .string nm, .slice (some ⟨b0, o0, none⟩) args.length c] 31)) (by repeat (first | exact Ext.refl' _ | assumption | apply Ext.ex' | apply Ext.al | apply Ext.drN | apply Ext.dr)) _ k _ rfl (ownsRow_ext11 HO.out (by repeat (first | exact Ext.refl' _ | assumption | apply Ext.ex' | apply Ext.al | apply Ext.drN | apply Ext.dr))) _ 1 1 [.int .i64 dk] rfl (Rd.lit _ #[.int .i64 dk] _ 1 1 rfl (by simp [size_ext])) (oneCell_ic [dk]) (by unfold maxLen; omega) (by omega) ?_; intro v1 x4 ho1 _))
            obtain ⟨A4, c4, rfl, hd1, hd2⟩ := Own.form ho1
            have HO4 := Lib.hid ho1
            clear ho1
            go_wp2
            go_roundg (gk - 1)
            case rel => exact ⟨k + 1, c4, A4, lk ++ [dk], rfl, by go_num, by omega, by have := HG.out; omega, hd1, hd2, Lib.hid (by rw [List.length_append, HLK.out]; rfl), Lib.hid (by rw [show ic (lk ++ [dk]) = ic lk ++ [.int .i64 dk] from List.map_append]; exact HO4.out), by repeat (first | exact Ext.refl' _ | assumption | apply Ext.ex' | apply Ext.al | apply Ext.drN | apply Ext.dr)⟩
            case measure => have := HG.out; omega
          · go_wp2
            go_ret2
            exact ⟨RKI.mk _ _, by repeat (first | exact Ext.refl' _ | assumption | apply Ext.ex' | apply Ext.al | apply Ext.drN | apply Ext.dr)⟩
        · have hkz : ¬ ((k : Int) < (args.length : Int)) := by omega
          have HR1 : Hid (Rd (ext (w.alloc (.cells #[.int .i64 o, .int .i64 i, .int .i64 v.k, .int .i64 v.i, .string v.t, .string nm, .slice A args.length c] 31)) x) 1 lA k (ic lk)) := Lib.hid (Rd.of_own HO.out)
          have HRS2 : Hid (∀ W, Ext (ext (w.alloc (.cells #[.int .i64 o, .int .i64 i, .int .i64 v.k, .int .i64 v.i, .string v.t, .string nm, .slice A args.length c] 31)) x) W → Calls Tryz.prog 52 #[exag o i v nm A args.length c, .slice lA k lc, .slice K ks.length kc] W fun e w' => RKB e ∧ Ext W w') := Lib.hid fun W e => by
            have h := HRS.out HFB.out lA lc lk W
            rw [HLK.out] at h
            exact h (by have := hk; omega) HCL.out (HR1.out.ext e) (hK.ext ((show Ext w (ext (w.alloc (.cells #[.int .i64 o, .int .i64 i, .int .i64 v.k, .int .i64 v.i, .string v.t, .string nm, .slice A args.length c] 31)) x) from by repeat (first | exact Ext.refl' _ | assumption | apply Ext.ex' | apply Ext.al | apply Ext.drN | apply Ext.dr)).tr e)) (by omega) hkl (by unfold maxLen at hlm; omega)
          clear HRS HR1 HO
          go_wp2_with fail
          refine (HRS2.out _ (by repeat (first | exact Ext.refl' _ | assumption | apply Ext.ex' | apply Ext.al | apply Ext.drN | apply Ext.dr))).mono ?_
          rintro e w2 ⟨⟨dk, fb, rfl⟩, hb1⟩
          obtain ⟨x3, rfl⟩ := hb1.get
          clear hb1
          cases fb
          · go_wp2
            go_ret2
            exact ⟨RKI.mk _ _, by repeat (first | exact Ext.refl' _ | assumption | apply Ext.ex' | apply Ext.al | apply Ext.drN | apply Ext.dr)⟩
          · go_wp2
            go_ret2
            exact ⟨RKI.mk _ _, by repeat (first | exact Ext.refl' _ | assumption | apply Ext.ex' | apply Ext.al | apply Ext.drN | apply Ext.dr)⟩


set_option maxHeartbeats 4000000 in
theorem checkE_any (K : Option Addr) (kc : Nat) (ks : List Int) (nk : ks.length ≤ 1048576) (o i : Int) (v : Va) (nm : ByteArray) (A : Option Addr) (args : List Ex) (c : Nat) (css : List (List Value)) (w : World) (hsz : szs args ≤ 1048576) (hvt : v.t.size ≤ 9223372036854775807) (hR : Rd w 7 A args.length css.flatten) (hs : REs w args css) (hK : Rd w 1 K ks.length (ic ks)) :
    Calls Tryz.prog 12 #[exag o i v nm A args.length c, .slice K ks.length kc] w fun e w' => RKI e ∧ Ext w w' := by
  have HD : Hid (∀ W, Ext w W → Calls Tryz.prog 25 #[exag o i v nm A args.length c] W fun e w' => RI e ∧ Ext W w') := Lib.hid fun W e => depth_any _ o i v nm A args c css W rfl (hR.ext e) (REs.ext e hs) (Nat.le_trans (szs_len args) (by omega))
  have HC : Hid (∀ W, Ext w W → Calls Tryz.prog 26 #[exag o i v nm A args.length c, .slice K ks.length kc] W fun e w' => RKI e ∧ Ext W w') := Lib.hid fun W e => check_any K kc ks nk _ o i v nm A args c css W rfl hsz hvt (hR.ext e) (REs.ext e hs) (hK.ext e)
  clear hR hs hK hsz hvt nk
  go_enter Tryz.func12, Tryz.ntmps12
  go_wp2_with fail
  refine (HD.out _ (by repeat (first | exact Ext.refl' _ | assumption | apply Ext.ex' | apply Ext.al | apply Ext.drN | apply Ext.dr))).mono ?_
  rintro e w2 ⟨⟨d, rfl⟩, hb1⟩
  obtain ⟨x3, rfl⟩ := hb1.get
  clear hb1
  by_cases hd : 24 < d
  · go_wp2
    go_ret2
    exact ⟨RKI.mk _ _, by repeat (first | exact Ext.refl' _ | assumption | apply Ext.ex' | apply Ext.al | apply Ext.drN | apply Ext.dr)⟩
  · go_wp2_with fail
    refine (HC.out _ (by repeat (first | exact Ext.refl' _ | assumption | apply Ext.ex' | apply Ext.al | apply Ext.drN | apply Ext.dr))).mono ?_
    rintro e w2 ⟨⟨k, f, rfl⟩, hb1⟩
    obtain ⟨x4, rfl⟩ := hb1.get
    clear hb1
    go_wp2
    go_ret2
    exact ⟨RKI.mk _ _, by repeat (first | exact Ext.refl' _ | assumption | apply Ext.ex' | apply Ext.al | apply Ext.drN | apply Ext.dr)⟩

end Go.Proofs.YtflhikpihbenaaaGreat
