/- Versions as described: fits, before, sound, usable. -/
import Derived.Test.YtflhikpihbenaaaGreatOpnM
import Derived.Test.YtflhikpihbenaaaGreatFru
import Derived.Test.YtflhikpihbenaaaGreatEv2
set_option linter.unusedSimpArgs false
set_option linter.unusedVariables false
namespace Go.Proofs.YtflhikpihbenaaaGreat
open Go.RowKit


/-- a row fits kinds -/
def fitB : List Va → List Int → Bool
  | [], [] => true
  | v :: r, k :: l => (vvB v && (v.k == 0 || v.k == k)) && fitB r l
  | _, _ => false
theorem fitB_ne : ∀ {r : List Va} {l : List Int}, r.length ≠ l.length → fitB r l = false
  | [], [], h => absurd rfl h
  | [], _ :: _, _ => rfl
  | _ :: _, [], _ => rfl
  | v :: r, k :: l, h => by rw [fitB, fitB_ne (r := r) (l := l) (fun e => h (by simp [e])), Bool.and_false]
theorem fitB_step {r : List Va} {l : List Int} {k : Nat} {v : Va} {i : Int} (h1 : r[k]? = some v) (h2 : l[k]? = some i) : fitB (r.drop k) (l.drop k) = ((vvB v && (v.k == 0 || v.k == i)) && fitB (r.drop (k + 1)) (l.drop (k + 1))) := by
  obtain ⟨a1, b1⟩ := List.getElem?_eq_some_iff.1 h1
  obtain ⟨a2, b2⟩ := List.getElem?_eq_some_iff.1 h2
  rw [List.drop_eq_getElem_cons a1, List.drop_eq_getElem_cons a2, b1, b2, fitB]
set_option maxRecDepth 100000 in
set_option maxHeartbeats 8000000 in
theorem fits_any (RA K : Option Addr) (n rc nk kc : Nat) (row : List Va) (lk : List Int) (w : World) (hn : row.length = n) (hnk : lk.length = nk) (hR : Rd w 3 RA n (vcl row)) (hK : Rd w 1 K nk (ic lk)) (nr : n ≤ 1048576) (nn : nk ≤ 1048576) (hz : ∀ v ∈ row, v.t.size ≤ 9223372036854775807) :
    Calls Tryz.prog 31 #[.slice RA n rc, .slice K nk kc] w fun e w' => e = .returned (.bool (fitB row lk)) ∧ Ext w w' := by
  have HR : Hid (fitB row lk = fitB (row.drop 0) (lk.drop 0)) := Lib.hid rfl
  have HN := Lib.hid hn
  have HK := Lib.hid hnk
  have HZ := Lib.hid hz
  rcases hq : ((n : Int) != (nk : Int)) with _ | _
  case true =>
    have H0 : Hid (fitB row lk = false) := Lib.hid (fitB_ne (by rw [hn, hnk]; intro h; subst h; simp at hq))
    clear HR hz hn hnk
    generalize fitB row lk = fb at H0 ⊢
    go_enter Tryz.func31, Tryz.ntmps31
    go_wp2
    go_ret
    exact ⟨by rw [H0.out]; rfl, by repeat (first | exact Ext.refl' _ | assumption | apply Ext.ex' | apply Ext.al | apply Ext.drN | apply Ext.dr)⟩
  have hnn : n = nk := by simp at hq; omega
  clear hz hn hnk
  generalize fitB row lk = fb at HR ⊢
  go_enter Tryz.func31, Tryz.ntmps31
  go_wp2
  go_loopg [5] n (fun g ix wr => ∃ k : Nat, ix = .int .i64 k ∧ k ≤ n ∧ n - k ≤ g ∧ Hid (fb = fitB (row.drop k) (lk.drop k)) ∧ Ext w wr)
  case atStart => exact ⟨0, rfl, by omega, by omega, HR, by repeat (first | exact Ext.refl' _ | assumption | apply Ext.ex' | apply Ext.al | apply Ext.drN | apply Ext.dr)⟩
  case round =>
    obtain ⟨k, rfl, hk, hg, HC, hE⟩ := hrel
    obtain ⟨x, rfl⟩ := hE.get
    clear hE HR
    have HG := Lib.hid hg
    clear hg
    by_cases hlt : k < n
    · have hkz : (k : Int) < (n : Int) := by omega
      have hkz2 : (k : Int) < (nk : Int) := by omega
      obtain ⟨v, b0, o0, hv0, rfl, hb0, p0, p1, p2⟩ := hR.val3 HN.out hlt
      obtain ⟨kk, b1, o1, hv1, rfl, hb1, p3⟩ := hK.in1 HK.out (show k < nk by omega)
      have HS := Lib.hid (fitB_step hv0 hv1)
      have HV := Lib.hid (fun W => rvv_any v W (HZ.out v (List.mem_of_getElem? hv0)))
      clear hv0 hv1
      rcases hvb : vvB v with _ | _
      · have HD : Hid (fb = false) := Lib.hid (by rw [HC.out, HS.out, hvb]; rfl)
        rw [hvb] at HV
        clear hvb HS HC
        go_wp2_with fail
        refine wp_region_ext (by kernel_rfl) (by kernel_rfl) ?_
        repeat (first | go_big_quiet_step ((go_at_call 58; exact Calls.ext_of (HV.out _))) | quiet_step ((go_at_call 58; exact Calls.ext_of (HV.out _)))) 
        refine wpQuiet_nil ?_
        intro _ hw'
        obtain ⟨xq, hw''⟩ := hw'
        subst hw''
        go_wp2
        go_ret
        exact ⟨by rw [HD.out]; rfl, by repeat (first | exact Ext.refl' _ | assumption | apply Ext.ex' | apply Ext.al | apply Ext.drN | apply Ext.dr)⟩
      · rw [hvb] at HV
        rcases hq1 : (v.k != 0) with _ | _
        · have HD : Hid (fb = fitB (row.drop (k + 1)) (lk.drop (k + 1))) := Lib.hid (by rw [HC.out, HS.out, hvb]; simp at hq1; simp [hq1])
          clear hvb HS HC
          go_wp2_with fail
          refine wp_region_ext (by kernel_rfl) (by kernel_rfl) ?_
          repeat (first | go_big_quiet_step ((go_at_call 58; exact Calls.ext_of (HV.out _))) | quiet_step ((go_at_call 58; exact Calls.ext_of (HV.out _)))) 
          refine wpQuiet_nil ?_
          intro _ hw'
          obtain ⟨xq, hw''⟩ := hw'
          subst hw''
          go_wp2
          go_roundg (gk - 1)
          case rel => exact ⟨k + 1, by go_num, by omega, by have := HG.out; omega, HD, by repeat (first | exact Ext.refl' _ | assumption | apply Ext.ex' | apply Ext.al | apply Ext.drN | apply Ext.dr)⟩
          case measure => have := HG.out; omega
        · rcases hq2 : (v.k != kk) with _ | _
          · have HD : Hid (fb = fitB (row.drop (k + 1)) (lk.drop (k + 1))) := Lib.hid (by rw [HC.out, HS.out, hvb]; simp at hq2; simp [hq2])
            clear hvb HS HC
            go_wp2_with fail
            refine wp_region_ext (by kernel_rfl) (by kernel_rfl) ?_
            repeat (first | go_big_quiet_step ((go_at_call 58; exact Calls.ext_of (HV.out _))) | quiet_step ((go_at_call 58; exact Calls.ext_of (HV.out _)))) 
            refine wpQuiet_nil ?_
            intro _ hw'
            obtain ⟨xq, hw''⟩ := hw'
            subst hw''
            go_wp2
            go_roundg (gk - 1)
            case rel => exact ⟨k + 1, by go_num, by omega, by have := HG.out; omega, HD, by repeat (first | exact Ext.refl' _ | assumption | apply Ext.ex' | apply Ext.al | apply Ext.drN | apply Ext.dr)⟩
            case measure => have := HG.out; omega
          · have HD : Hid (fb = false) := Lib.hid (by rw [HC.out, HS.out, hvb]; simp at hq1 hq2; simp [hq1, hq2])
            clear hvb HS HC
            go_wp2_with fail
            refine wp_region_ext (by kernel_rfl) (by kernel_rfl) ?_
            repeat (first | go_big_quiet_step ((go_at_call 58; exact Calls.ext_of (HV.out _))) | quiet_step ((go_at_call 58; exact Calls.ext_of (HV.out _)))) 
            refine wpQuiet_nil ?_
            intro _ hw'
            obtain ⟨xq, hw''⟩ := hw'
            subst hw''
            go_wp2
            go_ret
            exact ⟨by rw [HD.out]; rfl, by repeat (first | exact Ext.refl' _ | assumption | apply Ext.ex' | apply Ext.al | apply Ext.drN | apply Ext.dr)⟩
    · have hkz : ¬ ((k : Int) < (n : Int)) := by omega
      have HD : Hid (fb = true) := Lib.hid (by rw [HC.out, List.drop_eq_nil_of_le (by have := HN.out; omega), List.drop_eq_nil_of_le (by have := HK.out; omega)]; rfl)
      clear HC
      go_wp2
      go_ret
      exact ⟨by rw [HD.out]; rfl, by repeat (first | exact Ext.refl' _ | assumption | apply Ext.ex' | apply Ext.al | apply Ext.drN | apply Ext.dr)⟩
/-- a version comes before another one -/
def befV (a b : VeA) : Bool := if a.id = b.id then (if a.s.1 = b.s.1 then decide (a.v.1 < b.v.1) else decide (a.s.1 < b.s.1)) else decide (a.id < b.id)
set_option maxRecDepth 100000 in
set_option maxHeartbeats 8000000 in
theorem before49_any (a b : VeA) (w : World) : Calls Tryz.prog 32 #[.agg #[.int .i64 a.id, .int .i64 a.sch, .slice a.row.A a.row.l.length a.row.c, .int .i64 a.v.1, .int .i64 a.v.2, .int .i64 a.s.1, .int .i64 a.s.2, .int .i64 a.by_, .int .i64 a.un], .agg #[.int .i64 b.id, .int .i64 b.sch, .slice b.row.A b.row.l.length b.row.c, .int .i64 b.v.1, .int .i64 b.v.2, .int .i64 b.s.1, .int .i64 b.s.2, .int .i64 b.by_, .int .i64 b.un]] w fun e w' => e = .returned (.bool (befV a b)) ∧ Ext w w' := by
  go_enter Tryz.func32, Tryz.ntmps32
  go_wp2
  all_goals go_ret
  all_goals refine ⟨?_, by repeat (first | exact Ext.refl' _ | assumption | apply Ext.ex' | apply Ext.al | apply Ext.drN | apply Ext.dr)⟩
  all_goals simp_all [befV]


def KQ (n1 : Nat) (l : List Int) (e : Ending) (w' : World) : Prop := ∃ (A : Option Addr) (c : Nat), e = .returned (.slice A n1 c) ∧ Hid (Rd w' 1 A n1 (ic l))
theorem KQ.mk (n1 : Nat) (l : List Int) (w' : World) (A : Option Addr) (c : Nat) (h : Rd w' 1 A n1 (ic l)) : KQ n1 l (.returned (.slice A n1 c)) w' := ⟨A, c, rfl, Lib.hid h⟩
set_option maxRecDepth 100000 in
set_option maxHeartbeats 8000000 in
theorem kinds2_any (s0 : ByteArray) (A1 K A3 A4 : Option Addr) (n1 m1 n2 kc n3 m3 n4 m4 : Nat) (cl : List Col) (w : World) (hn : cl.length = n1) (hC : Rd w 3 A1 n1 (cl.flatMap colc)) (hl : n1 ≤ 1048576) : Calls Tryz.prog 13 #[.agg #[.string s0, .slice A1 n1 m1, .slice K n2 kc, .slice A3 n3 m3, .slice A4 n4 m4]] w fun e w' => KQ n1 (cl.map Col.k) e w' ∧ Ext w w' := by
  have HN := Lib.hid hn
  clear hn
  go_enter Tryz.func13, Tryz.ntmps13
  go_wp2
  have hE0 : Ext (w.alloc (.cells #[.string s0, .slice A1 n1 m1, .slice K n2 kc, .slice A3 n3 m3, .slice A4 n4 m4] 27)) (((w.alloc (.cells #[.string s0, .slice A1 n1 m1, .slice K n2 kc, .slice A3 n3 m3, .slice A4 n4 m4] 27))).alloc (.cells #[] 3)) := by repeat (first | exact Ext.refl' _ | assumption | apply Ext.ex' | apply Ext.al | apply Ext.drN | apply Ext.dr)
  go_loopg [3, 4] n1 (fun g q ix wr => ∃ (k lc : Nat) (lA : Option Addr) (lk : List Int), q = .slice lA k lc ∧ ix = .int .i64 k ∧ k ≤ n1 ∧ n1 - k ≤ g ∧ Hid (lk = (cl.take k).map Col.k) ∧ Hid (wr.ownsRow ((w.alloc (.cells #[.string s0, .slice A1 n1 m1, .slice K n2 kc, .slice A3 n3 m3, .slice A4 n4 m4] 27))).heap.size 3 1 (.slice lA k lc) k (ic lk)) ∧ Ext (w.alloc (.cells #[.string s0, .slice A1 n1 m1, .slice K n2 kc, .slice A3 n3 m3, .slice A4 n4 m4] 27)) wr)
  case atStart => refine ⟨0, 0, _, [], rfl, rfl, by omega, by omega, Lib.hid rfl, Lib.hid (own_lit0d _ _ _ (Nat.le_refl _) _ _ (by simp [size_ext])), hE0⟩
  case round =>
    obtain ⟨k, lc, lA, lk, rfl, rfl, hk, hg, HLK, HO, hE⟩ := hrel
    obtain ⟨x, rfl⟩ := hE.get
    have HG := Lib.hid hg
    clear hg
    by_cases hlt : k < n1
    · have hkz : (k : Int) < (n1 : Int) := by omega
      obtain ⟨cv, b, oo, hcv, rfl, hb, c0, c1, c2⟩ := hC.col HN.out hlt
      have HCV := Lib.hid hcv
      clear hcv
      go_wp2_with (at_builtin; (refine wpList_app _ rfl (.tmp 13) (.tmp 20) rfl elInt (w.alloc (.cells #[.string s0, .slice (some ⟨b, oo, none⟩) n1 m1, .slice K n2 kc, .slice A3 n3 m3, .slice A4 n4 m4] 27)) (by repeat (first | exact Ext.refl' _ | assumption | apply Ext.ex' | apply Ext.al | apply Ext.drN | apply Ext.dr)) _ k _ rfl (ownsRow_ext11 HO.out (by repeat (first | exact Ext.refl' _ | assumption | apply Ext.ex' | apply Ext.al | apply Ext.drN | apply Ext.dr))) _ 1 1 (ic [cv.k]) rfl (Rd.lit _ #[.int .i64 cv.k] _ 1 1 rfl (by simp [size_ext])) (oneCell_ic _) (by unfold maxLen; omega) (by omega) ?_; intro v1 x4 ho1 _))
      obtain ⟨A4', c4, rfl, hd1, hd2⟩ := Own.form ho1
      have HO4 := Lib.hid ho1
      clear ho1
      go_wp2
      go_roundg (gk - 1)
      case rel => exact ⟨k + 1, c4, A4', lk ++ [cv.k], rfl, by go_num, by omega, by have := HG.out; omega, Lib.hid (by rw [HLK.out, List.take_add_one, HCV.out]; simp), Lib.hid (by rw [show ic (lk ++ [cv.k]) = ic lk ++ [.int .i64 cv.k] from List.map_append]; exact HO4.out), by repeat (first | exact Ext.refl' _ | assumption | apply Ext.ex' | apply Ext.al | apply Ext.drN | apply Ext.dr)⟩
      case measure => have := HG.out; omega
    · have hkz : ¬ ((k : Int) < (n1 : Int)) := by omega
      have hkn : k = n1 := by omega
      have HRD : Hid (Rd (ext (w.alloc (.cells #[.string s0, .slice A1 n1 m1, .slice K n2 kc, .slice A3 n3 m3, .slice A4 n4 m4] 27)) x) 1 lA k (ic (cl.map Col.k))) := Lib.hid (by
        have h := HLK.out
        rw [List.take_of_length_le (by have := HN.out; omega)] at h
        rw [← h]
        exact Rd.of_own HO.out)
      subst hkn
      clear HO HLK
      go_wp2
      go_ret
      exact ⟨KQ.mk _ _ _ _ _ (HRD.out.ext (by repeat (first | exact Ext.refl' _ | assumption | apply Ext.ex' | apply Ext.al | apply Ext.drN | apply Ext.dr))), by repeat (first | exact Ext.refl' _ | assumption | apply Ext.ex' | apply Ext.al | apply Ext.drN | apply Ext.dr)⟩


theorem Rd.ve9 {w : World} {A : Option Addr} {l : List VeA} {n : Nat} (h : Rd w 9 A n (l.flatMap encVe)) (hn : l.length = n) {k : Nat} (hk : k < n) :
    ∃ p b o, l[k]? = some p ∧ A = some ⟨b, o, none⟩ ∧ b < w.heap.size ∧ w.cell? ⟨b, o + k * 9, none⟩ = some (.int .i64 p.id) ∧ w.cell? ⟨b, o + k * 9 + 1, none⟩ = some (.int .i64 p.sch) ∧ w.cell? ⟨b, o + k * 9 + 2, none⟩ = some (.slice p.row.A p.row.l.length p.row.c) ∧ w.cell? ⟨b, o + k * 9 + 3, none⟩ = some (.int .i64 p.v.1) ∧ w.cell? ⟨b, o + k * 9 + 4, none⟩ = some (.int .i64 p.v.2) ∧ w.cell? ⟨b, o + k * 9 + 5, none⟩ = some (.int .i64 p.s.1) ∧ w.cell? ⟨b, o + k * 9 + 6, none⟩ = some (.int .i64 p.s.2) ∧ w.cell? ⟨b, o + k * 9 + 7, none⟩ = some (.int .i64 p.by_) ∧ w.cell? ⟨b, o + k * 9 + 8, none⟩ = some (.int .i64 p.un) := by
  have hk' : k < l.length := by omega
  obtain ⟨b, o, hA, hb, hc⟩ := h.2 (by omega)
  have f := fun j hj => fm_get (enc := encVe) (k := 9) (fun _ => rfl) l k hk' j hj
  refine ⟨l[k], b, o, List.getElem?_eq_getElem hk', hA, hb, hc _ _ (f 0 (by omega)), ?_, ?_, ?_, ?_, ?_, ?_, ?_, ?_⟩
  · have := hc _ _ (f 1 (by omega)); rwa [← Nat.add_assoc] at this
  · have := hc _ _ (f 2 (by omega)); rwa [← Nat.add_assoc] at this
  · have := hc _ _ (f 3 (by omega)); rwa [← Nat.add_assoc] at this
  · have := hc _ _ (f 4 (by omega)); rwa [← Nat.add_assoc] at this
  · have := hc _ _ (f 5 (by omega)); rwa [← Nat.add_assoc] at this
  · have := hc _ _ (f 6 (by omega)); rwa [← Nat.add_assoc] at this
  · have := hc _ _ (f 7 (by omega)); rwa [← Nat.add_assoc] at this
  · have := hc _ _ (f 8 (by omega)); rwa [← Nat.add_assoc] at this

/-- versions whose rows can be read -/
def VsOk (w : World) (vs : List VeA) : Prop := ∀ p ∈ vs, Rd w 3 p.row.A p.row.l.length (vcl p.row.l) ∧ p.row.l.length ≤ 1048576 ∧ ∀ v ∈ p.row.l, v.t.size ≤ 9223372036854775807
theorem VsOk.ext {w w' : World} {vs : List VeA} (h : VsOk w vs) (e : Ext w w') : VsOk w' vs := fun p hp => ⟨(h p hp).1.ext e, (h p hp).2⟩
def okV (kl : List Int) (p : VeA) : Prop := fitB p.row.l kl = true ∧ pvB p.v = true ∧ pvB p.s = true
/-- the first k of versions are as described -/
def SndP (kl : List Int) (vs : List VeA) (k : Nat) : Prop := (∀ j p, j < k → vs[j]? = some p → okV kl p) ∧ ∀ j m p q, m < j → j < k → vs[j]? = some p → vs[m]? = some q → befV p q = true ∨ befV q p = true
theorem SndP.zero (kl : List Int) (vs : List VeA) : SndP kl vs 0 := ⟨fun _ _ h => absurd h (by omega), fun _ _ _ _ _ h => absurd h (by omega)⟩
theorem SndP.step {kl : List Int} {vs : List VeA} {k : Nat} {p : VeA} (h : SndP kl vs k) (hp : vs[k]? = some p) (ho : okV kl p) (hd : ∀ m q, m < k → vs[m]? = some q → befV p q = true ∨ befV q p = true) : SndP kl vs (k + 1) := by
  refine ⟨fun j q hj hq => ?_, fun j m a b hm hj ha hb => ?_⟩
  · rcases Nat.lt_or_ge j k with h1 | h1
    · exact h.1 j q h1 hq
    · have : j = k := by omega
      subst this
      rw [hp] at hq
      injection hq with hq
      subst hq
      exact ho
  · rcases Nat.lt_or_ge j k with h1 | h1
    · exact h.2 j m a b hm h1 ha hb
    · have : j = k := by omega
      subst this
      rw [hp] at ha
      injection ha with ha
      subst ha
      exact hd m b hm hb
def SnR (kl : List Int) (vs : List VeA) (e : Ending) : Prop := ∃ b, e = .returned (.bool b) ∧ (b = true → SndP kl vs vs.length)


set_option maxRecDepth 100000 in
set_option maxHeartbeats 8000000 in
theorem sound_any (s0 : ByteArray) (A1 K A3 A4 : Option Addr) (n1 m1 n2 kc n3 m3 n4 m4 : Nat) (cl : List Col) (ks : List Int) (fl : List Fo) (es : List Ex) (css : List (List Value)) (L : Option Addr) (n lc : Nat) (vs : List VeA) (w : World) (hs0 : s0.size ≤ 9223372036854775807) (hT : TabOk w A1 K A3 A4 n1 n2 n3 n4 cl ks fl es css)
    (hn : vs.length = n) (hnb : n ≤ 1048576) (hL : Rd w 9 L n (vs.flatMap encVe)) (hV : VsOk w vs) :
    Calls Tryz.prog 16 #[.agg #[.string s0, .slice A1 n1 m1, .slice K n2 kc, .slice A3 n3 m3, .slice A4 n4 m4], .slice L n lc] w fun e w' => SnR (cl.map Col.k) vs e ∧ Ext w w' := by
  have HTC := Lib.hid fun W (e : Ext w W) => tcheck_any s0 A1 K A3 A4 n1 m1 n2 kc n3 m3 n4 m4 cl ks fl es css W hs0 (hT.ext e)
  have HKI := Lib.hid fun W (e : Ext w W) => kinds2_any s0 A1 K A3 A4 n1 m1 n2 kc n3 m3 n4 m4 cl W hT.cn (hT.c.ext e) hT.cb
  have HCB : Hid ((cl.map Col.k).length = n1 ∧ n1 ≤ 1048576) := Lib.hid ⟨by rw [List.length_map]; exact hT.cn, hT.cb⟩
  have HN := Lib.hid hn
  have HV := Lib.hid hV
  clear hT hs0 hn hV
  generalize cl.map Col.k = kl at *
  go_enter Tryz.func16, Tryz.ntmps16
  go_wp2_with fail
  refine (HTC.out _ (by repeat (first | exact Ext.refl' _ | assumption | apply Ext.ex' | apply Ext.al | apply Ext.drN | apply Ext.dr))).mono ?_
  rintro e w1 ⟨⟨f, rfl⟩, hb1⟩
  obtain ⟨x1, rfl⟩ := hb1.get
  clear hb1
  clear HTC
  by_cases hf : f = 0
  case neg =>
    go_wp2
    go_ret
    exact ⟨⟨false, rfl, fun h => by cases h⟩, by repeat (first | exact Ext.refl' _ | assumption | apply Ext.ex' | apply Ext.al | apply Ext.drN | apply Ext.dr)⟩
  subst hf
  go_wp2
  go_loopg [5, 6] n (fun g ix v6 wr => ∃ k : Nat, ix = .int .i64 k ∧ k ≤ n ∧ n - k ≤ g ∧ Hid (SndP kl vs k) ∧ Ext (w.alloc (.cells #[.string s0, .slice A1 n1 m1, .slice K n2 kc, .slice A3 n3 m3, .slice A4 n4 m4] 27)) wr)
  case atStart => exact ⟨0, rfl, by omega, by omega, Lib.hid (SndP.zero _ _), by repeat (first | exact Ext.refl' _ | assumption | apply Ext.ex' | apply Ext.al | apply Ext.drN | apply Ext.dr)⟩
  case round =>
    obtain ⟨k, rfl, hk, hg, HSP, hE⟩ := hrel
    obtain ⟨x, rfl⟩ := hE.get
    clear hE
    have HG := Lib.hid hg
    clear hg
    by_cases hlt : k < n
    · have hkz : (k : Int) < (n : Int) := by omega
      obtain ⟨p, b, oo, hpi, rfl, hb, c0, c1, c2, c3, c4, c5, c6, c7, c8⟩ := hL.ve9 HN.out hlt
      have HPI := Lib.hid hpi
      have hro := HV.out p (List.mem_of_getElem? hpi)
      clear hpi
      obtain ⟨fb, hfb⟩ : ∃ c, fitB p.row.l kl = c := ⟨_, rfl⟩
      obtain ⟨pv, hpv⟩ : ∃ c, pvB p.v = c := ⟨_, rfl⟩
      obtain ⟨ps, hps⟩ : ∃ c, pvB p.s = c := ⟨_, rfl⟩
      have HFI : Hid (∀ W, Ext w W → ∀ (Ak : Option Addr) (ck : Nat), Rd W 1 Ak n1 (ic kl) → Calls Tryz.prog 31 #[.slice p.row.A p.row.l.length p.row.c, .slice Ak n1 ck] W fun e w' => e = .returned (.bool fb) ∧ Ext W w') := Lib.hid fun W e Ak ck h => by
        rw [← hfb]
        exact fits_any _ _ _ _ _ _ _ _ _ rfl HCB.out.1 (hro.1.ext e) h hro.2.1 HCB.out.2 hro.2.2
      have HPV : Hid (∀ W, Calls Tryz.prog 15 #[.agg #[.int .i64 p.v.1, .int .i64 p.v.2]] W fun e w' => e = .returned (.bool pv) ∧ Ext W w') := Lib.hid fun W => by rw [← hpv]; exact rvalid_any p.v W
      have HPS : Hid (∀ W, Calls Tryz.prog 15 #[.agg #[.int .i64 p.s.1, .int .i64 p.s.2]] W fun e w' => e = .returned (.bool ps) ∧ Ext W w') := Lib.hid fun W => by rw [← hps]; exact rvalid_any p.s W
      have HOE : Hid (fitB p.row.l kl = fb ∧ pvB p.v = pv ∧ pvB p.s = ps) := Lib.hid ⟨hfb, hpv, hps⟩
      clear hfb hpv hps hro
      cases fb
      · go_wp2_with fail
        refine wp_region_held_drew (S := (fun w' => w'.cell? ⟨w.heap.size, 0, none⟩ = some (.string s0) ∧ w'.cell? ⟨w.heap.size, 1, none⟩ = some (.slice A1 n1 m1) ∧ w'.cell? ⟨w.heap.size, 2, none⟩ = some (.slice K n2 kc) ∧ w'.cell? ⟨w.heap.size, 3, none⟩ = some (.slice A3 n3 m3) ∧ w'.cell? ⟨w.heap.size, 4, none⟩ = some (.slice A4 n4 m4) ∧ w'.cell? ⟨b, oo + k * 9, none⟩ = some (.int .i64 p.id) ∧ w'.cell? ⟨b, oo + k * 9 + 1, none⟩ = some (.int .i64 p.sch) ∧ w'.cell? ⟨b, oo + k * 9 + 2, none⟩ = some (.slice p.row.A p.row.l.length p.row.c) ∧ w'.cell? ⟨b, oo + k * 9 + 3, none⟩ = some (.int .i64 p.v.1) ∧ w'.cell? ⟨b, oo + k * 9 + 4, none⟩ = some (.int .i64 p.v.2) ∧ w'.cell? ⟨b, oo + k * 9 + 5, none⟩ = some (.int .i64 p.s.1) ∧ w'.cell? ⟨b, oo + k * 9 + 6, none⟩ = some (.int .i64 p.s.2) ∧ w'.cell? ⟨b, oo + k * 9 + 7, none⟩ = some (.int .i64 p.by_) ∧ w'.cell? ⟨b, oo + k * 9 + 8, none⟩ = some (.int .i64 p.un))) (by kernel_rfl) (by simp [go_sem, ↓IntWalk.iteOmega, *]) (fun hHeld => ?_)
        refine wpAnyH_take (i := 0) (oi := ?oi101) (v := ?v101) ?hi101 (by kernel_rfl) (by kernel_rfl) (by kernel_rfl) ?hQ101 ?hy101 (by assumption) ?_
        case hi101 => (simp only [List.getElem?_toArray, List.getElem?_cons_succ, List.getElem?_cons_zero]; try rfl)
        case hQ101 => exact fun _ _ _ h => h
        case hy101 => (refine Or.inl ⟨by rfl, ?_⟩; intro wq hSw; (try dsimp only at hSw); go_simp; (try with_reducible rfl))
        (try simp only [Act.put, List.setIfInBounds_toArray, List.set_cons_zero, List.set_cons_succ])
        refine wpAnyH_take (i := 1) (oi := ?oi102) (v := ?v102) ?hi102 (by kernel_rfl) (by kernel_rfl) (by kernel_rfl) ?hQ102 ?hy102 (by assumption) ?_
        case hi102 => (simp only [List.getElem?_toArray, List.getElem?_cons_succ, List.getElem?_cons_zero]; try rfl)
        case hQ102 => exact fun _ _ _ h => h
        case hy102 => (refine Or.inl ⟨by rfl, ?_⟩; intro wq hSw; (try dsimp only at hSw); go_simp; (try with_reducible rfl))
        (try simp only [Act.put, List.setIfInBounds_toArray, List.set_cons_zero, List.set_cons_succ])
        refine wpAnyH_take (i := 2) (oi := ?oi103) (v := ?v103) ?hi103 (by kernel_rfl) (by kernel_rfl) (by kernel_rfl) ?hQ103 ?hy103 (by assumption) ?_
        case hi103 => (simp only [List.getElem?_toArray, List.getElem?_cons_succ, List.getElem?_cons_zero]; try rfl)
        case hQ103 => exact fun _ _ _ h => h
        case hy103 => (refine Or.inl ⟨by rfl, ?_⟩; intro wq hSw; (try dsimp only at hSw); go_simp; (try with_reducible rfl))
        (try simp only [Act.put, List.setIfInBounds_toArray, List.set_cons_zero, List.set_cons_succ])
        refine wpAnyH_take (i := 3) (oi := ?oi104) (v := ?v104) ?hi104 (by kernel_rfl) (by kernel_rfl) (by kernel_rfl) ?hQ104 ?hy104 (by assumption) ?_
        case hi104 => (simp only [List.getElem?_toArray, List.getElem?_cons_succ, List.getElem?_cons_zero]; try rfl)
        case hQ104 => exact fun _ _ _ h => h
        case hy104 => (refine Or.inl ⟨by rfl, ?_⟩; intro wq hSw; (try dsimp only at hSw); go_simp; (try with_reducible rfl))
        (try simp only [Act.put, List.setIfInBounds_toArray, List.set_cons_zero, List.set_cons_succ])
        refine wpAnyH_take (i := 4) (oi := ?oi105) (v := ?v105) ?hi105 (by kernel_rfl) (by kernel_rfl) (by kernel_rfl) ?hQ105 ?hy105 (by assumption) ?_
        case hi105 => (simp only [List.getElem?_toArray, List.getElem?_cons_succ, List.getElem?_cons_zero]; try rfl)
        case hQ105 => exact fun _ _ _ h => h
        case hy105 => (refine Or.inl ⟨by rfl, ?_⟩; intro wq hSw; (try dsimp only at hSw); go_simp; (try with_reducible rfl))
        (try simp only [Act.put, List.setIfInBounds_toArray, List.set_cons_zero, List.set_cons_succ])
        refine wpAnyH_take (i := 5) (oi := ?oi106) (v := ?v106) ?hi106 (by kernel_rfl) (by kernel_rfl) (by kernel_rfl) ?hQ106 ?hy106 (by assumption) ?_
        case hi106 => (simp only [List.getElem?_toArray, List.getElem?_cons_succ, List.getElem?_cons_zero]; try rfl)
        case hQ106 => exact fun _ _ _ h => h
        case hy106 => (refine Or.inl ⟨by rfl, ?_⟩; intro wq hSw; (try dsimp only at hSw); go_simp; (try with_reducible rfl))
        (try simp only [Act.put, List.setIfInBounds_toArray, List.set_cons_zero, List.set_cons_succ])
        refine wpAnyH_ready (rs := [6]) (by kernel_rfl) (by simp) ?_
        refine AllReadyH.cons (o := ?oi107) ?hi107 ?ti107 AllReadyH.nil
        case hi107 => (simp only [List.getElem?_toArray, List.getElem?_cons_succ, List.getElem?_cons_zero]; try rfl)
        case ti107 =>
          intro KQ hKQ
          go_simp
          go_at_call 13
          refine Calls.mono (HKI.out _ (by repeat (first | exact Ext.refl' _ | assumption | apply Ext.ex' | apply Ext.al | apply Ext.drN | apply Ext.dr))) ?_
          rintro e w1 ⟨⟨Ak, ck, rfl, HRK⟩, hb1⟩
          obtain ⟨x1, rfl⟩ := hb1.get
          clear hb1
          refine hKQ.out _ _ (by simp [go_sem, ↓IntWalk.iteOmega, *]) (fun hHeld2 => ?_)
          clear hHeld hKQ KQ; have hHeld := hHeld2; clear hHeld2
          (try simp only [Act.put, List.setIfInBounds_toArray, List.set_cons_zero, List.set_cons_succ])
          refine wpAnyH_ready (rs := [7]) (by kernel_rfl) (by simp) ?_
          refine AllReadyH.cons (o := ?oi108) ?hi108 ?ti108 AllReadyH.nil
          case hi108 => (simp only [List.getElem?_toArray, List.getElem?_cons_succ, List.getElem?_cons_zero]; try rfl)
          case ti108 =>
            intro KQ hKQ
            go_simp
            go_at_call 31
            refine Calls.mono (HFI.out _ (by repeat (first | exact Ext.refl' _ | assumption | apply Ext.ex' | apply Ext.al | apply Ext.drN | apply Ext.dr)) Ak ck (HRK.out.ext (by repeat (first | exact Ext.refl' _ | assumption | apply Ext.ex' | apply Ext.al | apply Ext.drN | apply Ext.dr)))) ?_
            rintro e w1 ⟨rfl, hb1⟩
            obtain ⟨x2, rfl⟩ := hb1.get
            clear hb1
            refine hKQ.out _ _ (by simp [go_sem, ↓IntWalk.iteOmega, *]) (fun hHeld2 => ?_)
            clear hHeld hKQ KQ; have hHeld := hHeld2; clear hHeld2
            (try simp only [Act.put, List.setIfInBounds_toArray, List.set_cons_zero, List.set_cons_succ])
            refine wpAnyH_take (i := 8) (oi := ?oi109) (v := ?v109) ?hi109 (by kernel_rfl) (by kernel_rfl) (by kernel_rfl) ?hQ109 ?hy109 (by assumption) ?_
            case hi109 => (simp only [List.getElem?_toArray, List.getElem?_cons_succ, List.getElem?_cons_zero]; try rfl)
            case hQ109 => exact fun _ _ _ h => h
            case hy109 => (refine Or.inl ⟨by rfl, ?_⟩; intro wq hSw; (try dsimp only at hSw); go_simp; (try with_reducible rfl))
            (try simp only [Act.put, List.setIfInBounds_toArray, List.set_cons_zero, List.set_cons_succ])
            refine wpAnyH_take (i := 9) (oi := ?oi110) (v := ?v110) ?hi110 (by kernel_rfl) (by kernel_rfl) (by kernel_rfl) ?hQ110 ?hy110 (by assumption) ?_
            case hi110 => (simp only [List.getElem?_toArray, List.getElem?_cons_succ, List.getElem?_cons_zero]; try rfl)
            case hQ110 => exact fun _ _ _ h => h
            case hy110 => (refine Or.inl ⟨by rfl, ?_⟩; intro wq hSw; (try dsimp only at hSw); go_simp; (try with_reducible rfl))
            (try simp only [Act.put, List.setIfInBounds_toArray, List.set_cons_zero, List.set_cons_succ])
            refine wpAnyH_take (i := 10) (oi := ?oi111) (v := undef) ?hi111 (by kernel_rfl) (by kernel_rfl) (by kernel_rfl) ?hQ111 ?hy111 (by assumption) ?_
            case hi111 => (simp only [List.getElem?_toArray, List.getElem?_cons_succ, List.getElem?_cons_zero]; try rfl)
            case hQ111 => exact fun _ _ _ h => h
            case hy111 => exact Or.inr ⟨by rfl, rfl⟩
            (try simp only [Act.put, List.setIfInBounds_toArray, List.set_cons_zero, List.set_cons_succ])
            refine wpAnyH_take (i := 11) (oi := ?oi112) (v := undef) ?hi112 (by kernel_rfl) (by kernel_rfl) (by kernel_rfl) ?hQ112 ?hy112 (by assumption) ?_
            case hi112 => (simp only [List.getElem?_toArray, List.getElem?_cons_succ, List.getElem?_cons_zero]; try rfl)
            case hQ112 => exact fun _ _ _ h => h
            case hy112 => exact Or.inr ⟨by rfl, rfl⟩
            (try simp only [Act.put, List.setIfInBounds_toArray, List.set_cons_zero, List.set_cons_succ])
            refine wpAnyH_take (i := 12) (oi := ?oi113) (v := undef) ?hi113 (by kernel_rfl) (by kernel_rfl) (by kernel_rfl) ?hQ113 ?hy113 (by assumption) ?_
            case hi113 => (simp only [List.getElem?_toArray, List.getElem?_cons_succ, List.getElem?_cons_zero]; try rfl)
            case hQ113 => exact fun _ _ _ h => h
            case hy113 => exact Or.inr ⟨by rfl, rfl⟩
            (try simp only [Act.put, List.setIfInBounds_toArray, List.set_cons_zero, List.set_cons_succ])
            refine wpAnyH_take (i := 13) (oi := ?oi114) (v := undef) ?hi114 (by kernel_rfl) (by kernel_rfl) (by kernel_rfl) ?hQ114 ?hy114 (by assumption) ?_
            case hi114 => (simp only [List.getElem?_toArray, List.getElem?_cons_succ, List.getElem?_cons_zero]; try rfl)
            case hQ114 => exact fun _ _ _ h => h
            case hy114 => exact Or.inr ⟨by rfl, rfl⟩
            (try simp only [Act.put, List.setIfInBounds_toArray, List.set_cons_zero, List.set_cons_succ])
            refine wpAnyH_take (i := 14) (oi := ?oi115) (v := undef) ?hi115 (by kernel_rfl) (by kernel_rfl) (by kernel_rfl) ?hQ115 ?hy115 (by assumption) ?_
            case hi115 => (simp only [List.getElem?_toArray, List.getElem?_cons_succ, List.getElem?_cons_zero]; try rfl)
            case hQ115 => exact fun _ _ _ h => h
            case hy115 => exact Or.inr ⟨by rfl, rfl⟩
            (try simp only [Act.put, List.setIfInBounds_toArray, List.set_cons_zero, List.set_cons_succ])
            refine wpAnyH_take (i := 15) (oi := ?oi116) (v := undef) ?hi116 (by kernel_rfl) (by kernel_rfl) (by kernel_rfl) ?hQ116 ?hy116 (by assumption) ?_
            case hi116 => (simp only [List.getElem?_toArray, List.getElem?_cons_succ, List.getElem?_cons_zero]; try rfl)
            case hQ116 => exact fun _ _ _ h => h
            case hy116 => exact Or.inr ⟨by rfl, rfl⟩
            (try simp only [Act.put, List.setIfInBounds_toArray, List.set_cons_zero, List.set_cons_succ])
            refine wpAnyH_take (i := 16) (oi := ?oi117) (v := undef) ?hi117 (by kernel_rfl) (by kernel_rfl) (by kernel_rfl) ?hQ117 ?hy117 (by assumption) ?_
            case hi117 => (simp only [List.getElem?_toArray, List.getElem?_cons_succ, List.getElem?_cons_zero]; try rfl)
            case hQ117 => exact fun _ _ _ h => h
            case hy117 => exact Or.inr ⟨by rfl, rfl⟩
            (try simp only [Act.put, List.setIfInBounds_toArray, List.set_cons_zero, List.set_cons_succ])
            refine wpAnyH_take (i := 17) (oi := ?oi118) (v := ?v118) ?hi118 (by kernel_rfl) (by kernel_rfl) (by kernel_rfl) ?hQ118 ?hy118 (by assumption) ?_
            case hi118 => (simp only [List.getElem?_toArray, List.getElem?_cons_succ, List.getElem?_cons_zero]; try rfl)
            case hQ118 => exact fun _ _ _ h => h
            case hy118 => (refine Or.inl ⟨by rfl, ?_⟩; intro wq hSw; (try dsimp only at hSw); go_simp; (try with_reducible rfl))
            (try simp only [Act.put, List.setIfInBounds_toArray, List.set_cons_zero, List.set_cons_succ])
            refine wpAnyH_take (i := 18) (oi := ?oi119) (v := ?v119) ?hi119 (by kernel_rfl) (by kernel_rfl) (by kernel_rfl) ?hQ119 ?hy119 (by assumption) ?_
            case hi119 => (simp only [List.getElem?_toArray, List.getElem?_cons_succ, List.getElem?_cons_zero]; try rfl)
            case hQ119 => exact fun _ _ _ h => h
            case hy119 => (refine Or.inl ⟨by rfl, ?_⟩; intro wq hSw; (try dsimp only at hSw); go_simp; (try with_reducible rfl))
            (try simp only [Act.put, List.setIfInBounds_toArray, List.set_cons_zero, List.set_cons_succ])
            refine wpAnyH_take (i := 19) (oi := ?oi120) (v := undef) ?hi120 (by kernel_rfl) (by kernel_rfl) (by kernel_rfl) ?hQ120 ?hy120 (by assumption) ?_
            case hi120 => (simp only [List.getElem?_toArray, List.getElem?_cons_succ, List.getElem?_cons_zero]; try rfl)
            case hQ120 => exact fun _ _ _ h => h
            case hy120 => exact Or.inr ⟨by rfl, rfl⟩
            (try simp only [Act.put, List.setIfInBounds_toArray, List.set_cons_zero, List.set_cons_succ])
            refine wpAnyH_take (i := 20) (oi := ?oi121) (v := undef) ?hi121 (by kernel_rfl) (by kernel_rfl) (by kernel_rfl) ?hQ121 ?hy121 (by assumption) ?_
            case hi121 => (simp only [List.getElem?_toArray, List.getElem?_cons_succ, List.getElem?_cons_zero]; try rfl)
            case hQ121 => exact fun _ _ _ h => h
            case hy121 => exact Or.inr ⟨by rfl, rfl⟩
            (try simp only [Act.put, List.setIfInBounds_toArray, List.set_cons_zero, List.set_cons_succ])
            refine wpAnyH_take (i := 21) (oi := ?oi122) (v := undef) ?hi122 (by kernel_rfl) (by kernel_rfl) (by kernel_rfl) ?hQ122 ?hy122 (by assumption) ?_
            case hi122 => (simp only [List.getElem?_toArray, List.getElem?_cons_succ, List.getElem?_cons_zero]; try rfl)
            case hQ122 => exact fun _ _ _ h => h
            case hy122 => exact Or.inr ⟨by rfl, rfl⟩
            (try simp only [Act.put, List.setIfInBounds_toArray, List.set_cons_zero, List.set_cons_succ])
            refine wpAnyH_take (i := 22) (oi := ?oi123) (v := undef) ?hi123 (by kernel_rfl) (by kernel_rfl) (by kernel_rfl) ?hQ123 ?hy123 (by assumption) ?_
            case hi123 => (simp only [List.getElem?_toArray, List.getElem?_cons_succ, List.getElem?_cons_zero]; try rfl)
            case hQ123 => exact fun _ _ _ h => h
            case hy123 => exact Or.inr ⟨by rfl, rfl⟩
            (try simp only [Act.put, List.setIfInBounds_toArray, List.set_cons_zero, List.set_cons_succ])
            refine wpAnyH_take (i := 23) (oi := ?oi124) (v := undef) ?hi124 (by kernel_rfl) (by kernel_rfl) (by kernel_rfl) ?hQ124 ?hy124 (by assumption) ?_
            case hi124 => (simp only [List.getElem?_toArray, List.getElem?_cons_succ, List.getElem?_cons_zero]; try rfl)
            case hQ124 => exact fun _ _ _ h => h
            case hy124 => exact Or.inr ⟨by rfl, rfl⟩
            (try simp only [Act.put, List.setIfInBounds_toArray, List.set_cons_zero, List.set_cons_succ])
            refine wpAnyH_take (i := 24) (oi := ?oi125) (v := undef) ?hi125 (by kernel_rfl) (by kernel_rfl) (by kernel_rfl) ?hQ125 ?hy125 (by assumption) ?_
            case hi125 => (simp only [List.getElem?_toArray, List.getElem?_cons_succ, List.getElem?_cons_zero]; try rfl)
            case hQ125 => exact fun _ _ _ h => h
            case hy125 => exact Or.inr ⟨by rfl, rfl⟩
            (try simp only [Act.put, List.setIfInBounds_toArray, List.set_cons_zero, List.set_cons_succ])
            refine wpAnyH_take (i := 25) (oi := ?oi126) (v := undef) ?hi126 (by kernel_rfl) (by kernel_rfl) (by kernel_rfl) ?hQ126 ?hy126 (by assumption) ?_
            case hi126 => (simp only [List.getElem?_toArray, List.getElem?_cons_succ, List.getElem?_cons_zero]; try rfl)
            case hQ126 => exact fun _ _ _ h => h
            case hy126 => exact Or.inr ⟨by rfl, rfl⟩
            (try simp only [Act.put, List.setIfInBounds_toArray, List.set_cons_zero, List.set_cons_succ])
            refine wpAnyH_take (i := 26) (oi := ?oi127) (v := ?v127) ?hi127 (by kernel_rfl) (by kernel_rfl) (by kernel_rfl) ?hQ127 ?hy127 (by assumption) ?_
            case hi127 => (simp only [List.getElem?_toArray, List.getElem?_cons_succ, List.getElem?_cons_zero]; try rfl)
            case hQ127 => exact fun _ _ _ h => h
            case hy127 => (refine Or.inl ⟨by rfl, ?_⟩; intro wq hSw; (try dsimp only at hSw); go_simp; (try with_reducible rfl))
            (try simp only [Act.put, List.setIfInBounds_toArray, List.set_cons_zero, List.set_cons_succ])
            refine wpAnyH_done (by kernel_rfl) ?_ _
            go_wp2
            go_ret
            exact ⟨⟨false, rfl, fun h => by cases h⟩, by repeat (first | exact Ext.refl' _ | assumption | apply Ext.ex' | apply Ext.al | apply Ext.drN | apply Ext.dr)⟩
      cases pv
      · go_wp2_with fail
        refine wp_region_held_drew (S := (fun w' => w'.cell? ⟨w.heap.size, 0, none⟩ = some (.string s0) ∧ w'.cell? ⟨w.heap.size, 1, none⟩ = some (.slice A1 n1 m1) ∧ w'.cell? ⟨w.heap.size, 2, none⟩ = some (.slice K n2 kc) ∧ w'.cell? ⟨w.heap.size, 3, none⟩ = some (.slice A3 n3 m3) ∧ w'.cell? ⟨w.heap.size, 4, none⟩ = some (.slice A4 n4 m4) ∧ w'.cell? ⟨b, oo + k * 9, none⟩ = some (.int .i64 p.id) ∧ w'.cell? ⟨b, oo + k * 9 + 1, none⟩ = some (.int .i64 p.sch) ∧ w'.cell? ⟨b, oo + k * 9 + 2, none⟩ = some (.slice p.row.A p.row.l.length p.row.c) ∧ w'.cell? ⟨b, oo + k * 9 + 3, none⟩ = some (.int .i64 p.v.1) ∧ w'.cell? ⟨b, oo + k * 9 + 4, none⟩ = some (.int .i64 p.v.2) ∧ w'.cell? ⟨b, oo + k * 9 + 5, none⟩ = some (.int .i64 p.s.1) ∧ w'.cell? ⟨b, oo + k * 9 + 6, none⟩ = some (.int .i64 p.s.2) ∧ w'.cell? ⟨b, oo + k * 9 + 7, none⟩ = some (.int .i64 p.by_) ∧ w'.cell? ⟨b, oo + k * 9 + 8, none⟩ = some (.int .i64 p.un))) (by kernel_rfl) (by simp [go_sem, ↓IntWalk.iteOmega, *]) (fun hHeld => ?_)
        refine wpAnyH_take (i := 0) (oi := ?oi201) (v := ?v201) ?hi201 (by kernel_rfl) (by kernel_rfl) (by kernel_rfl) ?hQ201 ?hy201 (by assumption) ?_
        case hi201 => (simp only [List.getElem?_toArray, List.getElem?_cons_succ, List.getElem?_cons_zero]; try rfl)
        case hQ201 => exact fun _ _ _ h => h
        case hy201 => (refine Or.inl ⟨by rfl, ?_⟩; intro wq hSw; (try dsimp only at hSw); go_simp; (try with_reducible rfl))
        (try simp only [Act.put, List.setIfInBounds_toArray, List.set_cons_zero, List.set_cons_succ])
        refine wpAnyH_take (i := 1) (oi := ?oi202) (v := ?v202) ?hi202 (by kernel_rfl) (by kernel_rfl) (by kernel_rfl) ?hQ202 ?hy202 (by assumption) ?_
        case hi202 => (simp only [List.getElem?_toArray, List.getElem?_cons_succ, List.getElem?_cons_zero]; try rfl)
        case hQ202 => exact fun _ _ _ h => h
        case hy202 => (refine Or.inl ⟨by rfl, ?_⟩; intro wq hSw; (try dsimp only at hSw); go_simp; (try with_reducible rfl))
        (try simp only [Act.put, List.setIfInBounds_toArray, List.set_cons_zero, List.set_cons_succ])
        refine wpAnyH_take (i := 2) (oi := ?oi203) (v := ?v203) ?hi203 (by kernel_rfl) (by kernel_rfl) (by kernel_rfl) ?hQ203 ?hy203 (by assumption) ?_
        case hi203 => (simp only [List.getElem?_toArray, List.getElem?_cons_succ, List.getElem?_cons_zero]; try rfl)
        case hQ203 => exact fun _ _ _ h => h
        case hy203 => (refine Or.inl ⟨by rfl, ?_⟩; intro wq hSw; (try dsimp only at hSw); go_simp; (try with_reducible rfl))
        (try simp only [Act.put, List.setIfInBounds_toArray, List.set_cons_zero, List.set_cons_succ])
        refine wpAnyH_take (i := 3) (oi := ?oi204) (v := ?v204) ?hi204 (by kernel_rfl) (by kernel_rfl) (by kernel_rfl) ?hQ204 ?hy204 (by assumption) ?_
        case hi204 => (simp only [List.getElem?_toArray, List.getElem?_cons_succ, List.getElem?_cons_zero]; try rfl)
        case hQ204 => exact fun _ _ _ h => h
        case hy204 => (refine Or.inl ⟨by rfl, ?_⟩; intro wq hSw; (try dsimp only at hSw); go_simp; (try with_reducible rfl))
        (try simp only [Act.put, List.setIfInBounds_toArray, List.set_cons_zero, List.set_cons_succ])
        refine wpAnyH_take (i := 4) (oi := ?oi205) (v := ?v205) ?hi205 (by kernel_rfl) (by kernel_rfl) (by kernel_rfl) ?hQ205 ?hy205 (by assumption) ?_
        case hi205 => (simp only [List.getElem?_toArray, List.getElem?_cons_succ, List.getElem?_cons_zero]; try rfl)
        case hQ205 => exact fun _ _ _ h => h
        case hy205 => (refine Or.inl ⟨by rfl, ?_⟩; intro wq hSw; (try dsimp only at hSw); go_simp; (try with_reducible rfl))
        (try simp only [Act.put, List.setIfInBounds_toArray, List.set_cons_zero, List.set_cons_succ])
        refine wpAnyH_take (i := 5) (oi := ?oi206) (v := ?v206) ?hi206 (by kernel_rfl) (by kernel_rfl) (by kernel_rfl) ?hQ206 ?hy206 (by assumption) ?_
        case hi206 => (simp only [List.getElem?_toArray, List.getElem?_cons_succ, List.getElem?_cons_zero]; try rfl)
        case hQ206 => exact fun _ _ _ h => h
        case hy206 => (refine Or.inl ⟨by rfl, ?_⟩; intro wq hSw; (try dsimp only at hSw); go_simp; (try with_reducible rfl))
        (try simp only [Act.put, List.setIfInBounds_toArray, List.set_cons_zero, List.set_cons_succ])
        refine wpAnyH_ready (rs := [6]) (by kernel_rfl) (by simp) ?_
        refine AllReadyH.cons (o := ?oi207) ?hi207 ?ti207 AllReadyH.nil
        case hi207 => (simp only [List.getElem?_toArray, List.getElem?_cons_succ, List.getElem?_cons_zero]; try rfl)
        case ti207 =>
          intro KQ hKQ
          go_simp
          go_at_call 13
          refine Calls.mono (HKI.out _ (by repeat (first | exact Ext.refl' _ | assumption | apply Ext.ex' | apply Ext.al | apply Ext.drN | apply Ext.dr))) ?_
          rintro e w1 ⟨⟨Ak, ck, rfl, HRK⟩, hb1⟩
          obtain ⟨x1, rfl⟩ := hb1.get
          clear hb1
          refine hKQ.out _ _ (by simp [go_sem, ↓IntWalk.iteOmega, *]) (fun hHeld2 => ?_)
          clear hHeld hKQ KQ; have hHeld := hHeld2; clear hHeld2
          (try simp only [Act.put, List.setIfInBounds_toArray, List.set_cons_zero, List.set_cons_succ])
          refine wpAnyH_ready (rs := [7]) (by kernel_rfl) (by simp) ?_
          refine AllReadyH.cons (o := ?oi208) ?hi208 ?ti208 AllReadyH.nil
          case hi208 => (simp only [List.getElem?_toArray, List.getElem?_cons_succ, List.getElem?_cons_zero]; try rfl)
          case ti208 =>
            intro KQ hKQ
            go_simp
            go_at_call 31
            refine Calls.mono (HFI.out _ (by repeat (first | exact Ext.refl' _ | assumption | apply Ext.ex' | apply Ext.al | apply Ext.drN | apply Ext.dr)) Ak ck (HRK.out.ext (by repeat (first | exact Ext.refl' _ | assumption | apply Ext.ex' | apply Ext.al | apply Ext.drN | apply Ext.dr)))) ?_
            rintro e w1 ⟨rfl, hb1⟩
            obtain ⟨x2, rfl⟩ := hb1.get
            clear hb1
            refine hKQ.out _ _ (by simp [go_sem, ↓IntWalk.iteOmega, *]) (fun hHeld2 => ?_)
            clear hHeld hKQ KQ; have hHeld := hHeld2; clear hHeld2
            (try simp only [Act.put, List.setIfInBounds_toArray, List.set_cons_zero, List.set_cons_succ])
            refine wpAnyH_take (i := 8) (oi := ?oi209) (v := ?v209) ?hi209 (by kernel_rfl) (by kernel_rfl) (by kernel_rfl) ?hQ209 ?hy209 (by assumption) ?_
            case hi209 => (simp only [List.getElem?_toArray, List.getElem?_cons_succ, List.getElem?_cons_zero]; try rfl)
            case hQ209 => exact fun _ _ _ h => h
            case hy209 => (refine Or.inl ⟨by rfl, ?_⟩; intro wq hSw; (try dsimp only at hSw); go_simp; (try with_reducible rfl))
            (try simp only [Act.put, List.setIfInBounds_toArray, List.set_cons_zero, List.set_cons_succ])
            refine wpAnyH_take (i := 9) (oi := ?oi210) (v := ?v210) ?hi210 (by kernel_rfl) (by kernel_rfl) (by kernel_rfl) ?hQ210 ?hy210 (by assumption) ?_
            case hi210 => (simp only [List.getElem?_toArray, List.getElem?_cons_succ, List.getElem?_cons_zero]; try rfl)
            case hQ210 => exact fun _ _ _ h => h
            case hy210 => (refine Or.inl ⟨by rfl, ?_⟩; intro wq hSw; (try dsimp only at hSw); go_simp; (try with_reducible rfl))
            (try simp only [Act.put, List.setIfInBounds_toArray, List.set_cons_zero, List.set_cons_succ])
            refine wpAnyH_take (i := 10) (oi := ?oi211) (v := ?v211) ?hi211 (by kernel_rfl) (by kernel_rfl) (by kernel_rfl) ?hQ211 ?hy211 (by assumption) ?_
            case hi211 => (simp only [List.getElem?_toArray, List.getElem?_cons_succ, List.getElem?_cons_zero]; try rfl)
            case hQ211 => exact fun _ _ _ h => h
            case hy211 => (refine Or.inl ⟨by rfl, ?_⟩; intro wq hSw; (try dsimp only at hSw); go_simp; (try with_reducible rfl))
            (try simp only [Act.put, List.setIfInBounds_toArray, List.set_cons_zero, List.set_cons_succ])
            refine wpAnyH_take (i := 11) (oi := ?oi212) (v := ?v212) ?hi212 (by kernel_rfl) (by kernel_rfl) (by kernel_rfl) ?hQ212 ?hy212 (by assumption) ?_
            case hi212 => (simp only [List.getElem?_toArray, List.getElem?_cons_succ, List.getElem?_cons_zero]; try rfl)
            case hQ212 => exact fun _ _ _ h => h
            case hy212 => (refine Or.inl ⟨by rfl, ?_⟩; intro wq hSw; (try dsimp only at hSw); go_simp; (try with_reducible rfl))
            (try simp only [Act.put, List.setIfInBounds_toArray, List.set_cons_zero, List.set_cons_succ])
            refine wpAnyH_take (i := 12) (oi := ?oi213) (v := ?v213) ?hi213 (by kernel_rfl) (by kernel_rfl) (by kernel_rfl) ?hQ213 ?hy213 (by assumption) ?_
            case hi213 => (simp only [List.getElem?_toArray, List.getElem?_cons_succ, List.getElem?_cons_zero]; try rfl)
            case hQ213 => exact fun _ _ _ h => h
            case hy213 => (refine Or.inl ⟨by rfl, ?_⟩; intro wq hSw; (try dsimp only at hSw); go_simp; (try with_reducible rfl))
            (try simp only [Act.put, List.setIfInBounds_toArray, List.set_cons_zero, List.set_cons_succ])
            refine wpAnyH_take (i := 13) (oi := ?oi214) (v := ?v214) ?hi214 (by kernel_rfl) (by kernel_rfl) (by kernel_rfl) ?hQ214 ?hy214 (by assumption) ?_
            case hi214 => (simp only [List.getElem?_toArray, List.getElem?_cons_succ, List.getElem?_cons_zero]; try rfl)
            case hQ214 => exact fun _ _ _ h => h
            case hy214 => (refine Or.inl ⟨by rfl, ?_⟩; intro wq hSw; (try dsimp only at hSw); go_simp; (try with_reducible rfl))
            (try simp only [Act.put, List.setIfInBounds_toArray, List.set_cons_zero, List.set_cons_succ])
            refine wpAnyH_take (i := 14) (oi := ?oi215) (v := ?v215) ?hi215 (by kernel_rfl) (by kernel_rfl) (by kernel_rfl) ?hQ215 ?hy215 (by assumption) ?_
            case hi215 => (simp only [List.getElem?_toArray, List.getElem?_cons_succ, List.getElem?_cons_zero]; try rfl)
            case hQ215 => exact fun _ _ _ h => h
            case hy215 => (refine Or.inl ⟨by rfl, ?_⟩; intro wq hSw; (try dsimp only at hSw); go_simp; (try with_reducible rfl))
            (try simp only [Act.put, List.setIfInBounds_toArray, List.set_cons_zero, List.set_cons_succ])
            refine wpAnyH_ready (rs := [15]) (by kernel_rfl) (by simp) ?_
            refine AllReadyH.cons (o := ?oi216) ?hi216 ?ti216 AllReadyH.nil
            case hi216 => (simp only [List.getElem?_toArray, List.getElem?_cons_succ, List.getElem?_cons_zero]; try rfl)
            case ti216 =>
              intro KQ hKQ
              go_simp
              go_at_call 15
              refine Calls.mono (HPV.out _) ?_
              rintro e w1 ⟨rfl, hb1⟩
              obtain ⟨x3, rfl⟩ := hb1.get
              clear hb1
              refine hKQ.out _ _ (by simp [go_sem, ↓IntWalk.iteOmega, *]) (fun hHeld2 => ?_)
              clear hHeld hKQ KQ; have hHeld := hHeld2; clear hHeld2
              (try simp only [Act.put, List.setIfInBounds_toArray, List.set_cons_zero, List.set_cons_succ])
              refine wpAnyH_take (i := 16) (oi := ?oi217) (v := ?v217) ?hi217 (by kernel_rfl) (by kernel_rfl) (by kernel_rfl) ?hQ217 ?hy217 (by assumption) ?_
              case hi217 => (simp only [List.getElem?_toArray, List.getElem?_cons_succ, List.getElem?_cons_zero]; try rfl)
              case hQ217 => exact fun _ _ _ h => h
              case hy217 => (refine Or.inl ⟨by rfl, ?_⟩; intro wq hSw; (try dsimp only at hSw); go_simp; (try with_reducible rfl))
              (try simp only [Act.put, List.setIfInBounds_toArray, List.set_cons_zero, List.set_cons_succ])
              refine wpAnyH_take (i := 17) (oi := ?oi218) (v := ?v218) ?hi218 (by kernel_rfl) (by kernel_rfl) (by kernel_rfl) ?hQ218 ?hy218 (by assumption) ?_
              case hi218 => (simp only [List.getElem?_toArray, List.getElem?_cons_succ, List.getElem?_cons_zero]; try rfl)
              case hQ218 => exact fun _ _ _ h => h
              case hy218 => (refine Or.inl ⟨by rfl, ?_⟩; intro wq hSw; (try dsimp only at hSw); go_simp; (try with_reducible rfl))
              (try simp only [Act.put, List.setIfInBounds_toArray, List.set_cons_zero, List.set_cons_succ])
              refine wpAnyH_take (i := 18) (oi := ?oi219) (v := ?v219) ?hi219 (by kernel_rfl) (by kernel_rfl) (by kernel_rfl) ?hQ219 ?hy219 (by assumption) ?_
              case hi219 => (simp only [List.getElem?_toArray, List.getElem?_cons_succ, List.getElem?_cons_zero]; try rfl)
              case hQ219 => exact fun _ _ _ h => h
              case hy219 => (refine Or.inl ⟨by rfl, ?_⟩; intro wq hSw; (try dsimp only at hSw); go_simp; (try with_reducible rfl))
              (try simp only [Act.put, List.setIfInBounds_toArray, List.set_cons_zero, List.set_cons_succ])
              refine wpAnyH_take (i := 19) (oi := ?oi220) (v := undef) ?hi220 (by kernel_rfl) (by kernel_rfl) (by kernel_rfl) ?hQ220 ?hy220 (by assumption) ?_
              case hi220 => (simp only [List.getElem?_toArray, List.getElem?_cons_succ, List.getElem?_cons_zero]; try rfl)
              case hQ220 => exact fun _ _ _ h => h
              case hy220 => exact Or.inr ⟨by rfl, rfl⟩
              (try simp only [Act.put, List.setIfInBounds_toArray, List.set_cons_zero, List.set_cons_succ])
              refine wpAnyH_take (i := 20) (oi := ?oi221) (v := undef) ?hi221 (by kernel_rfl) (by kernel_rfl) (by kernel_rfl) ?hQ221 ?hy221 (by assumption) ?_
              case hi221 => (simp only [List.getElem?_toArray, List.getElem?_cons_succ, List.getElem?_cons_zero]; try rfl)
              case hQ221 => exact fun _ _ _ h => h
              case hy221 => exact Or.inr ⟨by rfl, rfl⟩
              (try simp only [Act.put, List.setIfInBounds_toArray, List.set_cons_zero, List.set_cons_succ])
              refine wpAnyH_take (i := 21) (oi := ?oi222) (v := undef) ?hi222 (by kernel_rfl) (by kernel_rfl) (by kernel_rfl) ?hQ222 ?hy222 (by assumption) ?_
              case hi222 => (simp only [List.getElem?_toArray, List.getElem?_cons_succ, List.getElem?_cons_zero]; try rfl)
              case hQ222 => exact fun _ _ _ h => h
              case hy222 => exact Or.inr ⟨by rfl, rfl⟩
              (try simp only [Act.put, List.setIfInBounds_toArray, List.set_cons_zero, List.set_cons_succ])
              refine wpAnyH_take (i := 22) (oi := ?oi223) (v := undef) ?hi223 (by kernel_rfl) (by kernel_rfl) (by kernel_rfl) ?hQ223 ?hy223 (by assumption) ?_
              case hi223 => (simp only [List.getElem?_toArray, List.getElem?_cons_succ, List.getElem?_cons_zero]; try rfl)
              case hQ223 => exact fun _ _ _ h => h
              case hy223 => exact Or.inr ⟨by rfl, rfl⟩
              (try simp only [Act.put, List.setIfInBounds_toArray, List.set_cons_zero, List.set_cons_succ])
              refine wpAnyH_take (i := 23) (oi := ?oi224) (v := undef) ?hi224 (by kernel_rfl) (by kernel_rfl) (by kernel_rfl) ?hQ224 ?hy224 (by assumption) ?_
              case hi224 => (simp only [List.getElem?_toArray, List.getElem?_cons_succ, List.getElem?_cons_zero]; try rfl)
              case hQ224 => exact fun _ _ _ h => h
              case hy224 => exact Or.inr ⟨by rfl, rfl⟩
              (try simp only [Act.put, List.setIfInBounds_toArray, List.set_cons_zero, List.set_cons_succ])
              refine wpAnyH_take (i := 24) (oi := ?oi225) (v := undef) ?hi225 (by kernel_rfl) (by kernel_rfl) (by kernel_rfl) ?hQ225 ?hy225 (by assumption) ?_
              case hi225 => (simp only [List.getElem?_toArray, List.getElem?_cons_succ, List.getElem?_cons_zero]; try rfl)
              case hQ225 => exact fun _ _ _ h => h
              case hy225 => exact Or.inr ⟨by rfl, rfl⟩
              (try simp only [Act.put, List.setIfInBounds_toArray, List.set_cons_zero, List.set_cons_succ])
              refine wpAnyH_take (i := 25) (oi := ?oi226) (v := undef) ?hi226 (by kernel_rfl) (by kernel_rfl) (by kernel_rfl) ?hQ226 ?hy226 (by assumption) ?_
              case hi226 => (simp only [List.getElem?_toArray, List.getElem?_cons_succ, List.getElem?_cons_zero]; try rfl)
              case hQ226 => exact fun _ _ _ h => h
              case hy226 => exact Or.inr ⟨by rfl, rfl⟩
              (try simp only [Act.put, List.setIfInBounds_toArray, List.set_cons_zero, List.set_cons_succ])
              refine wpAnyH_take (i := 26) (oi := ?oi227) (v := ?v227) ?hi227 (by kernel_rfl) (by kernel_rfl) (by kernel_rfl) ?hQ227 ?hy227 (by assumption) ?_
              case hi227 => (simp only [List.getElem?_toArray, List.getElem?_cons_succ, List.getElem?_cons_zero]; try rfl)
              case hQ227 => exact fun _ _ _ h => h
              case hy227 => (refine Or.inl ⟨by rfl, ?_⟩; intro wq hSw; (try dsimp only at hSw); go_simp; (try with_reducible rfl))
              (try simp only [Act.put, List.setIfInBounds_toArray, List.set_cons_zero, List.set_cons_succ])
              refine wpAnyH_done (by kernel_rfl) ?_ _
              go_wp2
              go_ret
              exact ⟨⟨false, rfl, fun h => by cases h⟩, by repeat (first | exact Ext.refl' _ | assumption | apply Ext.ex' | apply Ext.al | apply Ext.drN | apply Ext.dr)⟩
      cases ps
      · go_wp2_with fail
        refine wp_region_held_drew (S := (fun w' => w'.cell? ⟨w.heap.size, 0, none⟩ = some (.string s0) ∧ w'.cell? ⟨w.heap.size, 1, none⟩ = some (.slice A1 n1 m1) ∧ w'.cell? ⟨w.heap.size, 2, none⟩ = some (.slice K n2 kc) ∧ w'.cell? ⟨w.heap.size, 3, none⟩ = some (.slice A3 n3 m3) ∧ w'.cell? ⟨w.heap.size, 4, none⟩ = some (.slice A4 n4 m4) ∧ w'.cell? ⟨b, oo + k * 9, none⟩ = some (.int .i64 p.id) ∧ w'.cell? ⟨b, oo + k * 9 + 1, none⟩ = some (.int .i64 p.sch) ∧ w'.cell? ⟨b, oo + k * 9 + 2, none⟩ = some (.slice p.row.A p.row.l.length p.row.c) ∧ w'.cell? ⟨b, oo + k * 9 + 3, none⟩ = some (.int .i64 p.v.1) ∧ w'.cell? ⟨b, oo + k * 9 + 4, none⟩ = some (.int .i64 p.v.2) ∧ w'.cell? ⟨b, oo + k * 9 + 5, none⟩ = some (.int .i64 p.s.1) ∧ w'.cell? ⟨b, oo + k * 9 + 6, none⟩ = some (.int .i64 p.s.2) ∧ w'.cell? ⟨b, oo + k * 9 + 7, none⟩ = some (.int .i64 p.by_) ∧ w'.cell? ⟨b, oo + k * 9 + 8, none⟩ = some (.int .i64 p.un))) (by kernel_rfl) (by simp [go_sem, ↓IntWalk.iteOmega, *]) (fun hHeld => ?_)
        refine wpAnyH_take (i := 0) (oi := ?oi301) (v := ?v301) ?hi301 (by kernel_rfl) (by kernel_rfl) (by kernel_rfl) ?hQ301 ?hy301 (by assumption) ?_
        case hi301 => (simp only [List.getElem?_toArray, List.getElem?_cons_succ, List.getElem?_cons_zero]; try rfl)
        case hQ301 => exact fun _ _ _ h => h
        case hy301 => (refine Or.inl ⟨by rfl, ?_⟩; intro wq hSw; (try dsimp only at hSw); go_simp; (try with_reducible rfl))
        (try simp only [Act.put, List.setIfInBounds_toArray, List.set_cons_zero, List.set_cons_succ])
        refine wpAnyH_take (i := 1) (oi := ?oi302) (v := ?v302) ?hi302 (by kernel_rfl) (by kernel_rfl) (by kernel_rfl) ?hQ302 ?hy302 (by assumption) ?_
        case hi302 => (simp only [List.getElem?_toArray, List.getElem?_cons_succ, List.getElem?_cons_zero]; try rfl)
        case hQ302 => exact fun _ _ _ h => h
        case hy302 => (refine Or.inl ⟨by rfl, ?_⟩; intro wq hSw; (try dsimp only at hSw); go_simp; (try with_reducible rfl))
        (try simp only [Act.put, List.setIfInBounds_toArray, List.set_cons_zero, List.set_cons_succ])
        refine wpAnyH_take (i := 2) (oi := ?oi303) (v := ?v303) ?hi303 (by kernel_rfl) (by kernel_rfl) (by kernel_rfl) ?hQ303 ?hy303 (by assumption) ?_
        case hi303 => (simp only [List.getElem?_toArray, List.getElem?_cons_succ, List.getElem?_cons_zero]; try rfl)
        case hQ303 => exact fun _ _ _ h => h
        case hy303 => (refine Or.inl ⟨by rfl, ?_⟩; intro wq hSw; (try dsimp only at hSw); go_simp; (try with_reducible rfl))
        (try simp only [Act.put, List.setIfInBounds_toArray, List.set_cons_zero, List.set_cons_succ])
        refine wpAnyH_take (i := 3) (oi := ?oi304) (v := ?v304) ?hi304 (by kernel_rfl) (by kernel_rfl) (by kernel_rfl) ?hQ304 ?hy304 (by assumption) ?_
        case hi304 => (simp only [List.getElem?_toArray, List.getElem?_cons_succ, List.getElem?_cons_zero]; try rfl)
        case hQ304 => exact fun _ _ _ h => h
        case hy304 => (refine Or.inl ⟨by rfl, ?_⟩; intro wq hSw; (try dsimp only at hSw); go_simp; (try with_reducible rfl))
        (try simp only [Act.put, List.setIfInBounds_toArray, List.set_cons_zero, List.set_cons_succ])
        refine wpAnyH_take (i := 4) (oi := ?oi305) (v := ?v305) ?hi305 (by kernel_rfl) (by kernel_rfl) (by kernel_rfl) ?hQ305 ?hy305 (by assumption) ?_
        case hi305 => (simp only [List.getElem?_toArray, List.getElem?_cons_succ, List.getElem?_cons_zero]; try rfl)
        case hQ305 => exact fun _ _ _ h => h
        case hy305 => (refine Or.inl ⟨by rfl, ?_⟩; intro wq hSw; (try dsimp only at hSw); go_simp; (try with_reducible rfl))
        (try simp only [Act.put, List.setIfInBounds_toArray, List.set_cons_zero, List.set_cons_succ])
        refine wpAnyH_take (i := 5) (oi := ?oi306) (v := ?v306) ?hi306 (by kernel_rfl) (by kernel_rfl) (by kernel_rfl) ?hQ306 ?hy306 (by assumption) ?_
        case hi306 => (simp only [List.getElem?_toArray, List.getElem?_cons_succ, List.getElem?_cons_zero]; try rfl)
        case hQ306 => exact fun _ _ _ h => h
        case hy306 => (refine Or.inl ⟨by rfl, ?_⟩; intro wq hSw; (try dsimp only at hSw); go_simp; (try with_reducible rfl))
        (try simp only [Act.put, List.setIfInBounds_toArray, List.set_cons_zero, List.set_cons_succ])
        refine wpAnyH_ready (rs := [6]) (by kernel_rfl) (by simp) ?_
        refine AllReadyH.cons (o := ?oi307) ?hi307 ?ti307 AllReadyH.nil
        case hi307 => (simp only [List.getElem?_toArray, List.getElem?_cons_succ, List.getElem?_cons_zero]; try rfl)
        case ti307 =>
          intro KQ hKQ
          go_simp
          go_at_call 13
          refine Calls.mono (HKI.out _ (by repeat (first | exact Ext.refl' _ | assumption | apply Ext.ex' | apply Ext.al | apply Ext.drN | apply Ext.dr))) ?_
          rintro e w1 ⟨⟨Ak, ck, rfl, HRK⟩, hb1⟩
          obtain ⟨x1, rfl⟩ := hb1.get
          clear hb1
          refine hKQ.out _ _ (by simp [go_sem, ↓IntWalk.iteOmega, *]) (fun hHeld2 => ?_)
          clear hHeld hKQ KQ; have hHeld := hHeld2; clear hHeld2
          (try simp only [Act.put, List.setIfInBounds_toArray, List.set_cons_zero, List.set_cons_succ])
          refine wpAnyH_ready (rs := [7]) (by kernel_rfl) (by simp) ?_
          refine AllReadyH.cons (o := ?oi308) ?hi308 ?ti308 AllReadyH.nil
          case hi308 => (simp only [List.getElem?_toArray, List.getElem?_cons_succ, List.getElem?_cons_zero]; try rfl)
          case ti308 =>
            intro KQ hKQ
            go_simp
            go_at_call 31
            refine Calls.mono (HFI.out _ (by repeat (first | exact Ext.refl' _ | assumption | apply Ext.ex' | apply Ext.al | apply Ext.drN | apply Ext.dr)) Ak ck (HRK.out.ext (by repeat (first | exact Ext.refl' _ | assumption | apply Ext.ex' | apply Ext.al | apply Ext.drN | apply Ext.dr)))) ?_
            rintro e w1 ⟨rfl, hb1⟩
            obtain ⟨x2, rfl⟩ := hb1.get
            clear hb1
            refine hKQ.out _ _ (by simp [go_sem, ↓IntWalk.iteOmega, *]) (fun hHeld2 => ?_)
            clear hHeld hKQ KQ; have hHeld := hHeld2; clear hHeld2
            (try simp only [Act.put, List.setIfInBounds_toArray, List.set_cons_zero, List.set_cons_succ])
            refine wpAnyH_take (i := 8) (oi := ?oi309) (v := ?v309) ?hi309 (by kernel_rfl) (by kernel_rfl) (by kernel_rfl) ?hQ309 ?hy309 (by assumption) ?_
            case hi309 => (simp only [List.getElem?_toArray, List.getElem?_cons_succ, List.getElem?_cons_zero]; try rfl)
            case hQ309 => exact fun _ _ _ h => h
            case hy309 => (refine Or.inl ⟨by rfl, ?_⟩; intro wq hSw; (try dsimp only at hSw); go_simp; (try with_reducible rfl))
            (try simp only [Act.put, List.setIfInBounds_toArray, List.set_cons_zero, List.set_cons_succ])
            refine wpAnyH_take (i := 9) (oi := ?oi310) (v := ?v310) ?hi310 (by kernel_rfl) (by kernel_rfl) (by kernel_rfl) ?hQ310 ?hy310 (by assumption) ?_
            case hi310 => (simp only [List.getElem?_toArray, List.getElem?_cons_succ, List.getElem?_cons_zero]; try rfl)
            case hQ310 => exact fun _ _ _ h => h
            case hy310 => (refine Or.inl ⟨by rfl, ?_⟩; intro wq hSw; (try dsimp only at hSw); go_simp; (try with_reducible rfl))
            (try simp only [Act.put, List.setIfInBounds_toArray, List.set_cons_zero, List.set_cons_succ])
            refine wpAnyH_take (i := 10) (oi := ?oi311) (v := ?v311) ?hi311 (by kernel_rfl) (by kernel_rfl) (by kernel_rfl) ?hQ311 ?hy311 (by assumption) ?_
            case hi311 => (simp only [List.getElem?_toArray, List.getElem?_cons_succ, List.getElem?_cons_zero]; try rfl)
            case hQ311 => exact fun _ _ _ h => h
            case hy311 => (refine Or.inl ⟨by rfl, ?_⟩; intro wq hSw; (try dsimp only at hSw); go_simp; (try with_reducible rfl))
            (try simp only [Act.put, List.setIfInBounds_toArray, List.set_cons_zero, List.set_cons_succ])
            refine wpAnyH_take (i := 11) (oi := ?oi312) (v := ?v312) ?hi312 (by kernel_rfl) (by kernel_rfl) (by kernel_rfl) ?hQ312 ?hy312 (by assumption) ?_
            case hi312 => (simp only [List.getElem?_toArray, List.getElem?_cons_succ, List.getElem?_cons_zero]; try rfl)
            case hQ312 => exact fun _ _ _ h => h
            case hy312 => (refine Or.inl ⟨by rfl, ?_⟩; intro wq hSw; (try dsimp only at hSw); go_simp; (try with_reducible rfl))
            (try simp only [Act.put, List.setIfInBounds_toArray, List.set_cons_zero, List.set_cons_succ])
            refine wpAnyH_take (i := 12) (oi := ?oi313) (v := ?v313) ?hi313 (by kernel_rfl) (by kernel_rfl) (by kernel_rfl) ?hQ313 ?hy313 (by assumption) ?_
            case hi313 => (simp only [List.getElem?_toArray, List.getElem?_cons_succ, List.getElem?_cons_zero]; try rfl)
            case hQ313 => exact fun _ _ _ h => h
            case hy313 => (refine Or.inl ⟨by rfl, ?_⟩; intro wq hSw; (try dsimp only at hSw); go_simp; (try with_reducible rfl))
            (try simp only [Act.put, List.setIfInBounds_toArray, List.set_cons_zero, List.set_cons_succ])
            refine wpAnyH_take (i := 13) (oi := ?oi314) (v := ?v314) ?hi314 (by kernel_rfl) (by kernel_rfl) (by kernel_rfl) ?hQ314 ?hy314 (by assumption) ?_
            case hi314 => (simp only [List.getElem?_toArray, List.getElem?_cons_succ, List.getElem?_cons_zero]; try rfl)
            case hQ314 => exact fun _ _ _ h => h
            case hy314 => (refine Or.inl ⟨by rfl, ?_⟩; intro wq hSw; (try dsimp only at hSw); go_simp; (try with_reducible rfl))
            (try simp only [Act.put, List.setIfInBounds_toArray, List.set_cons_zero, List.set_cons_succ])
            refine wpAnyH_take (i := 14) (oi := ?oi315) (v := ?v315) ?hi315 (by kernel_rfl) (by kernel_rfl) (by kernel_rfl) ?hQ315 ?hy315 (by assumption) ?_
            case hi315 => (simp only [List.getElem?_toArray, List.getElem?_cons_succ, List.getElem?_cons_zero]; try rfl)
            case hQ315 => exact fun _ _ _ h => h
            case hy315 => (refine Or.inl ⟨by rfl, ?_⟩; intro wq hSw; (try dsimp only at hSw); go_simp; (try with_reducible rfl))
            (try simp only [Act.put, List.setIfInBounds_toArray, List.set_cons_zero, List.set_cons_succ])
            refine wpAnyH_ready (rs := [15]) (by kernel_rfl) (by simp) ?_
            refine AllReadyH.cons (o := ?oi316) ?hi316 ?ti316 AllReadyH.nil
            case hi316 => (simp only [List.getElem?_toArray, List.getElem?_cons_succ, List.getElem?_cons_zero]; try rfl)
            case ti316 =>
              intro KQ hKQ
              go_simp
              go_at_call 15
              refine Calls.mono (HPV.out _) ?_
              rintro e w1 ⟨rfl, hb1⟩
              obtain ⟨x3, rfl⟩ := hb1.get
              clear hb1
              refine hKQ.out _ _ (by simp [go_sem, ↓IntWalk.iteOmega, *]) (fun hHeld2 => ?_)
              clear hHeld hKQ KQ; have hHeld := hHeld2; clear hHeld2
              (try simp only [Act.put, List.setIfInBounds_toArray, List.set_cons_zero, List.set_cons_succ])
              refine wpAnyH_take (i := 16) (oi := ?oi317) (v := ?v317) ?hi317 (by kernel_rfl) (by kernel_rfl) (by kernel_rfl) ?hQ317 ?hy317 (by assumption) ?_
              case hi317 => (simp only [List.getElem?_toArray, List.getElem?_cons_succ, List.getElem?_cons_zero]; try rfl)
              case hQ317 => exact fun _ _ _ h => h
              case hy317 => (refine Or.inl ⟨by rfl, ?_⟩; intro wq hSw; (try dsimp only at hSw); go_simp; (try with_reducible rfl))
              (try simp only [Act.put, List.setIfInBounds_toArray, List.set_cons_zero, List.set_cons_succ])
              refine wpAnyH_take (i := 17) (oi := ?oi318) (v := ?v318) ?hi318 (by kernel_rfl) (by kernel_rfl) (by kernel_rfl) ?hQ318 ?hy318 (by assumption) ?_
              case hi318 => (simp only [List.getElem?_toArray, List.getElem?_cons_succ, List.getElem?_cons_zero]; try rfl)
              case hQ318 => exact fun _ _ _ h => h
              case hy318 => (refine Or.inl ⟨by rfl, ?_⟩; intro wq hSw; (try dsimp only at hSw); go_simp; (try with_reducible rfl))
              (try simp only [Act.put, List.setIfInBounds_toArray, List.set_cons_zero, List.set_cons_succ])
              refine wpAnyH_take (i := 18) (oi := ?oi319) (v := ?v319) ?hi319 (by kernel_rfl) (by kernel_rfl) (by kernel_rfl) ?hQ319 ?hy319 (by assumption) ?_
              case hi319 => (simp only [List.getElem?_toArray, List.getElem?_cons_succ, List.getElem?_cons_zero]; try rfl)
              case hQ319 => exact fun _ _ _ h => h
              case hy319 => (refine Or.inl ⟨by rfl, ?_⟩; intro wq hSw; (try dsimp only at hSw); go_simp; (try with_reducible rfl))
              (try simp only [Act.put, List.setIfInBounds_toArray, List.set_cons_zero, List.set_cons_succ])
              refine wpAnyH_take (i := 19) (oi := ?oi320) (v := ?v320) ?hi320 (by kernel_rfl) (by kernel_rfl) (by kernel_rfl) ?hQ320 ?hy320 (by assumption) ?_
              case hi320 => (simp only [List.getElem?_toArray, List.getElem?_cons_succ, List.getElem?_cons_zero]; try rfl)
              case hQ320 => exact fun _ _ _ h => h
              case hy320 => (refine Or.inl ⟨by rfl, ?_⟩; intro wq hSw; (try dsimp only at hSw); go_simp; (try with_reducible rfl))
              (try simp only [Act.put, List.setIfInBounds_toArray, List.set_cons_zero, List.set_cons_succ])
              refine wpAnyH_take (i := 20) (oi := ?oi321) (v := ?v321) ?hi321 (by kernel_rfl) (by kernel_rfl) (by kernel_rfl) ?hQ321 ?hy321 (by assumption) ?_
              case hi321 => (simp only [List.getElem?_toArray, List.getElem?_cons_succ, List.getElem?_cons_zero]; try rfl)
              case hQ321 => exact fun _ _ _ h => h
              case hy321 => (refine Or.inl ⟨by rfl, ?_⟩; intro wq hSw; (try dsimp only at hSw); go_simp; (try with_reducible rfl))
              (try simp only [Act.put, List.setIfInBounds_toArray, List.set_cons_zero, List.set_cons_succ])
              refine wpAnyH_take (i := 21) (oi := ?oi322) (v := ?v322) ?hi322 (by kernel_rfl) (by kernel_rfl) (by kernel_rfl) ?hQ322 ?hy322 (by assumption) ?_
              case hi322 => (simp only [List.getElem?_toArray, List.getElem?_cons_succ, List.getElem?_cons_zero]; try rfl)
              case hQ322 => exact fun _ _ _ h => h
              case hy322 => (refine Or.inl ⟨by rfl, ?_⟩; intro wq hSw; (try dsimp only at hSw); go_simp; (try with_reducible rfl))
              (try simp only [Act.put, List.setIfInBounds_toArray, List.set_cons_zero, List.set_cons_succ])
              refine wpAnyH_take (i := 22) (oi := ?oi323) (v := ?v323) ?hi323 (by kernel_rfl) (by kernel_rfl) (by kernel_rfl) ?hQ323 ?hy323 (by assumption) ?_
              case hi323 => (simp only [List.getElem?_toArray, List.getElem?_cons_succ, List.getElem?_cons_zero]; try rfl)
              case hQ323 => exact fun _ _ _ h => h
              case hy323 => (refine Or.inl ⟨by rfl, ?_⟩; intro wq hSw; (try dsimp only at hSw); go_simp; (try with_reducible rfl))
              (try simp only [Act.put, List.setIfInBounds_toArray, List.set_cons_zero, List.set_cons_succ])
              refine wpAnyH_take (i := 23) (oi := ?oi324) (v := ?v324) ?hi324 (by kernel_rfl) (by kernel_rfl) (by kernel_rfl) ?hQ324 ?hy324 (by assumption) ?_
              case hi324 => (simp only [List.getElem?_toArray, List.getElem?_cons_succ, List.getElem?_cons_zero]; try rfl)
              case hQ324 => exact fun _ _ _ h => h
              case hy324 => (refine Or.inl ⟨by rfl, ?_⟩; intro wq hSw; (try dsimp only at hSw); go_simp; (try with_reducible rfl))
              (try simp only [Act.put, List.setIfInBounds_toArray, List.set_cons_zero, List.set_cons_succ])
              refine wpAnyH_ready (rs := [24]) (by kernel_rfl) (by simp) ?_
              refine AllReadyH.cons (o := ?oi325) ?hi325 ?ti325 AllReadyH.nil
              case hi325 => (simp only [List.getElem?_toArray, List.getElem?_cons_succ, List.getElem?_cons_zero]; try rfl)
              case ti325 =>
                intro KQ hKQ
                go_simp
                go_at_call 15
                refine Calls.mono (HPS.out _) ?_
                rintro e w1 ⟨rfl, hb1⟩
                obtain ⟨x4, rfl⟩ := hb1.get
                clear hb1
                refine hKQ.out _ _ (by simp [go_sem, ↓IntWalk.iteOmega, *]) (fun hHeld2 => ?_)
                clear hHeld hKQ KQ; have hHeld := hHeld2; clear hHeld2
                (try simp only [Act.put, List.setIfInBounds_toArray, List.set_cons_zero, List.set_cons_succ])
                refine wpAnyH_take (i := 25) (oi := ?oi326) (v := ?v326) ?hi326 (by kernel_rfl) (by kernel_rfl) (by kernel_rfl) ?hQ326 ?hy326 (by assumption) ?_
                case hi326 => (simp only [List.getElem?_toArray, List.getElem?_cons_succ, List.getElem?_cons_zero]; try rfl)
                case hQ326 => exact fun _ _ _ h => h
                case hy326 => (refine Or.inl ⟨by rfl, ?_⟩; intro wq hSw; (try dsimp only at hSw); go_simp; (try with_reducible rfl))
                (try simp only [Act.put, List.setIfInBounds_toArray, List.set_cons_zero, List.set_cons_succ])
                refine wpAnyH_take (i := 26) (oi := ?oi327) (v := ?v327) ?hi327 (by kernel_rfl) (by kernel_rfl) (by kernel_rfl) ?hQ327 ?hy327 (by assumption) ?_
                case hi327 => (simp only [List.getElem?_toArray, List.getElem?_cons_succ, List.getElem?_cons_zero]; try rfl)
                case hQ327 => exact fun _ _ _ h => h
                case hy327 => (refine Or.inl ⟨by rfl, ?_⟩; intro wq hSw; (try dsimp only at hSw); go_simp; (try with_reducible rfl))
                (try simp only [Act.put, List.setIfInBounds_toArray, List.set_cons_zero, List.set_cons_succ])
                refine wpAnyH_done (by kernel_rfl) ?_ _
                go_wp2
                go_ret
                exact ⟨⟨false, rfl, fun h => by cases h⟩, by repeat (first | exact Ext.refl' _ | assumption | apply Ext.ex' | apply Ext.al | apply Ext.drN | apply Ext.dr)⟩
      have HOK : Hid (okV kl p) := Lib.hid HOE.out
      go_wp2_with fail
      refine wp_region_held_drew (S := (fun w' => w'.cell? ⟨w.heap.size, 0, none⟩ = some (.string s0) ∧ w'.cell? ⟨w.heap.size, 1, none⟩ = some (.slice A1 n1 m1) ∧ w'.cell? ⟨w.heap.size, 2, none⟩ = some (.slice K n2 kc) ∧ w'.cell? ⟨w.heap.size, 3, none⟩ = some (.slice A3 n3 m3) ∧ w'.cell? ⟨w.heap.size, 4, none⟩ = some (.slice A4 n4 m4) ∧ w'.cell? ⟨b, oo + k * 9, none⟩ = some (.int .i64 p.id) ∧ w'.cell? ⟨b, oo + k * 9 + 1, none⟩ = some (.int .i64 p.sch) ∧ w'.cell? ⟨b, oo + k * 9 + 2, none⟩ = some (.slice p.row.A p.row.l.length p.row.c) ∧ w'.cell? ⟨b, oo + k * 9 + 3, none⟩ = some (.int .i64 p.v.1) ∧ w'.cell? ⟨b, oo + k * 9 + 4, none⟩ = some (.int .i64 p.v.2) ∧ w'.cell? ⟨b, oo + k * 9 + 5, none⟩ = some (.int .i64 p.s.1) ∧ w'.cell? ⟨b, oo + k * 9 + 6, none⟩ = some (.int .i64 p.s.2) ∧ w'.cell? ⟨b, oo + k * 9 + 7, none⟩ = some (.int .i64 p.by_) ∧ w'.cell? ⟨b, oo + k * 9 + 8, none⟩ = some (.int .i64 p.un))) (by kernel_rfl) (by simp [go_sem, ↓IntWalk.iteOmega, *]) (fun hHeld => ?_)
      refine wpAnyH_take (i := 0) (oi := ?oi401) (v := ?v401) ?hi401 (by kernel_rfl) (by kernel_rfl) (by kernel_rfl) ?hQ401 ?hy401 (by assumption) ?_
      case hi401 => (simp only [List.getElem?_toArray, List.getElem?_cons_succ, List.getElem?_cons_zero]; try rfl)
      case hQ401 => exact fun _ _ _ h => h
      case hy401 => (refine Or.inl ⟨by rfl, ?_⟩; intro wq hSw; (try dsimp only at hSw); go_simp; (try with_reducible rfl))
      (try simp only [Act.put, List.setIfInBounds_toArray, List.set_cons_zero, List.set_cons_succ])
      refine wpAnyH_take (i := 1) (oi := ?oi402) (v := ?v402) ?hi402 (by kernel_rfl) (by kernel_rfl) (by kernel_rfl) ?hQ402 ?hy402 (by assumption) ?_
      case hi402 => (simp only [List.getElem?_toArray, List.getElem?_cons_succ, List.getElem?_cons_zero]; try rfl)
      case hQ402 => exact fun _ _ _ h => h
      case hy402 => (refine Or.inl ⟨by rfl, ?_⟩; intro wq hSw; (try dsimp only at hSw); go_simp; (try with_reducible rfl))
      (try simp only [Act.put, List.setIfInBounds_toArray, List.set_cons_zero, List.set_cons_succ])
      refine wpAnyH_take (i := 2) (oi := ?oi403) (v := ?v403) ?hi403 (by kernel_rfl) (by kernel_rfl) (by kernel_rfl) ?hQ403 ?hy403 (by assumption) ?_
      case hi403 => (simp only [List.getElem?_toArray, List.getElem?_cons_succ, List.getElem?_cons_zero]; try rfl)
      case hQ403 => exact fun _ _ _ h => h
      case hy403 => (refine Or.inl ⟨by rfl, ?_⟩; intro wq hSw; (try dsimp only at hSw); go_simp; (try with_reducible rfl))
      (try simp only [Act.put, List.setIfInBounds_toArray, List.set_cons_zero, List.set_cons_succ])
      refine wpAnyH_take (i := 3) (oi := ?oi404) (v := ?v404) ?hi404 (by kernel_rfl) (by kernel_rfl) (by kernel_rfl) ?hQ404 ?hy404 (by assumption) ?_
      case hi404 => (simp only [List.getElem?_toArray, List.getElem?_cons_succ, List.getElem?_cons_zero]; try rfl)
      case hQ404 => exact fun _ _ _ h => h
      case hy404 => (refine Or.inl ⟨by rfl, ?_⟩; intro wq hSw; (try dsimp only at hSw); go_simp; (try with_reducible rfl))
      (try simp only [Act.put, List.setIfInBounds_toArray, List.set_cons_zero, List.set_cons_succ])
      refine wpAnyH_take (i := 4) (oi := ?oi405) (v := ?v405) ?hi405 (by kernel_rfl) (by kernel_rfl) (by kernel_rfl) ?hQ405 ?hy405 (by assumption) ?_
      case hi405 => (simp only [List.getElem?_toArray, List.getElem?_cons_succ, List.getElem?_cons_zero]; try rfl)
      case hQ405 => exact fun _ _ _ h => h
      case hy405 => (refine Or.inl ⟨by rfl, ?_⟩; intro wq hSw; (try dsimp only at hSw); go_simp; (try with_reducible rfl))
      (try simp only [Act.put, List.setIfInBounds_toArray, List.set_cons_zero, List.set_cons_succ])
      refine wpAnyH_take (i := 5) (oi := ?oi406) (v := ?v406) ?hi406 (by kernel_rfl) (by kernel_rfl) (by kernel_rfl) ?hQ406 ?hy406 (by assumption) ?_
      case hi406 => (simp only [List.getElem?_toArray, List.getElem?_cons_succ, List.getElem?_cons_zero]; try rfl)
      case hQ406 => exact fun _ _ _ h => h
      case hy406 => (refine Or.inl ⟨by rfl, ?_⟩; intro wq hSw; (try dsimp only at hSw); go_simp; (try with_reducible rfl))
      (try simp only [Act.put, List.setIfInBounds_toArray, List.set_cons_zero, List.set_cons_succ])
      refine wpAnyH_ready (rs := [6]) (by kernel_rfl) (by simp) ?_
      refine AllReadyH.cons (o := ?oi407) ?hi407 ?ti407 AllReadyH.nil
      case hi407 => (simp only [List.getElem?_toArray, List.getElem?_cons_succ, List.getElem?_cons_zero]; try rfl)
      case ti407 =>
        intro KQ hKQ
        go_simp
        go_at_call 13
        refine Calls.mono (HKI.out _ (by repeat (first | exact Ext.refl' _ | assumption | apply Ext.ex' | apply Ext.al | apply Ext.drN | apply Ext.dr))) ?_
        rintro e w1 ⟨⟨Ak, ck, rfl, HRK⟩, hb1⟩
        obtain ⟨x1, rfl⟩ := hb1.get
        clear hb1
        refine hKQ.out _ _ (by simp [go_sem, ↓IntWalk.iteOmega, *]) (fun hHeld2 => ?_)
        clear hHeld hKQ KQ; have hHeld := hHeld2; clear hHeld2
        (try simp only [Act.put, List.setIfInBounds_toArray, List.set_cons_zero, List.set_cons_succ])
        refine wpAnyH_ready (rs := [7]) (by kernel_rfl) (by simp) ?_
        refine AllReadyH.cons (o := ?oi408) ?hi408 ?ti408 AllReadyH.nil
        case hi408 => (simp only [List.getElem?_toArray, List.getElem?_cons_succ, List.getElem?_cons_zero]; try rfl)
        case ti408 =>
          intro KQ hKQ
          go_simp
          go_at_call 31
          refine Calls.mono (HFI.out _ (by repeat (first | exact Ext.refl' _ | assumption | apply Ext.ex' | apply Ext.al | apply Ext.drN | apply Ext.dr)) Ak ck (HRK.out.ext (by repeat (first | exact Ext.refl' _ | assumption | apply Ext.ex' | apply Ext.al | apply Ext.drN | apply Ext.dr)))) ?_
          rintro e w1 ⟨rfl, hb1⟩
          obtain ⟨x2, rfl⟩ := hb1.get
          clear hb1
          refine hKQ.out _ _ (by simp [go_sem, ↓IntWalk.iteOmega, *]) (fun hHeld2 => ?_)
          clear hHeld hKQ KQ; have hHeld := hHeld2; clear hHeld2
          (try simp only [Act.put, List.setIfInBounds_toArray, List.set_cons_zero, List.set_cons_succ])
          refine wpAnyH_take (i := 8) (oi := ?oi409) (v := ?v409) ?hi409 (by kernel_rfl) (by kernel_rfl) (by kernel_rfl) ?hQ409 ?hy409 (by assumption) ?_
          case hi409 => (simp only [List.getElem?_toArray, List.getElem?_cons_succ, List.getElem?_cons_zero]; try rfl)
          case hQ409 => exact fun _ _ _ h => h
          case hy409 => (refine Or.inl ⟨by rfl, ?_⟩; intro wq hSw; (try dsimp only at hSw); go_simp; (try with_reducible rfl))
          (try simp only [Act.put, List.setIfInBounds_toArray, List.set_cons_zero, List.set_cons_succ])
          refine wpAnyH_take (i := 9) (oi := ?oi410) (v := ?v410) ?hi410 (by kernel_rfl) (by kernel_rfl) (by kernel_rfl) ?hQ410 ?hy410 (by assumption) ?_
          case hi410 => (simp only [List.getElem?_toArray, List.getElem?_cons_succ, List.getElem?_cons_zero]; try rfl)
          case hQ410 => exact fun _ _ _ h => h
          case hy410 => (refine Or.inl ⟨by rfl, ?_⟩; intro wq hSw; (try dsimp only at hSw); go_simp; (try with_reducible rfl))
          (try simp only [Act.put, List.setIfInBounds_toArray, List.set_cons_zero, List.set_cons_succ])
          refine wpAnyH_take (i := 10) (oi := ?oi411) (v := ?v411) ?hi411 (by kernel_rfl) (by kernel_rfl) (by kernel_rfl) ?hQ411 ?hy411 (by assumption) ?_
          case hi411 => (simp only [List.getElem?_toArray, List.getElem?_cons_succ, List.getElem?_cons_zero]; try rfl)
          case hQ411 => exact fun _ _ _ h => h
          case hy411 => (refine Or.inl ⟨by rfl, ?_⟩; intro wq hSw; (try dsimp only at hSw); go_simp; (try with_reducible rfl))
          (try simp only [Act.put, List.setIfInBounds_toArray, List.set_cons_zero, List.set_cons_succ])
          refine wpAnyH_take (i := 11) (oi := ?oi412) (v := ?v412) ?hi412 (by kernel_rfl) (by kernel_rfl) (by kernel_rfl) ?hQ412 ?hy412 (by assumption) ?_
          case hi412 => (simp only [List.getElem?_toArray, List.getElem?_cons_succ, List.getElem?_cons_zero]; try rfl)
          case hQ412 => exact fun _ _ _ h => h
          case hy412 => (refine Or.inl ⟨by rfl, ?_⟩; intro wq hSw; (try dsimp only at hSw); go_simp; (try with_reducible rfl))
          (try simp only [Act.put, List.setIfInBounds_toArray, List.set_cons_zero, List.set_cons_succ])
          refine wpAnyH_take (i := 12) (oi := ?oi413) (v := ?v413) ?hi413 (by kernel_rfl) (by kernel_rfl) (by kernel_rfl) ?hQ413 ?hy413 (by assumption) ?_
          case hi413 => (simp only [List.getElem?_toArray, List.getElem?_cons_succ, List.getElem?_cons_zero]; try rfl)
          case hQ413 => exact fun _ _ _ h => h
          case hy413 => (refine Or.inl ⟨by rfl, ?_⟩; intro wq hSw; (try dsimp only at hSw); go_simp; (try with_reducible rfl))
          (try simp only [Act.put, List.setIfInBounds_toArray, List.set_cons_zero, List.set_cons_succ])
          refine wpAnyH_take (i := 13) (oi := ?oi414) (v := ?v414) ?hi414 (by kernel_rfl) (by kernel_rfl) (by kernel_rfl) ?hQ414 ?hy414 (by assumption) ?_
          case hi414 => (simp only [List.getElem?_toArray, List.getElem?_cons_succ, List.getElem?_cons_zero]; try rfl)
          case hQ414 => exact fun _ _ _ h => h
          case hy414 => (refine Or.inl ⟨by rfl, ?_⟩; intro wq hSw; (try dsimp only at hSw); go_simp; (try with_reducible rfl))
          (try simp only [Act.put, List.setIfInBounds_toArray, List.set_cons_zero, List.set_cons_succ])
          refine wpAnyH_take (i := 14) (oi := ?oi415) (v := ?v415) ?hi415 (by kernel_rfl) (by kernel_rfl) (by kernel_rfl) ?hQ415 ?hy415 (by assumption) ?_
          case hi415 => (simp only [List.getElem?_toArray, List.getElem?_cons_succ, List.getElem?_cons_zero]; try rfl)
          case hQ415 => exact fun _ _ _ h => h
          case hy415 => (refine Or.inl ⟨by rfl, ?_⟩; intro wq hSw; (try dsimp only at hSw); go_simp; (try with_reducible rfl))
          (try simp only [Act.put, List.setIfInBounds_toArray, List.set_cons_zero, List.set_cons_succ])
          refine wpAnyH_ready (rs := [15]) (by kernel_rfl) (by simp) ?_
          refine AllReadyH.cons (o := ?oi416) ?hi416 ?ti416 AllReadyH.nil
          case hi416 => (simp only [List.getElem?_toArray, List.getElem?_cons_succ, List.getElem?_cons_zero]; try rfl)
          case ti416 =>
            intro KQ hKQ
            go_simp
            go_at_call 15
            refine Calls.mono (HPV.out _) ?_
            rintro e w1 ⟨rfl, hb1⟩
            obtain ⟨x3, rfl⟩ := hb1.get
            clear hb1
            refine hKQ.out _ _ (by simp [go_sem, ↓IntWalk.iteOmega, *]) (fun hHeld2 => ?_)
            clear hHeld hKQ KQ; have hHeld := hHeld2; clear hHeld2
            (try simp only [Act.put, List.setIfInBounds_toArray, List.set_cons_zero, List.set_cons_succ])
            refine wpAnyH_take (i := 16) (oi := ?oi417) (v := ?v417) ?hi417 (by kernel_rfl) (by kernel_rfl) (by kernel_rfl) ?hQ417 ?hy417 (by assumption) ?_
            case hi417 => (simp only [List.getElem?_toArray, List.getElem?_cons_succ, List.getElem?_cons_zero]; try rfl)
            case hQ417 => exact fun _ _ _ h => h
            case hy417 => (refine Or.inl ⟨by rfl, ?_⟩; intro wq hSw; (try dsimp only at hSw); go_simp; (try with_reducible rfl))
            (try simp only [Act.put, List.setIfInBounds_toArray, List.set_cons_zero, List.set_cons_succ])
            refine wpAnyH_take (i := 17) (oi := ?oi418) (v := ?v418) ?hi418 (by kernel_rfl) (by kernel_rfl) (by kernel_rfl) ?hQ418 ?hy418 (by assumption) ?_
            case hi418 => (simp only [List.getElem?_toArray, List.getElem?_cons_succ, List.getElem?_cons_zero]; try rfl)
            case hQ418 => exact fun _ _ _ h => h
            case hy418 => (refine Or.inl ⟨by rfl, ?_⟩; intro wq hSw; (try dsimp only at hSw); go_simp; (try with_reducible rfl))
            (try simp only [Act.put, List.setIfInBounds_toArray, List.set_cons_zero, List.set_cons_succ])
            refine wpAnyH_take (i := 18) (oi := ?oi419) (v := ?v419) ?hi419 (by kernel_rfl) (by kernel_rfl) (by kernel_rfl) ?hQ419 ?hy419 (by assumption) ?_
            case hi419 => (simp only [List.getElem?_toArray, List.getElem?_cons_succ, List.getElem?_cons_zero]; try rfl)
            case hQ419 => exact fun _ _ _ h => h
            case hy419 => (refine Or.inl ⟨by rfl, ?_⟩; intro wq hSw; (try dsimp only at hSw); go_simp; (try with_reducible rfl))
            (try simp only [Act.put, List.setIfInBounds_toArray, List.set_cons_zero, List.set_cons_succ])
            refine wpAnyH_take (i := 19) (oi := ?oi420) (v := ?v420) ?hi420 (by kernel_rfl) (by kernel_rfl) (by kernel_rfl) ?hQ420 ?hy420 (by assumption) ?_
            case hi420 => (simp only [List.getElem?_toArray, List.getElem?_cons_succ, List.getElem?_cons_zero]; try rfl)
            case hQ420 => exact fun _ _ _ h => h
            case hy420 => (refine Or.inl ⟨by rfl, ?_⟩; intro wq hSw; (try dsimp only at hSw); go_simp; (try with_reducible rfl))
            (try simp only [Act.put, List.setIfInBounds_toArray, List.set_cons_zero, List.set_cons_succ])
            refine wpAnyH_take (i := 20) (oi := ?oi421) (v := ?v421) ?hi421 (by kernel_rfl) (by kernel_rfl) (by kernel_rfl) ?hQ421 ?hy421 (by assumption) ?_
            case hi421 => (simp only [List.getElem?_toArray, List.getElem?_cons_succ, List.getElem?_cons_zero]; try rfl)
            case hQ421 => exact fun _ _ _ h => h
            case hy421 => (refine Or.inl ⟨by rfl, ?_⟩; intro wq hSw; (try dsimp only at hSw); go_simp; (try with_reducible rfl))
            (try simp only [Act.put, List.setIfInBounds_toArray, List.set_cons_zero, List.set_cons_succ])
            refine wpAnyH_take (i := 21) (oi := ?oi422) (v := ?v422) ?hi422 (by kernel_rfl) (by kernel_rfl) (by kernel_rfl) ?hQ422 ?hy422 (by assumption) ?_
            case hi422 => (simp only [List.getElem?_toArray, List.getElem?_cons_succ, List.getElem?_cons_zero]; try rfl)
            case hQ422 => exact fun _ _ _ h => h
            case hy422 => (refine Or.inl ⟨by rfl, ?_⟩; intro wq hSw; (try dsimp only at hSw); go_simp; (try with_reducible rfl))
            (try simp only [Act.put, List.setIfInBounds_toArray, List.set_cons_zero, List.set_cons_succ])
            refine wpAnyH_take (i := 22) (oi := ?oi423) (v := ?v423) ?hi423 (by kernel_rfl) (by kernel_rfl) (by kernel_rfl) ?hQ423 ?hy423 (by assumption) ?_
            case hi423 => (simp only [List.getElem?_toArray, List.getElem?_cons_succ, List.getElem?_cons_zero]; try rfl)
            case hQ423 => exact fun _ _ _ h => h
            case hy423 => (refine Or.inl ⟨by rfl, ?_⟩; intro wq hSw; (try dsimp only at hSw); go_simp; (try with_reducible rfl))
            (try simp only [Act.put, List.setIfInBounds_toArray, List.set_cons_zero, List.set_cons_succ])
            refine wpAnyH_take (i := 23) (oi := ?oi424) (v := ?v424) ?hi424 (by kernel_rfl) (by kernel_rfl) (by kernel_rfl) ?hQ424 ?hy424 (by assumption) ?_
            case hi424 => (simp only [List.getElem?_toArray, List.getElem?_cons_succ, List.getElem?_cons_zero]; try rfl)
            case hQ424 => exact fun _ _ _ h => h
            case hy424 => (refine Or.inl ⟨by rfl, ?_⟩; intro wq hSw; (try dsimp only at hSw); go_simp; (try with_reducible rfl))
            (try simp only [Act.put, List.setIfInBounds_toArray, List.set_cons_zero, List.set_cons_succ])
            refine wpAnyH_ready (rs := [24]) (by kernel_rfl) (by simp) ?_
            refine AllReadyH.cons (o := ?oi425) ?hi425 ?ti425 AllReadyH.nil
            case hi425 => (simp only [List.getElem?_toArray, List.getElem?_cons_succ, List.getElem?_cons_zero]; try rfl)
            case ti425 =>
              intro KQ hKQ
              go_simp
              go_at_call 15
              refine Calls.mono (HPS.out _) ?_
              rintro e w1 ⟨rfl, hb1⟩
              obtain ⟨x4, rfl⟩ := hb1.get
              clear hb1
              refine hKQ.out _ _ (by simp [go_sem, ↓IntWalk.iteOmega, *]) (fun hHeld2 => ?_)
              clear hHeld hKQ KQ; have hHeld := hHeld2; clear hHeld2
              (try simp only [Act.put, List.setIfInBounds_toArray, List.set_cons_zero, List.set_cons_succ])
              refine wpAnyH_take (i := 25) (oi := ?oi426) (v := ?v426) ?hi426 (by kernel_rfl) (by kernel_rfl) (by kernel_rfl) ?hQ426 ?hy426 (by assumption) ?_
              case hi426 => (simp only [List.getElem?_toArray, List.getElem?_cons_succ, List.getElem?_cons_zero]; try rfl)
              case hQ426 => exact fun _ _ _ h => h
              case hy426 => (refine Or.inl ⟨by rfl, ?_⟩; intro wq hSw; (try dsimp only at hSw); go_simp; (try with_reducible rfl))
              (try simp only [Act.put, List.setIfInBounds_toArray, List.set_cons_zero, List.set_cons_succ])
              refine wpAnyH_take (i := 26) (oi := ?oi427) (v := ?v427) ?hi427 (by kernel_rfl) (by kernel_rfl) (by kernel_rfl) ?hQ427 ?hy427 (by assumption) ?_
              case hi427 => (simp only [List.getElem?_toArray, List.getElem?_cons_succ, List.getElem?_cons_zero]; try rfl)
              case hQ427 => exact fun _ _ _ h => h
              case hy427 => (refine Or.inl ⟨by rfl, ?_⟩; intro wq hSw; (try dsimp only at hSw); go_simp; (try with_reducible rfl))
              (try simp only [Act.put, List.setIfInBounds_toArray, List.set_cons_zero, List.set_cons_succ])
              refine wpAnyH_done (by kernel_rfl) ?_ _
              have HKL := Lib.hid hlt
              obtain ⟨gO, rfl⟩ : ∃ g, g = gk := ⟨gk, rfl⟩
              go_wp2
              go_loopg [6] k (fun g2 iy wr2 => ∃ j : Nat, iy = .int .i64 j ∧ j ≤ k ∧ k - j ≤ g2 ∧ Hid (∀ m q, m < j → vs[m]? = some q → befV p q = true ∨ befV q p = true) ∧ Ext (w.alloc (.cells #[.string s0, .slice A1 n1 m1, .slice K n2 kc, .slice A3 n3 m3, .slice A4 n4 m4] 27)) wr2)
              case atStart => exact ⟨0, rfl, by omega, by omega, Lib.hid fun m q h => absurd h (by omega), by repeat (first | exact Ext.refl' _ | assumption | apply Ext.ex' | apply Ext.al | apply Ext.drN | apply Ext.dr)⟩
              case round =>
                obtain ⟨j, rfl, hj, hg2, HDJ, hE2⟩ := hrel
                obtain ⟨x5, rfl⟩ := hE2.get
                have HG2 := Lib.hid hg2
                clear hg2 hE2
                by_cases hjk : j < k
                · have hjkz : (j : Int) < (k : Int) := by omega
                  have hjn : (j : Int) < (n : Int) := by omega
                  obtain ⟨q, b2, oo2, hqv, hLe, hb2, d0, d1, d2, d3, d4, d5, d6, d7, d8⟩ := hL.ve9 HN.out (show j < n by omega)
                  simp only [Option.some.injEq, Addr.mk.injEq, and_true] at hLe
                  obtain ⟨rfl, rfl⟩ := hLe
                  have HQV := Lib.hid hqv
                  clear hqv
                  have HB1 := Lib.hid fun W => before49_any p q W
                  have HB2 := Lib.hid fun W => before49_any q p W
                  obtain ⟨c1, hc1⟩ : ∃ c, befV p q = c := ⟨_, rfl⟩
                  obtain ⟨c2, hc2⟩ : ∃ c, befV q p = c := ⟨_, rfl⟩
                  have HC12 : Hid (befV p q = c1 ∧ befV q p = c2) := Lib.hid ⟨hc1, hc2⟩
                  rw [hc1] at HB1
                  rw [hc2] at HB2
                  clear hc1 hc2
                  cases c1
                  · cases c2
                    · go_wp2_with fail
                      refine wp_region_ext (by kernel_rfl) (by kernel_rfl) ?_
                      repeat (first | go_big_quiet_step ((go_at_call 32; first | with_reducible exact Calls.ext_of (HB1.out _) | with_reducible exact Calls.ext_of (HB2.out _))) | quiet_step ((go_at_call 32; first | with_reducible exact Calls.ext_of (HB1.out _) | with_reducible exact Calls.ext_of (HB2.out _))))
                      refine wpQuiet_nil ?_
                      intro _ hw'
                      obtain ⟨xq, hw''⟩ := hw'
                      subst hw''
                      go_wp2
                      go_ret
                      exact ⟨⟨false, rfl, fun h => by cases h⟩, by repeat (first | exact Ext.refl' _ | assumption | apply Ext.ex' | apply Ext.al | apply Ext.drN | apply Ext.dr)⟩
                    · go_wp2_with fail
                      refine wp_region_ext (by kernel_rfl) (by kernel_rfl) ?_
                      repeat (first | go_big_quiet_step ((go_at_call 32; first | with_reducible exact Calls.ext_of (HB1.out _) | with_reducible exact Calls.ext_of (HB2.out _))) | quiet_step ((go_at_call 32; first | with_reducible exact Calls.ext_of (HB1.out _) | with_reducible exact Calls.ext_of (HB2.out _))))
                      refine wpQuiet_nil ?_
                      intro _ hw'
                      obtain ⟨xq, hw''⟩ := hw'
                      subst hw''
                      go_wp2
                      go_roundg (gk - 1)
                      case rel => exact ⟨j + 1, by go_num, by omega, by have := HG2.out; omega, Lib.hid fun m q' h1 h2 => by
                        rcases Nat.lt_or_ge m j with h3 | h3
                        · exact HDJ.out m q' h3 h2
                        · have : m = j := by omega
                          subst this
                          rw [HQV.out] at h2
                          injection h2 with h2
                          subst h2
                          exact .inr HC12.out.2, by repeat (first | exact Ext.refl' _ | assumption | apply Ext.ex' | apply Ext.al | apply Ext.drN | apply Ext.dr)⟩
                      case measure => have := HG2.out; omega
                  · clear HB2
                    go_wp2_with fail
                    refine wp_region_ext (by kernel_rfl) (by kernel_rfl) ?_
                    repeat (first | go_big_quiet_step ((go_at_call 32; first | with_reducible exact Calls.ext_of (HB1.out _))) | quiet_step ((go_at_call 32; first | with_reducible exact Calls.ext_of (HB1.out _))))
                    refine wpQuiet_nil ?_
                    intro _ hw'
                    obtain ⟨xq, hw''⟩ := hw'
                    subst hw''
                    go_wp2
                    go_roundg (gk - 1)
                    case rel => exact ⟨j + 1, by go_num, by omega, by have := HG2.out; omega, Lib.hid fun m q' h1 h2 => by
                      rcases Nat.lt_or_ge m j with h3 | h3
                      · exact HDJ.out m q' h3 h2
                      · have : m = j := by omega
                        subst this
                        rw [HQV.out] at h2
                        injection h2 with h2
                        subst h2
                        exact .inl HC12.out.1, by repeat (first | exact Ext.refl' _ | assumption | apply Ext.ex' | apply Ext.al | apply Ext.drN | apply Ext.dr)⟩
                    case measure => have := HG2.out; omega
                · have hjkz : ¬ ((j : Int) < (k : Int)) := by omega
                  have hje : j = k := by omega
                  have HDK : Hid (∀ m q, m < k → vs[m]? = some q → befV p q = true ∨ befV q p = true) := Lib.hid (by rw [← hje]; exact HDJ.out)
                  clear HDJ hje
                  go_wp2
                  go_roundg (gO - 1)
                  case rel => exact ⟨k + 1, by go_num, by omega, by have := HG.out; omega, Lib.hid (HSP.out.step HPI.out HOK.out HDK.out), by repeat (first | exact Ext.refl' _ | assumption | apply Ext.ex' | apply Ext.al | apply Ext.drN | apply Ext.dr)⟩
                  case measure => have := HG.out; omega
    · have hkz : ¬ ((k : Int) < (n : Int)) := by omega
      have hkn : k = n := by omega
      have HSV : Hid (SndP kl vs vs.length) := Lib.hid (by rw [HN.out, ← hkn]; exact HSP.out)
      clear HSP
      go_wp2
      go_ret
      exact ⟨⟨true, rfl, fun _ => HSV.out⟩, by repeat (first | exact Ext.refl' _ | assumption | apply Ext.ex' | apply Ext.al | apply Ext.drN | apply Ext.dr)⟩
def UsR (n : Nat) (kl : List Int) (vs : List VeA) (e : Ending) : Prop := ∃ b, e = .returned (.bool b) ∧ (b = true → n ≤ 200 ∧ SndP kl vs vs.length)
set_option maxRecDepth 100000 in
set_option maxHeartbeats 8000000 in
theorem usable_any (s0 : ByteArray) (A1 K A3 A4 : Option Addr) (n1 m1 n2 kc n3 m3 n4 m4 : Nat) (cl : List Col) (ks : List Int) (fl : List Fo) (es : List Ex) (css : List (List Value)) (L : Option Addr) (n lc : Nat) (vs : List VeA) (w : World) (hs0 : s0.size ≤ 9223372036854775807) (hT : TabOk w A1 K A3 A4 n1 n2 n3 n4 cl ks fl es css)
    (hn : vs.length = n) (hnb : n ≤ 1048576) (hL : Rd w 9 L n (vs.flatMap encVe)) (hV : VsOk w vs) :
    Calls Tryz.prog 5 #[.agg #[.string s0, .slice A1 n1 m1, .slice K n2 kc, .slice A3 n3 m3, .slice A4 n4 m4], .slice L n lc] w fun e w' => UsR n (cl.map Col.k) vs e ∧ Ext w w' := by
  have HS := Lib.hid fun W (e : Ext w W) => sound_any s0 A1 K A3 A4 n1 m1 n2 kc n3 m3 n4 m4 cl ks fl es css L n lc vs W hs0 (hT.ext e) hn hnb (hL.ext e) (hV.ext e)
  clear hT hL hV hs0
  go_enter Tryz.func5, Tryz.ntmps5
  by_cases h2 : n ≤ 200
  · have h2z : (n : Int) ≤ 200 := by omega
    go_wp2_with fail
    refine (HS.out _ (by repeat (first | exact Ext.refl' _ | assumption | apply Ext.ex' | apply Ext.al | apply Ext.drN | apply Ext.dr))).mono ?_
    rintro e w1 ⟨⟨bb, rfl, HB⟩, hb1⟩
    obtain ⟨x1, rfl⟩ := hb1.get
    clear hb1
    go_wp2
    go_ret
    exact ⟨⟨_, rfl, fun h => ⟨h2, HB h⟩⟩, by repeat (first | exact Ext.refl' _ | assumption | apply Ext.ex' | apply Ext.al | apply Ext.drN | apply Ext.dr)⟩
  · have h2z : ¬ (n : Int) ≤ 200 := by omega
    go_wp2
    go_ret
    exact ⟨⟨false, rfl, fun h => by cases h⟩, by repeat (first | exact Ext.refl' _ | assumption | apply Ext.ex' | apply Ext.al | apply Ext.drN | apply Ext.dr)⟩

end Go.Proofs.YtflhikpihbenaaaGreat
